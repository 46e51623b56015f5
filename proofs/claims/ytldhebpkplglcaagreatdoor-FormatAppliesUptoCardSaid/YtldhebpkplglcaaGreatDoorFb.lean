/- A strings.Builder in a block b of the call's own, its row of bytes behind block C, which may be later than b (what the call laid behind the builder stands ahead of C): WriteByte, String. format.code: base64. format.code: the walk. format.uri. -/
import Derived.Test.YtldhebpkplglcaaGreatDoorMb
import Derived.Test.YtldhebpkplglcaaGreatDoorShelf
import Derived.Test.YtldhebpkplglcaaGreatDoorFa
import Derived.Test.YtldhebpkplglcaaGreatDoorMk
import Derived.Lib.FrozenHead2
import Derived.Lib.BufferWrite
import Derived.Lib.SlBuf
import Derived.Deep.CutBlock
namespace Go.Proofs.YtldhebpkplglcaaGreatDoor
open Go.RowKit

/-- Ahead of block C the world is as it was, but for block b. -/
structure BelowX (C b : Nat) (w w' : World) : Prop where
  os : w'.os = w.os
  tape : w'.tape = w.tape
  output : w'.output = w.output
  size : w.heap.size ≤ w'.heap.size
  block : ∀ k, k < C → k ≠ b → w'.heap[k]? = w.heap[k]?
  its : ∀ k sb n, k ≠ b → w.heap[k]? = some (.stringIter sb n) → w'.heap[k]? = some (.stringIter sb n)
theorem BelowX.refl (C b : Nat) (w : World) : BelowX C b w w := ⟨rfl, rfl, rfl, Nat.le_refl _, fun _ _ _ => rfl, fun _ _ _ _ h => h⟩
theorem BelowX.trans {C b : Nat} {u v w : World} (h : BelowX C b u v) (k : BelowX C b v w) : BelowX C b u w :=
  ⟨k.os.trans h.os, k.tape.trans h.tape, k.output.trans h.output, Nat.le_trans h.size k.size, fun i hi hb => (k.block i hi hb).trans (h.block i hi hb), fun i sb n hb hi => k.its i sb n hb (h.its i sb n hb hi)⟩
theorem BelowX.of {C b : Nat} {w w' : World} (h : Below C w w') (hi : ∀ k sb n, k ≠ b → w.heap[k]? = some (.stringIter sb n) → w'.heap[k]? = some (.stringIter sb n)) : BelowX C b w w' := ⟨h.os, h.tape, h.output, h.size, fun k hk _ => h.block k hk, hi⟩
theorem BelowX.below {C b : Nat} {w w' : World} (h : BelowX C b w w') {B : Nat} (hB : B ≤ b) (hC : B ≤ C) : Below B w w' :=
  ⟨h.os, h.tape, h.output, h.size, fun k hk => h.block k (by omega) (by omega)⟩
theorem BelowX.setCell {C b : Nat} {u w : World} (h : BelowX C b u w) {p : Addr} (hp : p.block = b) (x : Value) : BelowX C b u (w.setCell p x) :=
  h.trans ⟨rfl, rfl, rfl, by simp [World.setCell], fun k _ hk => Below.heap_setCell _ _ _ _ (by omega), fun k _ _ hk hi => (Below.heap_setCell _ _ _ _ (by omega)).trans hi⟩
theorem BelowX.cell {C b : Nat} {w w' : World} (h : BelowX C b w w') {p : Addr} (hp : p.block < C) (hb : p.block ≠ b) : w'.cell? p = w.cell? p := World.cell?_of_block (h.block p.block hp hb)
/-- A string's iterator is no row: what makes a row grow leaves it. -/
theorem its_grown {C : Nat} {e : TypeId} {v : Value} {n : Nat} {xs : List Value} {w wa w' : World} (hown : w.ownsRowF C e 1 v n xs) (ha : Below w.heap.size w wa) (hg : wa.grownBy w' v.ownBlock) (k : Nat) (sb : ByteArray) (j : Nat) (hk : w.heap[k]? = some (.stringIter sb j)) : w'.heap[k]? = some (.stringIter sb j) := by
  have hlt : k < w.heap.size := (Array.getElem?_eq_some_iff.1 hk).1
  have hne : v.ownBlock ≠ some k := by
    rcases hown.2 with ⟨rfl, _⟩ | ⟨g, cap, cur, fz, rfl, _, hgg, _⟩
    · simp [Value.ownBlock]
    · intro he
      simp [Value.ownBlock] at he
      subst he
      rw [hgg] at hk
      cases hk
  rw [hg.block k (Nat.lt_of_lt_of_le hlt ha.size) (fun e => hne e.symm), ha.block k hlt]
  exact hk
/-- The builder. -/
def BldAt (C b : Nat) (p : Value) (l : List UInt8) (w : World) : Prop :=
  b < C ∧ ∃ v, w.heap[b]? = some (.cells #[p, v] 79 (0, 0)) ∧ w.ownsRowF C 5 1 v l.length (Lib.byteCells l)
def Bld (C b : Nat) (l : List UInt8) (w : World) : Prop := BldAt C b (.pointer none) l w ∨ BldAt C b (.pointer (some ⟨b, 0, none⟩)) l w
theorem BldAt.lt {C b : Nat} {p : Value} {l : List UInt8} {w : World} (h : BldAt C b p l w) : b < w.heap.size := by
  obtain ⟨_, v, hb, _⟩ := h
  exact (Array.getElem?_eq_some_iff.1 hb).1
theorem Bld.lt {C b : Nat} {l : List UInt8} {w : World} (h : Bld C b l w) : b < w.heap.size := h.elim BldAt.lt BldAt.lt
theorem ownsRowF_from {w : World} {C b : Nat} {e : TypeId} {v : Value} {n : Nat} {xs : List Value} (h : w.ownsRowF C e 1 v n xs) (hb : b < C) : w.ownsRowF b e 1 v n xs ∧ v.ownBlock ≠ some b := by
  refine ⟨⟨h.1, ?_⟩, ?_⟩
  · rcases h.2 with h1 | ⟨g, cap, cur, fz, hv, hg, h1⟩
    · exact Or.inl h1
    · exact Or.inr ⟨g, cap, cur, fz, hv, by omega, h1⟩
  · intro e
    have := (h.lt b e).1
    omega
theorem BldAt.is {C b : Nat} {p : Value} {l : List UInt8} {w : World} (h : BldAt C b p l w) : Lib.BuilderAtF 79 5 b b p (Lib.byteCells l) w := by
  obtain ⟨hC, v, hb, hown⟩ := h
  have := ownsRowF_from hown hC
  exact ⟨Nat.le_refl b, v, hb, by rw [Lib.byteCells_length]; exact this.1, this.2⟩
theorem Bld.is {C b : Nat} {l : List UInt8} {w : World} (h : Bld C b l w) : Lib.IsBuilderF 79 5 b b (Lib.byteCells l) w := h.imp BldAt.is BldAt.is
theorem Bld.fresh {C b : Nat} {w : World} (hbk : w.heap[b]? = some (.cells #[.pointer none, .slice none 0 0] 79 (0, 0))) (h : b < C) : Bld C b [] w :=
  Or.inl ⟨h, _, hbk, World.ownsRowF_nil _ _ _ _⟩
theorem BldAt.keep {C b : Nat} {p : Value} {l : List UInt8} {w w' : World} (h : BldAt C b p l w) (hb : w'.heap[b]? = w.heap[b]?) (hC : ∀ k, C ≤ k → k < w.heap.size → w'.heap[k]? = w.heap[k]?) : BldAt C b p l w' := by
  obtain ⟨h1, v, h2, h3⟩ := h
  refine ⟨h1, v, hb.trans h2, h3.1, ?_⟩
  rcases h3.2 with h4 | ⟨g, cap, cur, fz, hv, hg, hgg, h4⟩
  · exact Or.inl h4
  · exact Or.inr ⟨g, cap, cur, fz, hv, hg, (hC g hg (Array.getElem?_eq_some_iff.1 hgg).1).trans hgg, h4⟩
theorem Bld.keep {C b : Nat} {l : List UInt8} {w w' : World} (h : Bld C b l w) (hb : w'.heap[b]? = w.heap[b]?) (hC : ∀ k, C ≤ k → k < w.heap.size → w'.heap[k]? = w.heap[k]?) : Bld C b l w' :=
  h.imp (fun h => h.keep hb hC) (fun h => h.keep hb hC)
/-- A call that only reads. -/
theorem Bld.stay {C b : Nat} {l : List UInt8} {w w' : World} (h : Bld C b l w) (hb : Below w.heap.size w w') : Bld C b l w' := h.keep (hb.block b h.lt) fun k _ hk => hb.block k hk

theorem copyCheckB (C b : Nat) (l : List UInt8) (w : World) (h : Bld C b l w) :
    Calls Tryz.prog 66 #[.pointer (some ⟨b, 0, none⟩)] w fun e w' => e = .returned (.tuple #[]) ∧ (BldAt C b (.pointer (some ⟨b, 0, none⟩)) l w' ∧ BelowX C b w w' ∧ w'.heap.size = w.heap.size) := by
  rcases h with h | h
  · have hi := h.is
    refine (copyCheck_fresh b w hi.cell0 hi.shape hi.frozen0).mono ?_
    rintro e w' ⟨rfl, rfl⟩
    refine ⟨rfl, ?_, (BelowX.refl C b w).setCell rfl _, by simp [World.setCell]⟩
    obtain ⟨h1, v, h2, h3⟩ := h
    refine ⟨h1, v, ?_, ?_⟩
    · simp [World.setCell, Array.getElem?_modify, h2]
    · refine h3.kept (row := some b) ⟨rfl, rfl, rfl, by simp [World.setCell], fun k _ hk => Below.heap_setCell _ _ _ _ (fun e => hk (by simp [e]))⟩ ?_
      exact Or.inr (ownsRowF_from h3 h1).2
  · refine (copyCheck_used b w h.is.cell0).mono ?_
    rintro e w' ⟨rfl, rfl⟩
    exact ⟨rfl, h, BelowX.refl C b _, rfl⟩

set_option maxRecDepth 100000 in
set_option maxHeartbeats 2000000 in
theorem WriteByte (C b : Nat) (l : List UInt8) (c : UInt8) (w : World) (h : Bld C b l w) (hlen : l.length + 1 ≤ 140737488355328) (hC : C ≤ w.heap.size) :
    Calls Tryz.prog 40 #[.pointer (some ⟨b, 0, none⟩), .int .u8 c.toNat] w fun e w' => e = .returned .nilIface ∧ (Bld C b (l ++ [c]) w' ∧ BelowX C b w w') := by
  obtain ⟨i0, hi, hz0, hz1, hz2⟩ := info_parts u8Slice.info
  have hcc := hid (copyCheckB C b l w h)
  go_enter Tryz.func40, Tryz.ntmps40
  go_wp2_with fail
  refine (hcc.out).mono ?_
  rintro e w1 ⟨rfl, h1, hb1, hz⟩
  have hz1' : C ≤ w1.heap.size := by omega
  clear hz
  obtain ⟨hbC, v, hbk, hown⟩ := h1
  have hne : v.ownBlock ≠ some b := (ownsRowF_from hown hbC).2
  have c0 : w1.cell? ⟨b, 0, none⟩ = some (.pointer (some ⟨b, 0, none⟩)) := by rw [Lib.cell_of_heap hbk]; rfl
  have c1 : w1.cell? ⟨b, 1, none⟩ = some v := by rw [Lib.cell_of_heap hbk]; rfl
  go_wp2_with (at_builtin; refine wpList_append_ownF _ rfl _ _ 77 rfl C 5 i0 (.int .u8 0) 1 1 Tryz.underlying77 hi hz0 hz1 hz2 rfl (by decide) _ _ _ rfl (hown.alloc _) ⟨w1.heap.size, 0, none⟩ 1 1 [.int .u8 c.toNat] rfl rfl ?c1 ?c2 ?c3 ?c4 ?c5 ?_)
  case c1 =>
    intro j u hj
    match j, hj with
    | 0, hj => simp at hj; subst hj; simp [Addr.add]
  case c2 => intro u hu; simp at hu; subst hu; rfl
  case c3 => unfold maxLen; omega
  case c4 => omega
  case c5 => simp; omega
  intro v' w2 hown' hgrow _
  have hlt : b < w1.heap.size := (Array.getElem?_eq_some_iff.1 hbk).1
  have hb2 : w2.heap[b]? = some (.cells #[.pointer (some ⟨b, 0, none⟩), v] 79 (0, 0)) := by
    rw [hgrow.block b (by simp; omega) (fun e => hne e.symm), Lib.alloc_old w1 _ b hlt]
    exact hbk
  have d0 : w2.cell? ⟨b, 0, none⟩ = some (.pointer (some ⟨b, 0, none⟩)) := by rw [Lib.cell_of_heap hb2]; rfl
  have d1 : w2.cell? ⟨b, 1, none⟩ = some v := by rw [Lib.cell_of_heap hb2]; rfl
  have f1 : w2.frozen? ⟨b, 1, none⟩ = false := Lib.frozen_of_heap hb2 1
  obtain ⟨g, cap, rfl⟩ : ∃ g cap, v' = .slice (some ⟨g, 0, none⟩) (l.length + 1) cap := by
    rcases hown'.2 with ⟨_, h0⟩ | ⟨g, cap, cur, fz, hv, _⟩
    · omega
    · exact ⟨g, cap, hv⟩
  go_wp2
  go_ret
  have hcells : Lib.byteCells (l ++ [c]) = Lib.byteCells l ++ [.int .u8 c.toNat] := Lib.byteCells_append l [c]
  have hlen2 : (l ++ [c]).length = l.length + 1 := by simp
  have hown2 : w2.ownsRowF C 5 1 (.slice (some ⟨g, 0, none⟩) (l.length + 1) cap) (l ++ [c]).length (Lib.byteCells (l ++ [c])) := by
    rw [hcells, hlen2]; exact hown'
  refine ⟨rfl, ?_, ?_⟩
  · refine Or.inr ⟨hbC, _, ?_, hown2.kept (row := some b) ⟨rfl, rfl, rfl, by simp [World.setCell], fun k _ hk => Below.heap_setCell _ _ _ _ (fun e => hk (by simp [e]))⟩ (Or.inr (ownsRowF_from hown2 hbC).2)⟩
    simp [World.setCell, Array.getElem?_modify, hb2]
  · have hB : Below C w1 w2 := ((Below.refl C w1).alloc (by omega) _).grown hgrow (by simp; omega) (fun k hk => (hown.lt k hk).1)
    exact (hb1.trans (BelowX.of hB fun k sb j _ hk => its_grown hown ((Below.refl _ w1).alloc (Nat.le_refl _) _) hgrow k sb j hk)).setCell rfl _

theorem StringB (C b : Nat) (l : List UInt8) (w : World) (h : Bld C b l w) :
    Calls Tryz.prog 41 #[.pointer (some ⟨b, 0, none⟩)] w fun e w' => e = .returned (.string ⟨l.toArray⟩) ∧ Below b w w' :=
  (Tryz.Builder_String_any_k b b l w h.is (Nat.le_of_lt h.lt)).mono fun _ _ h => ⟨h.1, h.2.2.1⟩

end Go.Proofs.YtldhebpkplglcaaGreatDoor

namespace Go.Proofs.YtldhebpkplglcaaGreatDoor
open Go.RowKit

theorem run_copy_head {P : Program} (w : World) (dT sT ty elem : TypeId) (g n dCap : Nat) (s : List UInt8) (cur : Array Value) (t : TypeId)
    (hu : P.underlying dT = some (.slice elem)) (hs : (P.info? elem).map (·.size) = some 1) (hg : w.heap[g]? = some (.cells cur t (0, 0))) (hcur : cur.size = n) :
    (Builtin.copy_ #[dT, sT] ty #[.slice (some ⟨g, 0, none⟩) n dCap, .string ⟨s.toArray⟩]).run P w =
      .ok (.int .i64 (min s.length n : Nat)) (w.setRow g (Lib.byteCells (s.take n) ++ cur.toList.drop (min s.length n)).toArray) := by
  have hlen : (Lib.byteCells (s.take n)).length = min s.length n := by rw [Lib.byteCells_length, List.length_take, Nat.min_comm]
  have hst := run_storeCells_at P g 0 t (Lib.byteCells (s.take n)) 0 cur w hg (by rw [hlen]; omega) (Lib.byteCells_one _)
  have hsz : (⟨s.toArray⟩ : ByteArray).size = s.length := rfl
  have htk : List.take (min s.length n) (List.map (fun b : UInt8 => Value.int IntKind.u8 (b.toNat : Int)) s) = Lib.byteCells (s.take n) := by
    unfold Lib.byteCells
    rw [← List.map_take]
    congr 1
    rcases Nat.le_total s.length n with h | h
    · rw [Nat.min_eq_left h, List.take_of_length_le (Nat.le_refl _), List.take_of_length_le h]
    · rw [Nat.min_eq_right h]
  rw [hlen] at hst
  simp only [Nat.add_zero, Nat.zero_add, List.take_zero, List.nil_append] at hst
  cases hq : P.info? elem with
  | none => simp [hq] at hs
  | some i =>
    simp [Builtin.copy_, run_underlying hu, Builtin.lenOf, Builtin.firstCells, sizeOf, typeInfo, hq, hsz]
    rw [htk, hst]
    simp [Result.andThen]
    rfl

/-- One round: up to three bytes as four signs. -/
def bits3 (r : List UInt8) : Nat := (r.getD 0 0).toNat * 65536 + (r.getD 1 0).toNat * 256 + (r.getD 2 0).toNat
def signK (r : List UInt8) (k : Nat) : UInt8 := if min r.length 3 < k then 61 else sgnB (bits3 r / 2 ^ (18 - 6 * k) % 64)
theorem b64_step (r : List UInt8) (h : r ≠ []) : b64 r = [signK r 0, signK r 1, signK r 2, signK r 3] ++ b64 (r.drop 3) := by
  match r, h with
  | [a], _ =>
    have := u8_lt a
    simp only [b64, signK, bits3, List.length_cons, List.length_nil, List.drop_succ_cons, List.drop_nil, List.append_nil, List.getD_cons_zero, List.getD_cons_succ, List.getD_nil]
    simp only [show (0 : UInt8).toNat = 0 from rfl]
    simp
    constructor
    · congr 1; omega
    · congr 1; omega
  | [a, b], _ =>
    have := u8_lt a
    have := u8_lt b
    simp only [b64, signK, bits3, List.length_cons, List.length_nil, List.drop_succ_cons, List.drop_nil, List.append_nil, List.getD_cons_zero, List.getD_cons_succ, List.getD_nil]
    simp only [show (0 : UInt8).toNat = 0 from rfl]
    simp
    refine ⟨?_, ?_, ?_⟩
    · congr 1; omega
    · congr 1; omega
    · congr 1; omega
  | a :: b :: c :: t, _ =>
    have := u8_lt a
    have := u8_lt b
    have := u8_lt c
    have hm : min (a :: b :: c :: t).length 3 = 3 := by simp only [List.length_cons]; omega
    simp only [b64, signK, bits3, hm, List.drop_succ_cons, List.drop_zero, List.getD_cons_zero, List.getD_cons_succ]
    simp
    refine ⟨?_, ?_, ?_, ?_⟩
    · congr 1; omega
    · congr 1; omega
    · congr 1; omega
    · congr 1; omega

end Go.Proofs.YtldhebpkplglcaaGreatDoor

namespace Go.Proofs.YtldhebpkplglcaaGreatDoor
open Go.RowKit

theorem wraps_u32' (n : Int) (h₀ : 0 ≤ n) (h₁ : n < 2 ^ 32) : IntKind.u32.wrap n = n := by rw [IntKind.wrap_u32]; omega
theorem or3 (x0 x1 x2 : UInt8) : bits BinOp.or IntKind.u32 (bits BinOp.or IntKind.u32 ((x0.toNat : Int) % 4294967296 * 65536 % 4294967296) ((x1.toNat : Int) % 4294967296 * 256 % 4294967296)) ((x2.toNat : Int) % 4294967296) = ((x0.toNat * 65536 + x1.toNat * 256 + x2.toNat : Nat) : Int) := by
  have := u8_lt x0
  have := u8_lt x1
  have := u8_lt x2
  have e0 : (x0.toNat : Int) % 4294967296 * 65536 % 4294967296 = (x0.toNat : Int) * 65536 := by omega
  have e1 : (x1.toNat : Int) % 4294967296 * 256 % 4294967296 = (x1.toNat : Int) * 256 := by omega
  have e2 : (x2.toNat : Int) % 4294967296 = (x2.toNat : Int) := by omega
  rw [e0, e1, e2, bits_join .u32 32 (by decide) wraps_u32' 16 ((x0.toNat : Int) * 65536) ((x1.toNat : Int) * 256) (by omega) (by omega) (by omega) (by omega) (by omega) (by omega), bits_join .u32 32 (by decide) wraps_u32' 8 ((x0.toNat : Int) * 65536 + (x1.toNat : Int) * 256) (x2.toNat : Int) (by omega) (by omega) (by omega) (by omega) (by omega) (by omega)]
  omega
theorem and63 (b d : Nat) (h : b < 4294967296) : bits BinOp.and IntKind.u32 ((b / d : Nat) : Int) 63 = ((b / d % 64 : Nat) : Int) := by
  have h1 : b / d < 4294967296 := Nat.lt_of_le_of_lt (Nat.div_le_self b d) h
  have := bits_mask .u32 32 (by decide) wraps_u32' 6 (by decide) ((b / d : Nat) : Int) (Int.natCast_nonneg _) (by omega)
  exact this
theorem sign_at (i : Nat) (h : i < (⟨#[65, 66, 67, 68, 69, 70, 71, 72, 73, 74, 75, 76, 77, 78, 79, 80, 81, 82, 83, 84, 85, 86, 87, 88, 89, 90, 97, 98, 99, 100, 101, 102, 103, 104, 105, 106, 107, 108, 109, 110, 111, 112, 113, 114, 115, 116, 117, 118, 119, 120, 121, 122, 48, 49, 50, 51, 52, 53, 54, 55, 56, 57, 43, 47]⟩ : ByteArray).size) : (⟨#[65, 66, 67, 68, 69, 70, 71, 72, 73, 74, 75, 76, 77, 78, 79, 80, 81, 82, 83, 84, 85, 86, 87, 88, 89, 90, 97, 98, 99, 100, 101, 102, 103, 104, 105, 106, 107, 108, 109, 110, 111, 112, 113, 114, 115, 116, 117, 118, 119, 120, 121, 122, 48, 49, 50, 51, 52, 53, 54, 55, 56, 57, 43, 47]⟩ : ByteArray)[i]'h = sgnB i := by
  have hz : (⟨#[65, 66, 67, 68, 69, 70, 71, 72, 73, 74, 75, 76, 77, 78, 79, 80, 81, 82, 83, 84, 85, 86, 87, 88, 89, 90, 97, 98, 99, 100, 101, 102, 103, 104, 105, 106, 107, 108, 109, 110, 111, 112, 113, 114, 115, 116, 117, 118, 119, 120, 121, 122, 48, 49, 50, 51, 52, 53, 54, 55, 56, 57, 43, 47]⟩ : ByteArray).size = 64 := rfl
  have key : ∀ j : Fin 64, (⟨#[65, 66, 67, 68, 69, 70, 71, 72, 73, 74, 75, 76, 77, 78, 79, 80, 81, 82, 83, 84, 85, 86, 87, 88, 89, 90, 97, 98, 99, 100, 101, 102, 103, 104, 105, 106, 107, 108, 109, 110, 111, 112, 113, 114, 115, 116, 117, 118, 119, 120, 121, 122, 48, 49, 50, 51, 52, 53, 54, 55, 56, 57, 43, 47]⟩ : ByteArray)[j.val]'(by rw [show (⟨#[65, 66, 67, 68, 69, 70, 71, 72, 73, 74, 75, 76, 77, 78, 79, 80, 81, 82, 83, 84, 85, 86, 87, 88, 89, 90, 97, 98, 99, 100, 101, 102, 103, 104, 105, 106, 107, 108, 109, 110, 111, 112, 113, 114, 115, 116, 117, 118, 119, 120, 121, 122, 48, 49, 50, 51, 52, 53, 54, 55, 56, 57, 43, 47]⟩ : ByteArray).size = 64 from rfl]; exact j.isLt) = sgnB j.val := by decide +kernel
  exact key ⟨i, by rw [hz] at h; exact h⟩
theorem three_cells (r : List UInt8) (h : 0 < r.length) : (Lib.byteCells (r.take 3) ++ (#[Value.int .u8 0, Value.int .u8 0, Value.int .u8 0] : Array Value).toList.drop (min r.length 3)).toArray = #[.int .u8 (r.getD 0 0).toNat, .int .u8 (r.getD 1 0).toNat, .int .u8 (r.getD 2 0).toNat] := by
  match r, h with
  | [a], _ => rfl
  | [a, b], _ => rfl
  | a :: b :: c :: t, _ =>
    rw [show min (a :: b :: c :: t).length 3 = 3 by simp only [List.length_cons]; omega]
    rfl

set_option maxRecDepth 100000 in
set_option maxHeartbeats 3200000 in
theorem format_code (s : List UInt8) (w : World) (hs : s.length ≤ 17592186044415) :
    Calls Tryz.prog 17 #[.string ⟨s.toArray⟩] w fun e w' => e = .returned (.string ⟨(b64 s).toArray⟩) ∧ Below w.heap.size w w' := by
  have HL := hid (b64_len s)
  go_enter Tryz.func17, Tryz.ntmps17
  go_wp2
  go_loopw [0] (fun v wr => ∃ r acc : List UInt8, v = .string ⟨r.toArray⟩ ∧ r.length ≤ s.length ∧ acc ++ b64 r = b64 s ∧ Bld (w.heap.size + 1) w.heap.size acc wr ∧ Below w.heap.size w wr ∧ w.heap.size + 1 ≤ wr.heap.size) (fun v _ => match v with | .string x => x.size | _ => 0)
  case atStart =>
    exact ⟨s, [], rfl, Nat.le_refl _, rfl, Bld.fresh (heap_alloc_new w _) (by omega), (Below.refl _ w).alloc (Nat.le_refl _) _, by simp⟩
  case round =>
    obtain ⟨r, acc, rfl, hrl, hacc, hbd, hb, hsz⟩ := hrel
    have hrz : (⟨r.toArray⟩ : ByteArray).size = r.length := rfl
    have HA := hid hacc
    have HB := hid hb
    have HD := hid hbd
    clear hacc hb hbd
    cases r with
    | nil =>
      have C := StringB _ _ _ _ HD.out
      rw [show acc = b64 s by rw [← HA.out]; simp [b64]] at C
      obtain ⟨T, hT⟩ : ∃ T, T = b64 s := ⟨_, rfl⟩
      rw [← hT] at C
      replace hT := hid hT
      replace C := hid C
      clear HD HA
      go_wp2_with fail
      refine (C.out).mono ?_
      rintro e w1 ⟨rfl, hb1⟩
      have HB1 := hid (HB.out.trans hb1)
      go_wp2_with fail
      go_ret
      exact ⟨by rw [← hT.out]; rfl, HB1.out⟩
    | cons a0 r0 =>
      obtain ⟨rr, hrr⟩ : ∃ rr, rr = a0 :: r0 := ⟨_, rfl⟩
      rw [← hrr] at hrl HA hrz ⊢
      have hpos : 0 < rr.length := by rw [hrr]; simp
      clear hrr
      obtain ⟨sb, hsb⟩ : ∃ sb : ByteArray, sb = ⟨rr.toArray⟩ := ⟨_, rfl⟩
      rw [← hsb] at hrz ⊢
      replace hsb := hid hsb
      have hlt : (0 : Int) < (sb.size : Nat) := by rw [hrz]; omega
      have hcp := run_copy_head (P := Tryz.prog) (wr.alloc (.cells #[.int .u8 0, .int .u8 0, .int .u8 0] 86)) 77 9 3 5 wr.heap.size 3 3 rr #[.int .u8 0, .int .u8 0, .int .u8 0] 86 Tryz.underlying77 (by kernel_rfl) (heap_alloc_new wr _) rfl
      rw [three_cells rr hpos, ← hsb.out] at hcp
      obtain ⟨x0, hx0⟩ : ∃ x, x = rr.getD 0 0 := ⟨_, rfl⟩
      obtain ⟨x1, hx1⟩ : ∃ x, x = rr.getD 1 0 := ⟨_, rfl⟩
      obtain ⟨x2, hx2⟩ : ∃ x, x = rr.getD 2 0 := ⟨_, rfl⟩
      rw [← hx0, ← hx1, ← hx2] at hcp
      have HX := hid (show bits3 rr = x0.toNat * 65536 + x1.toNat * 256 + x2.toNat by rw [hx0, hx1, hx2]; rfl)
      clear hx0 hx1 hx2
      go_upto_region 4 with fail
      go_cut [5] from 8 to 46 (fun v5 w' => v5 = .int .i64 (min rr.length 3 : Nat) ∧ ∃ w2, w2 = w' ∧ w2.heap[wr.heap.size]? = some (.cells #[.int .u8 x0.toNat, .int .u8 x1.toNat, .int .u8 x2.toNat] 86 (0, 0)) ∧ Below wr.heap.size wr w2 ∧ wr.heap.size < w2.heap.size)
      case first =>
        replace hcp := hid hcp
        go_wp2_with fail
        rw [hcp.out]
        simp only [Result.andThen]
        rw [Oper.upon_value]
        go_wp2
        go_meet
        case rel =>
          refine ⟨rfl, _, rfl, setRow_heap _ _ _ _ _ _ (heap_alloc_new wr _), ?_, by simp⟩
          exact ⟨rfl, rfl, rfl, by simp, fun k hk => (setRow_other _ _ _ _ (by omega)).trans (Lib.alloc_old wr _ k hk)⟩
      case rest =>
        obtain ⟨rfl, w2, rfl, hth, hb2, hsz2⟩ := hcut
        have HD2 := hid (HD.out.stay hb2)
        have HB2 := hid (below_trans HB.out hb2)
        clear hcp HD HB hb2
        have c0 : w2.cell? ⟨wr.heap.size, 0, none⟩ = some (.int .u8 x0.toNat) := by rw [Lib.cell_of_heap hth]; rfl
        have c1 : w2.cell? ⟨wr.heap.size, 1, none⟩ = some (.int .u8 x1.toNat) := by rw [Lib.cell_of_heap hth]; rfl
        have c2 : w2.cell? ⟨wr.heap.size, 2, none⟩ = some (.int .u8 x2.toNat) := by rw [Lib.cell_of_heap hth]; rfl
        replace hth := hid hth
        go_upto_region 6 with fail
        go_cut [6] from 8 to 46 (fun v6 w' => v6 = .int .u32 (bits3 rr : Nat) ∧ w2 = w')
        case first =>
          go_wp2_with fail
          go_meet
          case rel =>
            refine ⟨?_, rfl⟩
            rw [HX.out]
            exact congrArg (Value.int .u32) (or3 x0 x1 x2)
        case rest =>
          obtain ⟨rfl, rfl⟩ := hcut
          have hsb2 : sb.extract (min rr.length 3) rr.length = ⟨(rr.drop 3).toArray⟩ := by
            rw [hsb.out, extract_drop]
            rcases Nat.le_total rr.length 3 with h | h
            · rw [Nat.min_eq_left h, List.drop_of_length_le (Nat.le_refl _), List.drop_of_length_le h]
            · rw [Nat.min_eq_right h]
          rw [hsb2]
          obtain ⟨sb2, hse2⟩ : ∃ sb2 : ByteArray, sb2 = ⟨(rr.drop 3).toArray⟩ := ⟨_, rfl⟩
          rw [← hse2]
          replace hse2 := hid hse2
          have hsz3 : w.heap.size + 1 ≤ w2.heap.size := by omega
          clear hsb2 c0 c1 c2 hth HX hlt hrz
          obtain ⟨bb, hbb⟩ : ∃ bb, bb = bits3 rr := ⟨_, rfl⟩
          rw [← hbb]
          replace hbb := hid hbb
          obtain ⟨nn, hnn⟩ : ∃ nn, nn = min rr.length 3 := ⟨_, rfl⟩
          rw [← hnn]
          have hn1 : nn ≤ 3 := by omega
          replace hnn := hid hnn
          go_wp2_with fail
          go_loopw [31] (fun v wk => ∃ k : Nat, v = .int .i64 (k : Nat) ∧ k ≤ 4 ∧ Bld (w.heap.size + 1) w.heap.size (acc ++ (List.range k).map (signK rr)) wk ∧ BelowX (w.heap.size + 1) w.heap.size w2 wk) (fun v _ => 4 - (intOf v).toNat)
          case atStart => exact ⟨0, rfl, by omega, by simpa using HD2.out, BelowX.refl _ _ _⟩
          case round =>
            obtain ⟨k, rfl, hk4, hbd, hbx⟩ := hrel
            have hlen : (acc ++ List.map (signK rr) (List.range k)).length + 1 ≤ 140737488355328 := by
              have h1 := congrArg List.length HA.out
              rw [List.length_append, HL.out] at h1
              rw [List.length_append, List.length_map, List.length_range]
              omega
            have hszk : w.heap.size + 1 ≤ wr.heap.size := Nat.le_trans hsz3 hbx.size
            have C := WriteByte (w.heap.size + 1) w.heap.size _ (signK rr k) wr hbd hlen hszk
            have HC : ∀ k : Nat, acc ++ List.map (signK rr) (List.range (k + 1)) = (acc ++ List.map (signK rr) (List.range k)) ++ [signK rr k] := by
              intro k; rw [List.range_succ]; simp
            replace HC := hid HC
            have HBX := hid hbx
            have HBD := hid hbd
            clear hbx hbd hlen
            by_cases hk : k = 4
            · subst hk
              go_wp2_with fail
              go_roundw
              case rel =>
                refine ⟨rr.drop 3, acc ++ List.map (signK rr) (List.range 4), by rw [hse2.out], by rw [List.length_drop]; omega, ?_, HBD.out, HB2.out.trans (HBX.out.below (Nat.le_refl _) (by omega)), hszk⟩
                rw [← HA.out, b64_step rr (List.length_pos_iff.1 hpos), List.append_assoc]
                rfl
              case measure =>
                rw [hse2.out, hsb.out]
                show (rr.drop 3).length < rr.length
                rw [List.length_drop]
                omega
            · have hk3 : k < 4 := by omega
              by_cases hnk : nn < k
              · have hs : signK rr k = 61 := by unfold signK; rw [if_pos (by rw [← hnn.out]; exact hnk)]
                rw [hs] at C
                replace C := hid (show Calls Tryz.prog 40 #[.pointer (some ⟨w.heap.size, 0, none⟩), .int .u8 61] wr _ from C)
                rw [← hs] at C
                go_wp2_with fail
                refine (C.out).mono ?_
                rintro e w3 ⟨rfl, hb3, hx3⟩
                have HB3 := hid hb3
                have HX3 := hid (HBX.out.trans hx3)
                clear hb3 hx3
                go_wp2_with fail
                go_roundw
                case rel =>
                  refine ⟨k + 1, by go_num, by omega, ?_, HX3.out⟩
                  rw [HC.out]
                  exact HB3.out
                case measure => simp [intOf]; omega
              · have hs : signK rr k = sgnB (bb / 2 ^ (18 - 6 * k) % 64) := by unfold signK; rw [if_neg (by rw [← hnn.out]; exact hnk), hbb.out]
                rw [hs] at C
                replace C := hid C
                obtain ⟨i, hi⟩ : ∃ i, i = bb / 2 ^ (18 - 6 * k) % 64 := ⟨_, rfl⟩
                rw [← hi] at C hs
                have hi64 : i < 64 := by rw [hi]; exact Nat.mod_lt _ (by decide)
                have hs2 := hid hs
                clear hs
                have hbm := fun d : Nat => and63 bb d (by rw [hbb.out]; unfold bits3; have := u8_lt (rr.getD 0 0); have := u8_lt (rr.getD 1 0); have := u8_lt (rr.getD 2 0); omega)
                obtain rfl | rfl | rfl | rfl : k = 0 ∨ k = 1 ∨ k = 2 ∨ k = 3 := by omega
                · have hm := hbm 262144
                  rw [show bb / 262144 % 64 = i from hi.symm] at hm
                  have hm2 : bits BinOp.and IntKind.u32 ((bb : Int) / 262144) 63 = (i : Nat) := hm
                  clear hm hbm hi
                  go_wp2_with fail
                  rw [sign_at]
                  refine (C.out).mono ?_
                  rintro e w3 ⟨rfl, hb3, hx3⟩
                  rw [← hs2.out, ← HC.out] at hb3
                  have HB3 := hid hb3
                  have HX3 := hid (HBX.out.trans hx3)
                  clear hb3 hx3 C
                  go_wp2_with fail
                  go_roundw
                  case rel => exact ⟨_, by go_num, by omega, HB3.out, HX3.out⟩
                  case measure => simp [intOf]
                · have hm := hbm 4096
                  rw [show bb / 4096 % 64 = i from hi.symm] at hm
                  have hm2 : bits BinOp.and IntKind.u32 ((bb : Int) / 4096) 63 = (i : Nat) := hm
                  clear hm hbm hi
                  go_wp2_with fail
                  rw [sign_at]
                  refine (C.out).mono ?_
                  rintro e w3 ⟨rfl, hb3, hx3⟩
                  rw [← hs2.out, ← HC.out] at hb3
                  have HB3 := hid hb3
                  have HX3 := hid (HBX.out.trans hx3)
                  clear hb3 hx3 C
                  go_wp2_with fail
                  go_roundw
                  case rel => exact ⟨_, by go_num, by omega, HB3.out, HX3.out⟩
                  case measure => simp [intOf]
                · have hm := hbm 64
                  rw [show bb / 64 % 64 = i from hi.symm] at hm
                  have hm2 : bits BinOp.and IntKind.u32 ((bb : Int) / 64) 63 = (i : Nat) := hm
                  clear hm hbm hi
                  go_wp2_with fail
                  rw [sign_at]
                  refine (C.out).mono ?_
                  rintro e w3 ⟨rfl, hb3, hx3⟩
                  rw [← hs2.out, ← HC.out] at hb3
                  have HB3 := hid hb3
                  have HX3 := hid (HBX.out.trans hx3)
                  clear hb3 hx3 C
                  go_wp2_with fail
                  go_roundw
                  case rel => exact ⟨_, by go_num, by omega, HB3.out, HX3.out⟩
                  case measure => simp [intOf]
                · have hm := hbm 1
                  rw [show bb / 1 % 64 = i from hi.symm] at hm
                  have hm2 : bits BinOp.and IntKind.u32 (bb : Int) 63 = (i : Nat) := by simpa using hm
                  clear hm hbm hi
                  go_wp2_with fail
                  rw [sign_at]
                  refine (C.out).mono ?_
                  rintro e w3 ⟨rfl, hb3, hx3⟩
                  rw [← hs2.out, ← HC.out] at hb3
                  have HB3 := hid hb3
                  have HX3 := hid (HBX.out.trans hx3)
                  clear hb3 hx3 C
                  go_wp2_with fail
                  go_roundw
                  case rel => exact ⟨_, by go_num, by omega, HB3.out, HX3.out⟩
                  case measure => simp [intOf]

end Go.Proofs.YtldhebpkplglcaaGreatDoor

namespace Go.Proofs.YtldhebpkplglcaaGreatDoor
open Go.RowKit

section
variable {P : Program} {o : Oper} {a : Act} {Q : Exit → Act → World → Prop}
/-- []byte(s): the block is the next one. -/
theorem upon_bytesN {w : World} {K : Act → World → Prop} {src dst e : TypeId} (hs : P.underlying src = some .string) (hd : P.underlying dst = some (.slice e)) (he : P.underlying e = some (.int .u8)) {s : ByteArray} (hm : s.size ≤ maxLen)
    (hK : ∀ cap w', (∀ j v, (Lib.strCells s)[j]? = some v → w'.cell? ⟨w.heap.size, j, none⟩ = some v) → Below w.heap.size w w' → w.heap.size < w'.heap.size → s.size ≤ cap → cap ≤ 9223372036854775807 → K (a.put o.dst (.slice (some ⟨w.heap.size, 0, none⟩) s.size cap)) w') :
    Oper.upon P o a K Q (((convert src dst (.string s)).run P w).andThen fun v w' => .ok (Next.value v) w') := by
  have hrun := run_bytes_of_string (P := P) w src dst e s hs hd he
  have h1 := grownCap_ge w s.size 0 e
  have h2 := grownCap_le_maxLen w s.size 0 e hm
  obtain ⟨cap, hcap⟩ : ∃ cap, cap = grownCap w s.size 0 e := ⟨_, rfl⟩
  rw [← hcap] at hrun h1 h2
  rw [hrun]
  simp only [Result.andThen]
  refine hK cap _ ?_ (((Below.refl _ w).drew).alloc (Nat.le_refl _) _) (by simp) h1 (by unfold maxLen at h2; exact h2)
  intro j v hj
  have hj' := (List.getElem?_eq_some_iff.1 hj).1
  have hj2 : j < s.size := by rw [Lib.strCells_length] at hj'; exact hj'
  have e1 := World.cell?_alloc_mark w.drew (bytesRow s cap) e ((bytesRow s cap).size, (bytesRow s cap).size + 1) j
  refine e1.trans ?_
  unfold bytesRow
  rw [Array.getElem?_append_left (by simpa using hj2)]
  rw [← hj]
  simp [Lib.strCells]
end

/-- The program's test, step by step. -/
theorem or32 (c : UInt8) : bits BinOp.or IntKind.u8 (c.toNat : Int) 32 = (((c ||| 32).toNat : Nat) : Int) := by
  have h := (bits_nat .u8 8 (by decide) wraps_u8 c.toNat 32 (u8_lt c) (by decide)).2
  have e : (c ||| 32).toNat = c.toNat ||| 32 := by rw [UInt8.toNat_or]; rfl
  rw [e]
  exact h
theorem idx4 (c : UInt8) : 0 ≤ Lib.indexByte [45, 95, 46, 126] c ↔ ([45, 95, 46, 126] : List UInt8).contains c = true := by
  have h : ∀ n : Nat, n < 256 → (0 ≤ Lib.indexByte [45, 95, 46, 126] (UInt8.ofNat n) ↔ ([45, 95, 46, 126] : List UInt8).contains (UInt8.ofNat n) = true) := by decide +kernel
  have := h c.toNat (u8_lt c)
  rwa [UInt8.ofNat_toNat] at this

theorem hex_at (i : Nat) (h : i < (⟨#[48, 49, 50, 51, 52, 53, 54, 55, 56, 57, 65, 66, 67, 68, 69, 70]⟩ : ByteArray).size) : (⟨#[48, 49, 50, 51, 52, 53, 54, 55, 56, 57, 65, 66, 67, 68, 69, 70]⟩ : ByteArray)[i]'h = hexU i := by
  have hz : (⟨#[48, 49, 50, 51, 52, 53, 54, 55, 56, 57, 65, 66, 67, 68, 69, 70]⟩ : ByteArray).size = 16 := rfl
  have key : ∀ j : Fin 16, (⟨#[48, 49, 50, 51, 52, 53, 54, 55, 56, 57, 65, 66, 67, 68, 69, 70]⟩ : ByteArray)[j.val]'(by rw [show (⟨#[48, 49, 50, 51, 52, 53, 54, 55, 56, 57, 65, 66, 67, 68, 69, 70]⟩ : ByteArray).size = 16 from rfl]; exact j.isLt) = hexU j.val := by decide +kernel
  exact key ⟨i, by rw [hz] at h; exact h⟩
theorem uriL_le (s : List UInt8) : (uriL s).length ≤ 3 * s.length := by
  unfold uriL
  induction s with
  | nil => exact Nat.le_refl _
  | cons c s ih =>
    rw [List.flatMap_cons, List.length_append, List.length_cons]
    have : (uriB c).length ≤ 3 := by
      unfold uriB
      split <;> simp
    omega

set_option maxRecDepth 100000 in
set_option maxHeartbeats 3200000 in
theorem format_uri (s : List UInt8) (w : World) (hs : s.length ≤ 17592186044415) :
    Calls Tryz.prog 16 #[.string ⟨s.toArray⟩] w fun e w' => e = .returned (.string ⟨(uriL s).toArray⟩) ∧ Below w.heap.size w w' := by
  have hsz : (⟨s.toArray⟩ : ByteArray).size = s.length := rfl
  obtain ⟨sb, hsb⟩ : ∃ sb : ByteArray, sb = ⟨s.toArray⟩ := ⟨_, rfl⟩
  rw [← hsb] at hsz ⊢
  have HZ := hid hsz
  replace hsb := hid hsb
  obtain ⟨T, hT⟩ : ∃ T, T = uriL s := ⟨_, rfl⟩
  replace hT := hid hT
  go_enter Tryz.func16, Tryz.ntmps16
  go_wp2_with fail
  refine upon_bytesN Tryz.underlying9 Tryz.underlying77 Tryz.underlying5 (by rw [HZ.out]; unfold maxLen; omega) ?_
  intro cap w1 hrow hb1 hlt1 hc1 hc2
  have hw1 : (w.alloc (Obj.cells #[.pointer none, .slice none 0 0] 79)).heap.size = w.heap.size + 1 := by simp
  rw [hw1] at hrow hb1 hlt1 ⊢
  have hbld : Bld (w.heap.size + 2) w.heap.size [] w1 := Bld.fresh ((hb1.block _ (by omega)).trans (heap_alloc_new w _)) (by omega)
  have HB1 := hid (((Below.refl _ w).alloc (Nat.le_refl _) _).trans (hb1.mono (Nat.le_succ _)))
  have HR : Hid (∀ j c, s[j]? = some c → w1.cell? ⟨w.heap.size + 1, j, none⟩ = some (.int .u8 c.toNat)) := by
    intro j c hj
    refine hrow j _ ?_
    rw [hsb.out]
    show (s.map fun b : UInt8 => Value.int .u8 b.toNat)[j]? = _
    rw [List.getElem?_map, hj]
    rfl
  have hbld := hid hbld
  clear hrow hb1 hw1
  go_wp2_with fail
  go_loopw [9] (fun v wr => ∃ k : Nat, v = .int .i64 (k : Nat) ∧ k ≤ s.length ∧ Bld (w.heap.size + 2) w.heap.size (uriL (s.take k)) wr ∧ BelowX (w.heap.size + 2) w.heap.size w1 wr) (fun v _ => s.length - (intOf v).toNat)
  case atStart => exact ⟨0, rfl, Nat.zero_le _, by simpa [uriL] using hbld.out, BelowX.refl _ _ _⟩
  case round =>
    obtain ⟨k, rfl, hk, hbd, hbx⟩ := hrel
    have HBD := hid hbd
    have HBX := hid hbx
    have hszr : w.heap.size + 2 ≤ wr.heap.size := Nat.le_trans hlt1 hbx.size
    clear hbd hbx
    by_cases hks : k = s.length
    · have C := StringB _ _ _ _ HBD.out
      rw [hks, List.take_length, ← hT.out] at C
      replace C := hid C
      subst hks
      go_wp2_with fail
      refine (C.out).mono ?_
      rintro e w3 ⟨rfl, hb3⟩
      have HB3 := hid (HB1.out.trans ((HBX.out.below (Nat.le_refl _) (by omega)).trans hb3))
      clear hb3
      go_wp2_with fail
      go_ret
      exact ⟨by rw [← hT.out]; rfl, HB3.out⟩
    · have hkl : k < s.length := by omega
      obtain ⟨c, hc⟩ : ∃ c, s[k]? = some c := ⟨s[k], List.getElem?_eq_getElem hkl⟩
      have hcell : wr.cell? ⟨w.heap.size + 1, k, none⟩ = some (.int .u8 c.toNat) := by
        rw [HBX.out.cell (p := ⟨w.heap.size + 1, k, none⟩) (by show w.heap.size + 1 < _; omega) (by show w.heap.size + 1 ≠ _; omega)]
        exact HR.out k c hc
      have HN : Hid (uriL (s.take (k + 1)) = uriL (s.take k) ++ uriB c) := by
        show uriL (s.take (k + 1)) = _
        rw [List.take_add_one, hc]
        simp [uriL]
      have hlen : (uriL (s.take k)).length + 3 ≤ 140737488355328 := by
        have := uriL_le (s.take k)
        rw [List.length_take] at this
        omega
      obtain ⟨L, hL⟩ : ∃ L, L = uriL (s.take k) := ⟨_, rfl⟩
      rw [← hL] at HBD HN hlen
      clear hL hc
      go_upto_region 5 with fail
      clear hcell
      obtain ⟨ix, hix, C⟩ : ∃ ix : Int, (0 ≤ ix ↔ ([45, 95, 46, 126] : List UInt8).contains c = true) ∧ ∀ W, Calls Tryz.prog 39 #[.string ⟨#[45, 95, 46, 126]⟩, .int .u8 c.toNat] W fun e w' => e = .returned (.int .i64 ix) ∧ w' = W := by
        refine ⟨_, idx4 c, fun W => ?_⟩
        have h := Tryz.strings_IndexByte ⟨#[45, 95, 46, 126]⟩ c.toNat W
        rw [show (c.toNat : Int).toNat.toUInt8 = c by simp] at h
        exact h
      have hor := or32 c
      have hfr := freeB_or c
      generalize (c ||| 32).toNat = o at hor hfr
      go_cut [33] from 13 to 33 (fun v33 w' => v33 = .bool (freeB c) ∧ wr = w')
      case first =>
        replace hfr := hid hfr
        replace hix := hid hix
        replace C := hid C
        have hb0 : (0 : Int) ≤ c.toNat := Int.natCast_nonneg _
        obtain ha | ⟨ha, ha2⟩ | ha : ((o : Int) < 97) ∨ ((97 : Int) ≤ o ∧ (o : Int) ≤ 122) ∨ ((122 : Int) < o) := by omega
        all_goals obtain hb | ⟨hb, hb2⟩ | hb : ((c.toNat : Int) < 48) ∨ ((48 : Int) ≤ c.toNat ∧ (c.toNat : Int) ≤ 57) ∨ ((57 : Int) < c.toNat) := by omega
        all_goals first
          | (go_wp2_with fail
             refine (C.out _).mono ?_
             rintro e w3 ⟨rfl, hw⟩
             rw [hw]
             clear hw w3
             go_wp2_with fail
             go_meet
             case rel =>
               refine ⟨?_, rfl⟩
               congr 1
               have h1 := hix.out
               rw [hfr.out, Bool.eq_iff_iff]
               first
                 | (simp only [Bool.or_eq_true, decide_eq_true_eq, ← h1]; omega)
                 | (simp only [Bool.or_eq_true, decide_eq_true_eq, ← h1, true_iff]; omega))
          | (go_wp2_with fail
             go_meet
             case rel =>
               refine ⟨?_, rfl⟩
               congr 1
               have h1 := hix.out
               rw [hfr.out, Bool.eq_iff_iff]
               first
                 | (simp only [Bool.or_eq_true, decide_eq_true_eq, ← h1]; omega)
                 | (simp only [Bool.or_eq_true, decide_eq_true_eq, ← h1, true_iff]; omega))
      case rest =>
        obtain ⟨rfl, rfl⟩ := hcut
        clear hfr hix C hor
        cases hfree : freeB c with
        | true =>
          have hu : uriB c = [c] := by unfold uriB; rw [if_pos hfree]
          have C := WriteByte _ _ _ c wr HBD.out (by omega) hszr
          rw [← hu, ← HN.out] at C
          replace C := hid C
          replace hfree := hid hfree
          go_wp2_with fail
          refine (C.out).mono ?_
          rintro e w3 ⟨rfl, hb3, hx3⟩
          have HB3 := hid hb3
          have HX3 := hid (HBX.out.trans hx3)
          clear hb3 hx3 C
          go_wp2_with fail
          go_roundw
          case rel => exact ⟨k + 1, by go_num, by omega, HB3.out, HX3.out⟩
          case measure => simp [intOf]; omega
        | false =>
          have hu : uriB c = [37, hexU (c.toNat / 16), hexU (c.toNat % 16)] := by unfold uriB; rw [if_neg (by rw [hfree]; simp)]
          have hcl := u8_lt c
          have hd : (c.toNat : Int) / 16 = ((c.toNat / 16 : Nat) : Int) := by omega
          have hm : bits BinOp.and IntKind.u8 (c.toNat : Int) 15 = ((c.toNat % 16 : Nat) : Int) := by
            rw [u8_and15 _ (by omega) (by omega)]; omega
          have hi16 : c.toNat / 16 < 16 := by omega
          have lo16 : c.toNat % 16 < 16 := by omega
          clear hcl
          generalize c.toNat / 16 = hi at *
          generalize c.toNat % 16 = lo at *
          have C1 := WriteByte _ _ _ 37 wr HBD.out (by omega) hszr
          replace C1 := hid (show Calls Tryz.prog 40 #[.pointer (some ⟨w.heap.size, 0, none⟩), .int .u8 37] wr _ from C1)
          replace hfree := hid hfree
          rw [hu] at HN
          clear hu
          go_wp2_with fail
          refine (C1.out).mono ?_
          rintro e w3 ⟨rfl, hb3, hx3⟩
          have HB3 := hid hb3
          have HX3 := hid (HBX.out.trans hx3)
          have hsz3 := Nat.le_trans hszr hx3.size
          clear hb3 hx3 C1
          have C2 := hid (WriteByte _ _ _ (hexU hi) w3 HB3.out (by rw [List.length_append]; simp; omega) hsz3)
          go_wp2_with fail
          rw [hex_at]
          refine (C2.out).mono ?_
          rintro e w4 ⟨rfl, hb4, hx4⟩
          have HB4 := hid hb4
          have HX4 := hid (HX3.out.trans hx4)
          have hsz4 := Nat.le_trans hsz3 hx4.size
          clear hb4 hx4 C2
          have C3 := WriteByte _ _ _ (hexU lo) w4 HB4.out (by rw [List.length_append, List.length_append]; simp; omega) hsz4
          rw [show L ++ [37] ++ [hexU hi] ++ [hexU lo] = uriL (s.take (k + 1)) by rw [HN.out]; simp] at C3
          replace C3 := hid C3
          go_wp2_with fail
          rw [hex_at]
          refine (C3.out).mono ?_
          rintro e w5 ⟨rfl, hb5, hx5⟩
          have HB5 := hid hb5
          have HX5 := hid (HX4.out.trans hx5)
          clear hb5 hx5 C3
          go_wp2_with fail
          go_roundw
          case rel => exact ⟨k + 1, by go_num, by omega, HB5.out, HX5.out⟩
          case measure => simp [intOf]; omega

end Go.Proofs.YtldhebpkplglcaaGreatDoor
