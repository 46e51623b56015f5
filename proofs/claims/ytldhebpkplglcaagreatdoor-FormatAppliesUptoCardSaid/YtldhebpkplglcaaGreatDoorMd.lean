/- Layer 2, seventh part: digits, small. Layer 2, eighth part: scan's closure, scan. Layer 2, ninth part: scan told whole; Parse. Layer 2, tenth part: Parse. Layer 2, eleventh part: sign, told, both. Layer 2, twelfth part: Neg, level. Layer 2: same, May. -/
import Derived.Test.YtldhebpkplglcaaGreatDoorMc
import Derived.Test.YtldhebpkplglcaaGreatDoorMb
import Derived.Laws.RangeAny
import Derived.Defers
import Derived.Deep.Cut
import Derived.RegionTactic
import Derived.BigRegion
import Derived.ChangeAlike
import Derived.Laws.ResultCell
namespace Go.Proofs.YtldhebpkplglcaaGreatDoor
open Go.RowKit

def isD (c : UInt8) : Bool := decide (48 ≤ c.toNat) && decide (c.toNat ≤ 57)
theorem isD_iff {c : UInt8} : isD c = true ↔ 48 ≤ c.toNat ∧ c.toNat ≤ 57 := by simp [isD]

theorem takeWhile_stop (l : List UInt8) (k : Nat) (hk : k < l.length) (h : ∀ j (hj : j < k), isD (l[j]'(by omega)) = true) (hs : isD (l[k]'hk) = false) : l.takeWhile isD = l.take k ∧ l.dropWhile isD = l.drop k := by
  induction l generalizing k with
  | nil => simp at hk
  | cons c l ih =>
    cases k with
    | zero => simp at hs; simp [hs]
    | succ k =>
      have h0 := h 0 (by omega)
      simp at h0
      obtain ⟨e1, e2⟩ := ih k (by simpa using hk) (fun j hj => by have := h (j + 1) (by omega); simpa using this) (by simpa using hs)
      simp [h0, e1, e2]
theorem takeWhile_all (l : List UInt8) (h : ∀ j (hj : j < l.length), isD (l[j]) = true) : l.takeWhile isD = l ∧ l.dropWhile isD = [] := by
  induction l with
  | nil => exact ⟨rfl, rfl⟩
  | cons c l ih =>
    have h0 := h 0 (by simp)
    simp at h0
    obtain ⟨e1, e2⟩ := ih (fun j hj => by have := h (j + 1) (by simpa using hj); simpa using this)
    simp [h0, e1, e2]

theorem below_iter (w : World) (s : ByteArray) (k : Nat) : Below w.heap.size w (w.iter s k) := (Below.refl _ _).alloc (Nat.le_refl _) _

/-- A power's worth; what is too great is cut. -/
def smallN (l : List UInt8) : Nat := if 6 < (Lib.trimLeftB l 48).length then 999999 else num10 (Lib.trimLeftB l 48) 0

end Go.Proofs.YtldhebpkplglcaaGreatDoor

namespace Go.Proofs.YtldhebpkplglcaaGreatDoor
open Go.RowKit

/-- Storing what already stands there turns nothing. -/
theorem setCell_noop (W : World) (a : Addr) (v : Value) (h : W.cell? a = some v) : W.setCell a v = W := by
  unfold World.cell? at h
  split at h
  · rename_i c e f hb
    have hs : a.spot.isSome = false := by
      cases hs : a.spot.isSome with
      | false => rfl
      | true => simp [hs] at h
    simp only [hs] at h
    have hoff : c[a.off]? = some v := by simpa using h
    obtain ⟨ho, hv⟩ := Array.getElem?_eq_some_iff.1 hoff
    suffices this : (W.heap.modify a.block (fun
      | .cells c elem frozen => .cells (if a.spot.isSome then c else c.setIfInBounds a.off v) elem frozen
      | o => o)) = W.heap by
      show ({ W with heap := _ } : World) = W
      exact (congrArg (fun h => ({ W with heap := h } : World)) this)
    · apply Array.ext_getElem?
      intro k
      rw [Array.getElem?_modify]
      split
      · rename_i hk
        subst hk
        rw [hb]
        simp only [Option.map_some, hs, Bool.false_eq_true, if_false]
        congr 2
        rw [← hv]
        simp [Array.setIfInBounds, ho]
      · rfl
  · simp at h

/-- scan's five variables. -/
structure Sc (w W : World) (n : Bool) (wh be : ByteArray) (ex : Int) (ok : Bool) : Prop where
  c0 : W.cell? ⟨w.heap.size, 0, none⟩ = some (.bool n)
  c1 : W.cell? ⟨w.heap.size + 1, 0, none⟩ = some (.string wh)
  c2 : W.cell? ⟨w.heap.size + 1 + 1, 0, none⟩ = some (.string be)
  c3 : W.cell? ⟨w.heap.size + 1 + 1 + 1, 0, none⟩ = some (.int .i64 ex)
  c4 : W.cell? ⟨w.heap.size + 1 + 1 + 1 + 1, 0, none⟩ = some (.bool ok)
  f0 : W.frozen? ⟨w.heap.size, 0, none⟩ = false
  f1 : W.frozen? ⟨w.heap.size + 1, 0, none⟩ = false
  f2 : W.frozen? ⟨w.heap.size + 1 + 1, 0, none⟩ = false
  f3 : W.frozen? ⟨w.heap.size + 1 + 1 + 1, 0, none⟩ = false
  f4 : W.frozen? ⟨w.heap.size + 1 + 1 + 1 + 1, 0, none⟩ = false
  b : Below w.heap.size w W

theorem Sc.below {w W W' : World} {n ok : Bool} {wh be : ByteArray} {ex : Int} (h : Sc w W n wh be ex ok) (hb : Below W.heap.size W W') : Sc w W' n wh be ex ok := by
  have B := bcell hb
  refine ⟨?_, ?_, ?_, ?_, ?_, ?_, ?_, ?_, ?_, ?_, below_trans h.b hb⟩
  · rw [B.1 _ _ (cell_lt h.c0)]; exact h.c0
  · rw [B.1 _ _ (cell_lt h.c1)]; exact h.c1
  · rw [B.1 _ _ (cell_lt h.c2)]; exact h.c2
  · rw [B.1 _ _ (cell_lt h.c3)]; exact h.c3
  · rw [B.1 _ _ (cell_lt h.c4)]; exact h.c4
  · rw [B.2 _ _ (cell_lt h.c0)]; exact h.f0
  · rw [B.2 _ _ (cell_lt h.c1)]; exact h.f1
  · rw [B.2 _ _ (cell_lt h.c2)]; exact h.f2
  · rw [B.2 _ _ (cell_lt h.c3)]; exact h.f3
  · rw [B.2 _ _ (cell_lt h.c4)]; exact h.f4

theorem Sc.call {P : Program} {f : FuncId} {args : Array Value} {E : Ending} {K : Ending → World → Prop} {w W : World} {n ok : Bool} {wh be : ByteArray} {ex : Int} (hC : Calls P f args W (fun e w' => e = E ∧ Below W.heap.size W w'))
    (hs : Sc w W n wh be ex ok) (hk : ∀ w', Sc w w' n wh be ex ok → K E w') : Calls P f args W K := by
  refine hC.mono ?_
  rintro e w' ⟨rfl, hb⟩
  exact hk w' (hs.below hb)

theorem Sc.setN {w W : World} {n ok : Bool} {wh be : ByteArray} {ex : Int} (h : Sc w W n wh be ex ok) (n' : Bool) : Sc w (W.setCell ⟨w.heap.size, 0, none⟩ (.bool n')) n' wh be ex ok := by
  refine ⟨World.cell?_setCell_same _ _ _ h.c0, ?_, ?_, ?_, ?_, ?_, ?_, ?_, ?_, ?_, h.b.setCell (Nat.le_refl _) _⟩
  all_goals first | (rw [World.cell?_setCell_other _ _ _ _ (by simp)]; first | exact h.c1 | exact h.c2 | exact h.c3 | exact h.c4) | (rw [World.frozen?_setCell]; first | exact h.f0 | exact h.f1 | exact h.f2 | exact h.f3 | exact h.f4)
theorem Sc.setW {w W : World} {n ok : Bool} {wh be : ByteArray} {ex : Int} (h : Sc w W n wh be ex ok) (s : ByteArray) : Sc w (W.setCell ⟨w.heap.size + 1, 0, none⟩ (.string s)) n s be ex ok := by
  refine ⟨?_, World.cell?_setCell_same _ _ _ h.c1, ?_, ?_, ?_, ?_, ?_, ?_, ?_, ?_, h.b.setCell (by simp only; omega) _⟩
  all_goals first | (rw [World.cell?_setCell_other _ _ _ _ (by simp)]; first | exact h.c0 | exact h.c2 | exact h.c3 | exact h.c4) | (rw [World.frozen?_setCell]; first | exact h.f0 | exact h.f1 | exact h.f2 | exact h.f3 | exact h.f4)
theorem Sc.setB {w W : World} {n ok : Bool} {wh be : ByteArray} {ex : Int} (h : Sc w W n wh be ex ok) (s : ByteArray) : Sc w (W.setCell ⟨w.heap.size + 1 + 1, 0, none⟩ (.string s)) n wh s ex ok := by
  refine ⟨?_, ?_, World.cell?_setCell_same _ _ _ h.c2, ?_, ?_, ?_, ?_, ?_, ?_, ?_, h.b.setCell (by simp only; omega) _⟩
  all_goals first | (rw [World.cell?_setCell_other _ _ _ _ (by simp)]; first | exact h.c0 | exact h.c1 | exact h.c3 | exact h.c4) | (rw [World.frozen?_setCell]; first | exact h.f0 | exact h.f1 | exact h.f2 | exact h.f3 | exact h.f4)
theorem Sc.setE {w W : World} {n ok : Bool} {wh be : ByteArray} {ex : Int} (h : Sc w W n wh be ex ok) (x : Int) : Sc w (W.setCell ⟨w.heap.size + 1 + 1 + 1, 0, none⟩ (.int .i64 x)) n wh be x ok := by
  refine ⟨?_, ?_, ?_, World.cell?_setCell_same _ _ _ h.c3, ?_, ?_, ?_, ?_, ?_, ?_, h.b.setCell (by simp only; omega) _⟩
  all_goals first | (rw [World.cell?_setCell_other _ _ _ _ (by simp)]; first | exact h.c0 | exact h.c1 | exact h.c2 | exact h.c4) | (rw [World.frozen?_setCell]; first | exact h.f0 | exact h.f1 | exact h.f2 | exact h.f3 | exact h.f4)
theorem Sc.setO {w W : World} {n ok : Bool} {wh be : ByteArray} {ex : Int} (h : Sc w W n wh be ex ok) (x : Bool) : Sc w (W.setCell ⟨w.heap.size + 1 + 1 + 1 + 1, 0, none⟩ (.bool x)) n wh be ex x := by
  refine ⟨?_, ?_, ?_, ?_, World.cell?_setCell_same _ _ _ h.c4, ?_, ?_, ?_, ?_, ?_, h.b.setCell (by simp only; omega) _⟩
  all_goals first | (rw [World.cell?_setCell_other _ _ _ _ (by simp)]; first | exact h.c0 | exact h.c1 | exact h.c2 | exact h.c3) | (rw [World.frozen?_setCell]; first | exact h.f0 | exact h.f1 | exact h.f2 | exact h.f3 | exact h.f4)


theorem Sc.start (w : World) (n : Bool) : Sc w (((((w.alloc (Obj.cells #[Value.bool n] 4)).alloc (Obj.cells #[Value.string { data := #[] }] 9)).alloc
              (Obj.cells #[Value.string { data := #[] }] 9)).alloc (Obj.cells #[Value.int IntKind.i64 0] 3)).alloc (Obj.cells #[Value.bool false] 4)) n ⟨#[]⟩ ⟨#[]⟩ 0 false := by
  refine ⟨by simp [go_sem], by simp [go_sem], by simp [go_sem], by simp [go_sem], by simp [go_sem], by simp [go_sem], by simp [go_sem], by simp [go_sem], by simp [go_sem], by simp [go_sem], ?_⟩
  exact (((((Below.refl _ _).alloc (Nat.le_refl _) _).alloc (by simp [go_sem]) _).alloc (by simp [go_sem]; omega) _).alloc (by simp [go_sem]; omega) _).alloc (by simp [go_sem]; omega) _

theorem Sc.drew {w W : World} {n ok : Bool} {wh be : ByteArray} {ex : Int} (h : Sc w W n wh be ex ok) : Sc w W.drew n wh be ex ok := ⟨h.c0, h.c1, h.c2, h.c3, h.c4, h.f0, h.f1, h.f2, h.f3, h.f4, h.b.drew⟩

/-- What scan tells. -/
def OutSc (w : World) (n : Bool) (wh be : ByteArray) (ex : Int) (ok : Bool) (e : Ending) (w' : World) : Prop :=
  e = .returned (.tuple #[.bool n, .string wh, .string be, .int .i64 ex, .bool ok]) ∧ Below w.heap.size w w'

/-- What scan tells, where the whole part stands. -/
def ScPost (w : World) (n : Bool) (wh be : ByteArray) : Option Int → Ending → World → Prop
  | some ex => OutSc w n wh be ex true
  | none => OutSc w false ⟨#[]⟩ ⟨#[]⟩ 0 false

end Go.Proofs.YtldhebpkplglcaaGreatDoor

namespace Go.Proofs.YtldhebpkplglcaaGreatDoor
open Go.RowKit

/-- The power that stands behind the figures; none: it is none. -/
def tailL (l : List UInt8) : Option Int :=
  match l with
  | [] => some 0
  | c :: r =>
    if c.toNat = 101 ∨ c.toNat = 69 then
      let q := if Lib.hasPrefix r [45] = true then Lib.trimPrefix r [45] else Lib.trimPrefix r [43]
      if q.takeWhile isD = [] ∨ q.dropWhile isD ≠ [] then none
      else some ((if Lib.hasPrefix r [45] = true then -1 else 1) * (smallN (q.takeWhile isD) : Int))
    else none
/-- A literal's parts. -/
def scanL (l : List UInt8) : Option (Bool × List UInt8 × List UInt8 × Int) :=
  let r0 := Lib.trimPrefix l [45]
  let wh := r0.takeWhile isD
  let r1 := r0.dropWhile isD
  if wh = [] ∨ (1 < wh.length ∧ wh.head? = some 48) then none
  else if Lib.hasPrefix r1 [46] = true then
    let r := Lib.trimPrefix r1 [46]
    if r.takeWhile isD = [] then none
    else (tailL (r.dropWhile isD)).map fun x => (Lib.hasPrefix l [45], wh, r.takeWhile isD, x)
  else (tailL r1).map fun x => (Lib.hasPrefix l [45], wh, [], x)

theorem empty_iff {s : ByteArray} {l : List UInt8} (h : s.data.toList = l) : s.toList.isEmpty = l.isEmpty := by rw [ByteArray.toList_eq, h]
theorem trimPrefix_le (l p : List UInt8) : (Lib.trimPrefix l p).length ≤ l.length := by
  unfold Lib.trimPrefix
  split
  · simp
  · exact Nat.le_refl _
theorem takeWhile_le (l : List UInt8) (p : UInt8 → Bool) : (l.takeWhile p).length ≤ l.length := (List.takeWhile_prefix _).length_le
theorem dropWhile_le (l : List UInt8) (p : UInt8 → Bool) : (l.dropWhile p).length ≤ l.length := (List.dropWhile_suffix _).length_le
theorem take_digs (l : List UInt8) : Digs (l.takeWhile isD) := fun c hc => isD_iff.1 (by
  have := List.all_takeWhile (l := l) (p := isD)
  exact (List.all_eq_true.1 this) c hc)
theorem smallN_le (l : List UInt8) (h : Digs l) : smallN l ≤ 999999 := by
  unfold smallN
  split
  · exact Nat.le_refl _
  · have h1 : Digs (Lib.trimLeftB l 48) := fun c hc => h c ((List.dropWhile_suffix _).subset hc)
    have h2 := num10_lt _ h1
    have h3 : 10 ^ (Lib.trimLeftB l 48).length ≤ 10 ^ 6 := Nat.pow_le_pow_right (by decide) (by omega)
    omega
theorem head_byte {s : ByteArray} {c : UInt8} {l : List UInt8} (h : s.data.toList = c :: l) (hlt : 0 < s.size) : s[0] = c := by
  have : s.data.toList[0]'(by rw [h]; simp) = c := by simp [h]
  exact this
theorem size_eq {s : ByteArray} {l : List UInt8} (h : s.data.toList = l) : s.size = l.length := by rw [← h]; rfl

/-- What scan tells. -/
def ScanPost (w : World) : Option (Bool × List UInt8 × List UInt8 × Int) → Ending → World → Prop
  | some (n, wh, be, ex) => OutSc w n ⟨wh.toArray⟩ ⟨be.toArray⟩ ex true
  | none => OutSc w false ⟨#[]⟩ ⟨#[]⟩ 0 false

end Go.Proofs.YtldhebpkplglcaaGreatDoor

namespace Go.Proofs.YtldhebpkplglcaaGreatDoor
open Go.RowKit

/-- What Parse tells. -/
def parseR (l : List UInt8) : D × Nat :=
  match scanL l with
  | none => (zeroD, 2)
  | some (n, wh, be, ex) =>
    if 1000 < l.length then (zeroD, 3)
    else if fitsB (plainD n (num10 (wh ++ be) 0) (ex - be.length)) = true then (plainD n (num10 (wh ++ be) 0) (ex - be.length), 0)
    else (zeroD, 3)

theorem tail_bound {l : List UInt8} {x : Int} (h : tailL l = some x) : -999999 ≤ x ∧ x ≤ 999999 := by
  unfold tailL at h
  split at h
  · simp at h; omega
  · rename_i c r
    split at h
    · simp only at h
      have h2 := smallN_le _ (take_digs (Lib.trimPrefix r [45]))
      have h3 := smallN_le _ (take_digs (Lib.trimPrefix r [43]))
      by_cases hp : Lib.hasPrefix r [45] = true
      · simp only [hp, if_true] at h
        split at h
        · cases h
        · injection h with h; omega
      · simp only [hp, if_false, Bool.false_eq_true] at h
        split at h
        · cases h
        · injection h with h; omega
    · cases h
theorem scan_facts {l wh be : List UInt8} {n : Bool} {ex : Int} (h : scanL l = some (n, wh, be, ex)) :
    Digs wh ∧ Digs be ∧ wh ≠ [] ∧ wh.length + be.length ≤ l.length ∧ -999999 ≤ ex ∧ ex ≤ 999999 := by
  unfold scanL at h
  simp only at h
  have l0 := trimPrefix_le l [45]
  have l1 : ((Lib.trimPrefix l [45]).takeWhile isD).length + ((Lib.trimPrefix l [45]).dropWhile isD).length = (Lib.trimPrefix l [45]).length := by
    rw [← List.length_append, List.takeWhile_append_dropWhile]
  split at h
  · cases h
  · rename_i h1
    have hne : (Lib.trimPrefix l [45]).takeWhile isD ≠ [] := fun e => h1 (.inl e)
    split at h
    · split at h
      · cases h
      · cases ht : tailL ((Lib.trimPrefix ((Lib.trimPrefix l [45]).dropWhile isD) [46]).dropWhile isD) with
        | none => rw [ht] at h; cases h
        | some x =>
          rw [ht] at h
          simp only [Option.map_some, Option.some.injEq, Prod.mk.injEq] at h
          obtain ⟨_, rfl, rfl, rfl⟩ := h
          have l2 := trimPrefix_le ((Lib.trimPrefix l [45]).dropWhile isD) [46]
          have l3 := takeWhile_le (Lib.trimPrefix ((Lib.trimPrefix l [45]).dropWhile isD) [46]) isD
          exact ⟨take_digs _, take_digs _, hne, by omega, tail_bound ht⟩
    · cases ht : tailL ((Lib.trimPrefix l [45]).dropWhile isD) with
      | none => rw [ht] at h; cases h
      | some x =>
        rw [ht] at h
        simp only [Option.map_some, Option.some.injEq, Prod.mk.injEq] at h
        obtain ⟨_, rfl, rfl, rfl⟩ := h
        exact ⟨take_digs _, fun c hc => by simp at hc, hne, by simp; omega, tail_bound ht⟩

theorem pow_step (K J : Nat) (h : K ≤ 9 * J) : 10 ^ K ≤ Num.B9 ^ J := by
  show 10 ^ K ≤ (10 ^ 9) ^ J
  rw [← Nat.pow_mul]
  exact Nat.pow_le_pow_right (by decide) h
theorem limbs_pow {m K J : Nat} (h : (Num.digs 10 m).length ≤ K) (hK : K ≤ 9 * J) : (Num.limbs m).length ≤ J :=
  limbs_length_le.2 (Nat.lt_of_lt_of_le ((Num.digs_length_le (by decide)).1 h) (pow_step K J hK))
theorem num10_lt_pow (l : List UInt8) (h : Digs l) (K : Nat) (hK : l.length ≤ K) : num10 l 0 < 10 ^ K := Nat.lt_of_lt_of_le (num10_lt _ h) (Nat.pow_le_pow_right (by decide) hK)
theorem digs_num10 (l : List UInt8) (h : Digs l) (K : Nat) (hK : l.length ≤ K) : (Num.digs 10 (num10 l 0)).length ≤ K := (Num.digs_length_le (by decide)).2 (num10_lt_pow l h K hK)

end Go.Proofs.YtldhebpkplglcaaGreatDoor

namespace Go.Proofs.YtldhebpkplglcaaGreatDoor
open Go.RowKit

def signD (d : D) : Int := if d.m = 0 then 0 else if d.neg = true then -1 else 1

theorem limbs_zero_iff (m : Nat) : (Num.limbs m).length = 0 ↔ m = 0 := by
  rw [List.length_eq_zero_iff]; exact Num.digs_eq_nil Num.two_le_B9

/-- What both tells of errors. -/
def bothE (x y : Nat) : Nat := if x = 1 ∨ y = 1 then 1 else if x ≠ 0 then x else y
/-- Two numbers and an error, in memory of the call's own. -/
def OutDD (w : World) (x y : D) (err : Nat) (e : Ending) (w' : World) : Prop :=
  ∃ a1 c1 a2 c2, e = .returned (.tuple #[decV x a1 c1, decV y a2 c2, .int .i64 err]) ∧ OwnD w w' x a1 c1 ∧ OwnD w w' y a2 c2

end Go.Proofs.YtldhebpkplglcaaGreatDoor

namespace Go.Proofs.YtldhebpkplglcaaGreatDoor
open Go.RowKit

/-- The opposite. -/
def negD (d : D) : D := if d.m = 0 then d else ⟨!d.neg, d.m, d.e⟩

end Go.Proofs.YtldhebpkplglcaaGreatDoor

namespace Go.Proofs.YtldhebpkplglcaaGreatDoor
open Go.RowKit

set_option maxRecDepth 100000 in
set_option maxHeartbeats 1000000 in
theorem dec_same_loop (g : Bool) (b off cap b2 off2 cap2 n : Nat) (e : Int) (xs ys : List Nat) (w : World) (hx : xs.length = n) (hy : ys.length = n) (hn : n ≤ 1000000000)
    (c1 : ∀ j, j < n → w.cell? ⟨b, off + j, none⟩ = some (.int .u32 ((xs.getD j 0 : Nat) : Int))) (c2 : ∀ j, j < n → w.cell? ⟨b2, off2 + j, none⟩ = some (.int .u32 ((ys.getD j 0 : Nat) : Int)))
    (l1 : ∀ j, j < n → b < w.heap.size) (l2 : ∀ j, j < n → b2 < w.heap.size) :
    Calls Tryz.prog 88 #[.agg #[.bool g, .slice (some ⟨b, off, none⟩) n cap, .int .i64 e], .agg #[.bool g, .slice (some ⟨b2, off2, none⟩) n cap2, .int .i64 e]] w fun en w' => en = .returned (.bool (decide (xs = ys))) ∧ Below w.heap.size w w' := by
  have HX := hid hx
  have HY := hid hy
  have C1 := hid c1
  have C2 := hid c2
  have L1 := hid l1
  have L2 := hid l2
  obtain ⟨r, hr⟩ : ∃ r, r = decide (xs = ys) := ⟨_, rfl⟩
  rw [← hr]
  have HR := hid hr
  clear hx hy c1 c2 l1 l2 hr
  go_enter Tryz.func88, Tryz.ntmps88
  go_wp2
  go_loop [31] (fun i => ∃ k : Nat, k ≤ n ∧ i = .int .i64 k ∧ xs.take k = ys.take k) (fun i => n - (intOf i).toNat)
  case atStart => exact ⟨0, Nat.zero_le _, rfl, rfl⟩
  case round =>
    obtain ⟨k, hk, rfl, ht⟩ := hrel
    have HT := hid ht
    clear ht
    by_cases hlt : k < n
    · obtain ⟨x, hxe⟩ : ∃ x, x = xs.getD k 0 := ⟨_, rfl⟩
      obtain ⟨y, hye⟩ : ∃ y, y = ys.getD k 0 := ⟨_, rfl⟩
      have g1 := C1.out k hlt
      have g2 := C2.out k hlt
      rw [← hxe] at g1
      rw [← hye] at g2
      have hm1 : k < xs.length := by have := HX.out; omega
      have hm2 : k < ys.length := by have := HY.out; omega
      have b1 := L1.out k hlt
      have b2 := L2.out k hlt
      have HXE := hid hxe
      have HYE := hid hye
      have M1 := hid hm1
      have M2 := hid hm2
      clear hxe hye hm1 hm2
      by_cases hxy : x = y
      · have HE : Hid (xs.take (k + 1) = ys.take (k + 1)) := by
          have e1 := HXE.out
          have e2 := HYE.out
          rw [List.take_add_one, List.take_add_one, List.getElem?_eq_getElem M1.out, List.getElem?_eq_getElem M2.out, HT.out]
          rw [List.getD_eq_getElem?_getD, List.getElem?_eq_getElem M1.out] at e1
          rw [List.getD_eq_getElem?_getD, List.getElem?_eq_getElem M2.out] at e2
          simp only [Option.getD_some] at e1 e2
          rw [← e1, ← e2, hxy]
          exact rfl
        subst hxy
        go_wp2
        go_round
        case rel => exact ⟨k + 1, by omega, by go_num, HE.out⟩
        case measure => simp [intOf]; omega
      · have hne : ((y : Int) != (x : Int)) = true := by
          rw [bne_iff_ne]; omega
        have HN : Hid (r = false) := by
          rw [HR.out, decide_eq_false_iff_not]
          intro e
          exact hxy (by rw [HXE.out, HYE.out, e])
        clear hxy
        go_wp2
        go_ret
        exact ⟨ret_bool HN.out.symm, ((Below.refl _ _).alloc (Nat.le_refl _) _).alloc (by simp) _⟩
    · obtain rfl : n = k := by omega
      have HE : Hid (r = true) := by
        rw [HR.out, decide_eq_true_eq]
        have := HT.out
        rwa [List.take_of_length_le (by have := HX.out; omega), List.take_of_length_le (by have := HY.out; omega)] at this
      go_wp2
      go_ret
      exact ⟨ret_bool HE.out.symm, ((Below.refl _ _).alloc (Nat.le_refl _) _).alloc (by simp) _⟩

theorem dec_same_zero (g : Bool) (a a2 : Option Addr) (cap cap2 : Nat) (e : Int) (w : World) :
    Calls Tryz.prog 88 #[.agg #[.bool g, .slice a 0 cap, .int .i64 e], .agg #[.bool g, .slice a2 0 cap2, .int .i64 e]] w fun en w' => en = .returned (.bool true) ∧ Below w.heap.size w w' := by
  go_enter Tryz.func88, Tryz.ntmps88
  go_wp2
  refine wp_loop_rounds 1 ?_
  rw [rounds_succ]
  go_wp2
  go_ret
  exact ⟨rfl, ((Below.refl _ _).alloc (Nat.le_refl _) _).alloc (by simp) _⟩
set_option maxRecDepth 100000 in
theorem dec_same_diff (g g2 : Bool) (a a2 : Option Addr) (n n2 cap cap2 : Nat) (e e2 : Int) (w : World) (h : g ≠ g2 ∨ e ≠ e2 ∨ n ≠ n2) :
    Calls Tryz.prog 88 #[.agg #[.bool g, .slice a n cap, .int .i64 e], .agg #[.bool g2, .slice a2 n2 cap2, .int .i64 e2]] w fun en w' => en = .returned (.bool false) ∧ Below w.heap.size w w' := by
  by_cases hg : g = g2
  · subst hg
    by_cases he : e = e2
    · subst he
      have hn : ((n : Int) != (n2 : Int)) = true := by rw [bne_iff_ne]; rcases h with h | h | h <;> first | exact absurd rfl h | omega
      clear h
      go_enter Tryz.func88, Tryz.ntmps88
      go_wp2
      go_ret
      exact ⟨rfl, ((Below.refl _ _).alloc (Nat.le_refl _) _).alloc (by simp) _⟩
    · have hn : (e != e2) = true := by simpa using he
      clear h he
      go_enter Tryz.func88, Tryz.ntmps88
      go_wp2
      go_ret
      exact ⟨rfl, ((Below.refl _ _).alloc (Nat.le_refl _) _).alloc (by simp) _⟩
  · clear h
    cases g <;> cases g2
    case false.false => exact absurd rfl hg
    case true.true => exact absurd rfl hg
    all_goals
      clear hg
      go_enter Tryz.func88, Tryz.ntmps88
      go_wp2
      go_ret
      exact ⟨rfl, ((Below.refl _ _).alloc (Nat.le_refl _) _).alloc (by simp) _⟩

theorem dec_same (g g2 : Bool) (a a2 : Option Addr) (cap cap2 : Nat) (e e2 : Int) (xs ys : List Nat) (w : World) (h : U32 w a xs) (h2 : U32 w a2 ys) (hn : xs.length ≤ 1000000000) :
    Calls Tryz.prog 88 #[.agg #[.bool g, .slice a xs.length cap, .int .i64 e], .agg #[.bool g2, .slice a2 ys.length cap2, .int .i64 e2]] w fun en w' => en = .returned (.bool (decide (g = g2 ∧ e = e2 ∧ xs = ys))) ∧ Below w.heap.size w w' := by
  by_cases hd : g ≠ g2 ∨ e ≠ e2 ∨ xs.length ≠ ys.length
  · have : decide (g = g2 ∧ e = e2 ∧ xs = ys) = false := by
      rw [decide_eq_false_iff_not]; rintro ⟨h1, h2, h3⟩
      rcases hd with h | h | h
      · exact h h1
      · exact h h2
      · exact h (by rw [h3])
    rw [this]
    exact dec_same_diff g g2 a a2 _ _ cap cap2 e e2 w hd
  · have hg : g = g2 := Classical.byContradiction fun h => hd (.inl h)
    have he : e = e2 := Classical.byContradiction fun h => hd (.inr (.inl h))
    have hl : xs.length = ys.length := Classical.byContradiction fun h => hd (.inr (.inr h))
    subst hg he
    by_cases h0 : xs = []
    · subst h0
      obtain rfl : ys = [] := List.length_eq_zero_iff.1 hl.symm
      simp only [and_self, decide_true]
      exact dec_same_zero g a a2 cap cap2 e w
    · have h1 : ys ≠ [] := by intro e; rw [e] at hl; exact h0 (List.length_eq_zero_iff.1 hl)
      obtain ⟨b, off, rfl⟩ := h.isSome h0
      obtain ⟨b2, off2, rfl⟩ := h2.isSome h1
      have C := dec_same_loop g b off cap b2 off2 cap2 xs.length e xs ys w rfl hl.symm hn (fun j hj => h.row.u32 hj) (fun j hj => h2.row.u32 (by omega)) (fun j hj => cell_lt (h.row.u32 hj)) (fun j hj => cell_lt (h2.row.u32 (show j < ys.length by omega)))
      rw [← hl]
      have e1 : decide (g = g ∧ e = e ∧ xs = ys) = decide (xs = ys) := by simp
      rw [e1]
      exact C

set_option maxRecDepth 100000 in
set_option maxHeartbeats 400000 in
theorem dec_May (g : Bool) (a : Option Addr) (cap : Nat) (e : Int) (xs : List Nat) (w : World) (h : U32 w a xs) (htab : Pow w) :
    Calls Tryz.prog 57 #[.agg #[.bool g, .slice a xs.length cap, .int .i64 e]] w fun en w' => en = .returned (.bool (mayB g xs e)) ∧ Below w.heap.size w w' := by
  have C := fun W (hb : Below w.heap.size w W) => dec_taken g a cap e xs W (h.below hb) (htab.next hb)
  have HU := hid h
  obtain ⟨r, hr⟩ : ∃ r, r = mayB g xs e := ⟨_, rfl⟩
  rw [← hr]
  rcases takenE_cases g xs.length (Num.worth xs) e with h0 | ⟨h0, hz⟩
  · unfold mayB at hr
    obtain ⟨hn, hd, hf⟩ := taken_zero h0
    obtain ⟨h1, h2, h3⟩ := nearB_iff.1 hn
    obtain ⟨hb1, hb2⟩ := digs_bound h.lt h1
    have pm := plain_m_le g (Num.worth xs) e
    have hlm : (Num.limbs (plainD g (Num.worth xs) e).m).length ≤ 201 := Nat.le_trans (Num.digs_length_mono Num.two_le_B9 pm) hb2
    rw [← hd] at hlm
    rw [h0] at C hr
    obtain ⟨d, hdd⟩ : ∃ d, d = takenD g xs.length (Num.worth xs) e := ⟨_, rfl⟩
    rw [← hdd] at C hr hlm
    have HR := hid (show r = decide (d.neg = g ∧ d.e = e ∧ Num.limbs d.m = xs) by rw [hr]; simp)
    have C := hid C
    clear h htab h0 hn hd hf h1 h2 h3 hb1 hb2 pm hdd hr
    go_enter Tryz.func57, Tryz.ntmps57
    go_wp2_with fail
    refine (C.out _ ((Below.refl _ _).alloc (Nat.le_refl _) _)).mono ?_
    rintro e1 w1 ⟨a1, c1, he, ho⟩
    have HI := hid ho.inD
    have HB := hid (below_alloc ho.1)
    obtain ⟨⟨k0, k1, k2⟩, _⟩ := blk_three (blk_below (blk_new w _) ho.1)
    have hz1 : w.heap.size < w1.heap.size := by have := ho.1.size; simp at this; omega
    unfold decV at he
    subst he
    clear ho C
    go_wp2_with fail
    refine (dec_same d.neg g a1 a c1 cap d.e e (Num.limbs d.m) xs _ (HI.out.u.below ((Below.refl _ _).alloc (Nat.le_refl _) _)) ((HU.out.below HB.out).below ((Below.refl _ _).alloc (Nat.le_refl _) _)) (by omega)).mono ?_
    rw [← HR.out]
    rintro e2 w2 ⟨rfl, hb2⟩
    have HB2 := hid (below_trans HB.out (below_alloc hb2))
    clear hb2 k0 k1 k2
    go_wp2
    go_ret
    exact ⟨rfl, HB2.out⟩
  · have hr' : r = false := by rw [hr]; unfold mayB; rw [decide_eq_false_iff_not]; exact fun h => h0 h.1
    subst hr'
    rw [hz] at C
    obtain ⟨er, her⟩ : ∃ er, er = takenE g xs.length (Num.worth xs) e := ⟨_, rfl⟩
    rw [← her] at C h0
    have h0' : ((er : Int) == 0) = false := by rw [beq_eq_false_iff_ne]; omega
    have C := hid C
    clear h htab h0 hz her hr
    go_enter Tryz.func57, Tryz.ntmps57
    go_wp2_with fail
    refine (C.out _ ((Below.refl _ _).alloc (Nat.le_refl _) _)).mono ?_
    rintro e1 w1 ⟨a1, c1, he, ho⟩
    have HB := hid (below_alloc ho.1)
    unfold decV at he
    subst he
    clear ho C
    go_wp2
    go_ret
    exact ⟨rfl, HB.out.alloc HB.out.size _⟩

end Go.Proofs.YtldhebpkplglcaaGreatDoor
