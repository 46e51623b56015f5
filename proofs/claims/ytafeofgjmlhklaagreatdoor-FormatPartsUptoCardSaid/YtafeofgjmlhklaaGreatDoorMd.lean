/- Layer 2, seventh part: digits, small. Layer 2, eighth part: scan's closure, scan. Layer 2, ninth part: scan told whole; Parse. Layer 2, tenth part: Parse. Layer 2, eleventh part: sign, told, both. Layer 2, twelfth part: Neg, level. -/
import Derived.Test.YtafeofgjmlhklaaGreatDoorMc
import Derived.Test.YtafeofgjmlhklaaGreatDoorMb
import Derived.Laws.RangeAny
import Derived.Defers
import Derived.Deep.Cut
import Derived.RegionTactic
import Derived.BigRegion
import Derived.ChangeAlike
import Derived.Laws.ResultCell
namespace Go.Proofs.YtafeofgjmlhklaaGreatDoor
open Go.RowKit

def isD (c : UInt8) : Bool := decide (48 ≤ c.toNat) && decide (c.toNat ≤ 57)
theorem isD_iff {c : UInt8} : isD c = true ↔ 48 ≤ c.toNat ∧ c.toNat ≤ 57 := by simp [isD]

theorem takeWhile_stop (l : List UInt8) (k : Nat) (hk : k < l.length) (h : ∀ j (hj : j < k), isD (l[j]'(by omega)) = true) (hs : isD (l[k]'hk) = false) : l.takeWhile isD = l.take k ∧ l.dropWhile isD = l.drop k := by
  induction l generalizing k with
  | nil => simp at hk
  | cons c l ih =>
    cases k with
    | zero => simp at hs; simp [hs]
    | succ k =>
      have h0 := h 0 (by omega)
      simp at h0
      obtain ⟨e1, e2⟩ := ih k (by simpa using hk) (fun j hj => by have := h (j + 1) (by omega); simpa using this) (by simpa using hs)
      simp [h0, e1, e2]
theorem takeWhile_all (l : List UInt8) (h : ∀ j (hj : j < l.length), isD (l[j]) = true) : l.takeWhile isD = l ∧ l.dropWhile isD = [] := by
  induction l with
  | nil => exact ⟨rfl, rfl⟩
  | cons c l ih =>
    have h0 := h 0 (by simp)
    simp at h0
    obtain ⟨e1, e2⟩ := ih (fun j hj => by have := h (j + 1) (by simpa using hj); simpa using this)
    simp [h0, e1, e2]

theorem below_iter (w : World) (s : ByteArray) (k : Nat) : Below w.heap.size w (w.iter s k) := (Below.refl _ _).alloc (Nat.le_refl _) _

/-- A power's worth; what is too great is cut. -/
def smallN (l : List UInt8) : Nat := if 6 < (Lib.trimLeftB l 48).length then 999999 else num10 (Lib.trimLeftB l 48) 0

end Go.Proofs.YtafeofgjmlhklaaGreatDoor

namespace Go.Proofs.YtafeofgjmlhklaaGreatDoor
open Go.RowKit

/-- Storing what already stands there turns nothing. -/
theorem setCell_noop (W : World) (a : Addr) (v : Value) (h : W.cell? a = some v) : W.setCell a v = W := by
  unfold World.cell? at h
  split at h
  · rename_i c e f hb
    have hs : a.spot.isSome = false := by
      cases hs : a.spot.isSome with
      | false => rfl
      | true => simp [hs] at h
    simp only [hs] at h
    have hoff : c[a.off]? = some v := by simpa using h
    obtain ⟨ho, hv⟩ := Array.getElem?_eq_some_iff.1 hoff
    suffices this : (W.heap.modify a.block (fun
      | .cells c elem frozen => .cells (if a.spot.isSome then c else c.setIfInBounds a.off v) elem frozen
      | o => o)) = W.heap by
      show ({ W with heap := _ } : World) = W
      exact (congrArg (fun h => ({ W with heap := h } : World)) this)
    · apply Array.ext_getElem?
      intro k
      rw [Array.getElem?_modify]
      split
      · rename_i hk
        subst hk
        rw [hb]
        simp only [Option.map_some, hs, Bool.false_eq_true, if_false]
        congr 2
        rw [← hv]
        simp [Array.setIfInBounds, ho]
      · rfl
  · simp at h

/-- scan's five variables. -/
structure Sc (w W : World) (n : Bool) (wh be : ByteArray) (ex : Int) (ok : Bool) : Prop where
  c0 : W.cell? ⟨w.heap.size, 0, none⟩ = some (.bool n)
  c1 : W.cell? ⟨w.heap.size + 1, 0, none⟩ = some (.string wh)
  c2 : W.cell? ⟨w.heap.size + 1 + 1, 0, none⟩ = some (.string be)
  c3 : W.cell? ⟨w.heap.size + 1 + 1 + 1, 0, none⟩ = some (.int .i64 ex)
  c4 : W.cell? ⟨w.heap.size + 1 + 1 + 1 + 1, 0, none⟩ = some (.bool ok)
  f0 : W.frozen? ⟨w.heap.size, 0, none⟩ = false
  f1 : W.frozen? ⟨w.heap.size + 1, 0, none⟩ = false
  f2 : W.frozen? ⟨w.heap.size + 1 + 1, 0, none⟩ = false
  f3 : W.frozen? ⟨w.heap.size + 1 + 1 + 1, 0, none⟩ = false
  f4 : W.frozen? ⟨w.heap.size + 1 + 1 + 1 + 1, 0, none⟩ = false
  b : Below w.heap.size w W

theorem Sc.below {w W W' : World} {n ok : Bool} {wh be : ByteArray} {ex : Int} (h : Sc w W n wh be ex ok) (hb : Below W.heap.size W W') : Sc w W' n wh be ex ok := by
  have B := bcell hb
  refine ⟨?_, ?_, ?_, ?_, ?_, ?_, ?_, ?_, ?_, ?_, below_trans h.b hb⟩
  · rw [B.1 _ _ (cell_lt h.c0)]; exact h.c0
  · rw [B.1 _ _ (cell_lt h.c1)]; exact h.c1
  · rw [B.1 _ _ (cell_lt h.c2)]; exact h.c2
  · rw [B.1 _ _ (cell_lt h.c3)]; exact h.c3
  · rw [B.1 _ _ (cell_lt h.c4)]; exact h.c4
  · rw [B.2 _ _ (cell_lt h.c0)]; exact h.f0
  · rw [B.2 _ _ (cell_lt h.c1)]; exact h.f1
  · rw [B.2 _ _ (cell_lt h.c2)]; exact h.f2
  · rw [B.2 _ _ (cell_lt h.c3)]; exact h.f3
  · rw [B.2 _ _ (cell_lt h.c4)]; exact h.f4

theorem Sc.call {P : Program} {f : FuncId} {args : Array Value} {E : Ending} {K : Ending → World → Prop} {w W : World} {n ok : Bool} {wh be : ByteArray} {ex : Int} (hC : Calls P f args W (fun e w' => e = E ∧ Below W.heap.size W w'))
    (hs : Sc w W n wh be ex ok) (hk : ∀ w', Sc w w' n wh be ex ok → K E w') : Calls P f args W K := by
  refine hC.mono ?_
  rintro e w' ⟨rfl, hb⟩
  exact hk w' (hs.below hb)

theorem Sc.setN {w W : World} {n ok : Bool} {wh be : ByteArray} {ex : Int} (h : Sc w W n wh be ex ok) (n' : Bool) : Sc w (W.setCell ⟨w.heap.size, 0, none⟩ (.bool n')) n' wh be ex ok := by
  refine ⟨World.cell?_setCell_same _ _ _ h.c0, ?_, ?_, ?_, ?_, ?_, ?_, ?_, ?_, ?_, h.b.setCell (Nat.le_refl _) _⟩
  all_goals first | (rw [World.cell?_setCell_other _ _ _ _ (by simp)]; first | exact h.c1 | exact h.c2 | exact h.c3 | exact h.c4) | (rw [World.frozen?_setCell]; first | exact h.f0 | exact h.f1 | exact h.f2 | exact h.f3 | exact h.f4)
theorem Sc.setW {w W : World} {n ok : Bool} {wh be : ByteArray} {ex : Int} (h : Sc w W n wh be ex ok) (s : ByteArray) : Sc w (W.setCell ⟨w.heap.size + 1, 0, none⟩ (.string s)) n s be ex ok := by
  refine ⟨?_, World.cell?_setCell_same _ _ _ h.c1, ?_, ?_, ?_, ?_, ?_, ?_, ?_, ?_, h.b.setCell (by simp only; omega) _⟩
  all_goals first | (rw [World.cell?_setCell_other _ _ _ _ (by simp)]; first | exact h.c0 | exact h.c2 | exact h.c3 | exact h.c4) | (rw [World.frozen?_setCell]; first | exact h.f0 | exact h.f1 | exact h.f2 | exact h.f3 | exact h.f4)
theorem Sc.setB {w W : World} {n ok : Bool} {wh be : ByteArray} {ex : Int} (h : Sc w W n wh be ex ok) (s : ByteArray) : Sc w (W.setCell ⟨w.heap.size + 1 + 1, 0, none⟩ (.string s)) n wh s ex ok := by
  refine ⟨?_, ?_, World.cell?_setCell_same _ _ _ h.c2, ?_, ?_, ?_, ?_, ?_, ?_, ?_, h.b.setCell (by simp only; omega) _⟩
  all_goals first | (rw [World.cell?_setCell_other _ _ _ _ (by simp)]; first | exact h.c0 | exact h.c1 | exact h.c3 | exact h.c4) | (rw [World.frozen?_setCell]; first | exact h.f0 | exact h.f1 | exact h.f2 | exact h.f3 | exact h.f4)
theorem Sc.setE {w W : World} {n ok : Bool} {wh be : ByteArray} {ex : Int} (h : Sc w W n wh be ex ok) (x : Int) : Sc w (W.setCell ⟨w.heap.size + 1 + 1 + 1, 0, none⟩ (.int .i64 x)) n wh be x ok := by
  refine ⟨?_, ?_, ?_, World.cell?_setCell_same _ _ _ h.c3, ?_, ?_, ?_, ?_, ?_, ?_, h.b.setCell (by simp only; omega) _⟩
  all_goals first | (rw [World.cell?_setCell_other _ _ _ _ (by simp)]; first | exact h.c0 | exact h.c1 | exact h.c2 | exact h.c4) | (rw [World.frozen?_setCell]; first | exact h.f0 | exact h.f1 | exact h.f2 | exact h.f3 | exact h.f4)
theorem Sc.setO {w W : World} {n ok : Bool} {wh be : ByteArray} {ex : Int} (h : Sc w W n wh be ex ok) (x : Bool) : Sc w (W.setCell ⟨w.heap.size + 1 + 1 + 1 + 1, 0, none⟩ (.bool x)) n wh be ex x := by
  refine ⟨?_, ?_, ?_, ?_, World.cell?_setCell_same _ _ _ h.c4, ?_, ?_, ?_, ?_, ?_, h.b.setCell (by simp only; omega) _⟩
  all_goals first | (rw [World.cell?_setCell_other _ _ _ _ (by simp)]; first | exact h.c0 | exact h.c1 | exact h.c2 | exact h.c3) | (rw [World.frozen?_setCell]; first | exact h.f0 | exact h.f1 | exact h.f2 | exact h.f3 | exact h.f4)


theorem Sc.start (w : World) (n : Bool) : Sc w (((((w.alloc (Obj.cells #[Value.bool n] 4)).alloc (Obj.cells #[Value.string { data := #[] }] 9)).alloc
              (Obj.cells #[Value.string { data := #[] }] 9)).alloc (Obj.cells #[Value.int IntKind.i64 0] 3)).alloc (Obj.cells #[Value.bool false] 4)) n ⟨#[]⟩ ⟨#[]⟩ 0 false := by
  refine ⟨by simp [go_sem], by simp [go_sem], by simp [go_sem], by simp [go_sem], by simp [go_sem], by simp [go_sem], by simp [go_sem], by simp [go_sem], by simp [go_sem], by simp [go_sem], ?_⟩
  exact (((((Below.refl _ _).alloc (Nat.le_refl _) _).alloc (by simp [go_sem]) _).alloc (by simp [go_sem]; omega) _).alloc (by simp [go_sem]; omega) _).alloc (by simp [go_sem]; omega) _

theorem Sc.drew {w W : World} {n ok : Bool} {wh be : ByteArray} {ex : Int} (h : Sc w W n wh be ex ok) : Sc w W.drew n wh be ex ok := ⟨h.c0, h.c1, h.c2, h.c3, h.c4, h.f0, h.f1, h.f2, h.f3, h.f4, h.b.drew⟩

/-- What scan tells. -/
def OutSc (w : World) (n : Bool) (wh be : ByteArray) (ex : Int) (ok : Bool) (e : Ending) (w' : World) : Prop :=
  e = .returned (.tuple #[.bool n, .string wh, .string be, .int .i64 ex, .bool ok]) ∧ Below w.heap.size w w'

/-- What scan tells, where the whole part stands. -/
def ScPost (w : World) (n : Bool) (wh be : ByteArray) : Option Int → Ending → World → Prop
  | some ex => OutSc w n wh be ex true
  | none => OutSc w false ⟨#[]⟩ ⟨#[]⟩ 0 false

end Go.Proofs.YtafeofgjmlhklaaGreatDoor

namespace Go.Proofs.YtafeofgjmlhklaaGreatDoor
open Go.RowKit

/-- The power that stands behind the figures; none: it is none. -/
def tailL (l : List UInt8) : Option Int :=
  match l with
  | [] => some 0
  | c :: r =>
    if c.toNat = 101 ∨ c.toNat = 69 then
      let q := if Lib.hasPrefix r [45] = true then Lib.trimPrefix r [45] else Lib.trimPrefix r [43]
      if q.takeWhile isD = [] ∨ q.dropWhile isD ≠ [] then none
      else some ((if Lib.hasPrefix r [45] = true then -1 else 1) * (smallN (q.takeWhile isD) : Int))
    else none
/-- A literal's parts. -/
def scanL (l : List UInt8) : Option (Bool × List UInt8 × List UInt8 × Int) :=
  let r0 := Lib.trimPrefix l [45]
  let wh := r0.takeWhile isD
  let r1 := r0.dropWhile isD
  if wh = [] ∨ (1 < wh.length ∧ wh.head? = some 48) then none
  else if Lib.hasPrefix r1 [46] = true then
    let r := Lib.trimPrefix r1 [46]
    if r.takeWhile isD = [] then none
    else (tailL (r.dropWhile isD)).map fun x => (Lib.hasPrefix l [45], wh, r.takeWhile isD, x)
  else (tailL r1).map fun x => (Lib.hasPrefix l [45], wh, [], x)

theorem empty_iff {s : ByteArray} {l : List UInt8} (h : s.data.toList = l) : s.toList.isEmpty = l.isEmpty := by rw [ByteArray.toList_eq, h]
theorem trimPrefix_le (l p : List UInt8) : (Lib.trimPrefix l p).length ≤ l.length := by
  unfold Lib.trimPrefix
  split
  · simp
  · exact Nat.le_refl _
theorem takeWhile_le (l : List UInt8) (p : UInt8 → Bool) : (l.takeWhile p).length ≤ l.length := (List.takeWhile_prefix _).length_le
theorem dropWhile_le (l : List UInt8) (p : UInt8 → Bool) : (l.dropWhile p).length ≤ l.length := (List.dropWhile_suffix _).length_le
theorem take_digs (l : List UInt8) : Digs (l.takeWhile isD) := fun c hc => isD_iff.1 (by
  have := List.all_takeWhile (l := l) (p := isD)
  exact (List.all_eq_true.1 this) c hc)
theorem smallN_le (l : List UInt8) (h : Digs l) : smallN l ≤ 999999 := by
  unfold smallN
  split
  · exact Nat.le_refl _
  · have h1 : Digs (Lib.trimLeftB l 48) := fun c hc => h c ((List.dropWhile_suffix _).subset hc)
    have h2 := num10_lt _ h1
    have h3 : 10 ^ (Lib.trimLeftB l 48).length ≤ 10 ^ 6 := Nat.pow_le_pow_right (by decide) (by omega)
    omega
theorem head_byte {s : ByteArray} {c : UInt8} {l : List UInt8} (h : s.data.toList = c :: l) (hlt : 0 < s.size) : s[0] = c := by
  have : s.data.toList[0]'(by rw [h]; simp) = c := by simp [h]
  exact this
theorem size_eq {s : ByteArray} {l : List UInt8} (h : s.data.toList = l) : s.size = l.length := by rw [← h]; rfl

theorem trim_c (l p : List UInt8) (W : World) :
    Calls Tryz.prog 54 #[.string ⟨l.toArray⟩, .string ⟨p.toArray⟩] W fun e w' => e = .returned (.string ⟨(Lib.trimPrefix l p).toArray⟩) ∧ w' = W :=
  Tryz.strings_TrimPrefix ⟨l.toArray⟩ ⟨p.toArray⟩ W
/-- What scan tells. -/
def ScanPost (w : World) : Option (Bool × List UInt8 × List UInt8 × Int) → Ending → World → Prop
  | some (n, wh, be, ex) => OutSc w n ⟨wh.toArray⟩ ⟨be.toArray⟩ ex true
  | none => OutSc w false ⟨#[]⟩ ⟨#[]⟩ 0 false

end Go.Proofs.YtafeofgjmlhklaaGreatDoor

namespace Go.Proofs.YtafeofgjmlhklaaGreatDoor
open Go.RowKit

/-- What Parse tells. -/
def parseR (l : List UInt8) : D × Nat :=
  match scanL l with
  | none => (zeroD, 2)
  | some (n, wh, be, ex) =>
    if 1000 < l.length then (zeroD, 3)
    else if fitsB (plainD n (num10 (wh ++ be) 0) (ex - be.length)) = true then (plainD n (num10 (wh ++ be) 0) (ex - be.length), 0)
    else (zeroD, 3)

theorem tail_bound {l : List UInt8} {x : Int} (h : tailL l = some x) : -999999 ≤ x ∧ x ≤ 999999 := by
  unfold tailL at h
  split at h
  · simp at h; omega
  · rename_i c r
    split at h
    · simp only at h
      have h2 := smallN_le _ (take_digs (Lib.trimPrefix r [45]))
      have h3 := smallN_le _ (take_digs (Lib.trimPrefix r [43]))
      by_cases hp : Lib.hasPrefix r [45] = true
      · simp only [hp, if_true] at h
        split at h
        · cases h
        · injection h with h; omega
      · simp only [hp, if_false, Bool.false_eq_true] at h
        split at h
        · cases h
        · injection h with h; omega
    · cases h
theorem scan_facts {l wh be : List UInt8} {n : Bool} {ex : Int} (h : scanL l = some (n, wh, be, ex)) :
    Digs wh ∧ Digs be ∧ wh ≠ [] ∧ wh.length + be.length ≤ l.length ∧ -999999 ≤ ex ∧ ex ≤ 999999 := by
  unfold scanL at h
  simp only at h
  have l0 := trimPrefix_le l [45]
  have l1 : ((Lib.trimPrefix l [45]).takeWhile isD).length + ((Lib.trimPrefix l [45]).dropWhile isD).length = (Lib.trimPrefix l [45]).length := by
    rw [← List.length_append, List.takeWhile_append_dropWhile]
  split at h
  · cases h
  · rename_i h1
    have hne : (Lib.trimPrefix l [45]).takeWhile isD ≠ [] := fun e => h1 (.inl e)
    split at h
    · split at h
      · cases h
      · cases ht : tailL ((Lib.trimPrefix ((Lib.trimPrefix l [45]).dropWhile isD) [46]).dropWhile isD) with
        | none => rw [ht] at h; cases h
        | some x =>
          rw [ht] at h
          simp only [Option.map_some, Option.some.injEq, Prod.mk.injEq] at h
          obtain ⟨_, rfl, rfl, rfl⟩ := h
          have l2 := trimPrefix_le ((Lib.trimPrefix l [45]).dropWhile isD) [46]
          have l3 := takeWhile_le (Lib.trimPrefix ((Lib.trimPrefix l [45]).dropWhile isD) [46]) isD
          exact ⟨take_digs _, take_digs _, hne, by omega, tail_bound ht⟩
    · cases ht : tailL ((Lib.trimPrefix l [45]).dropWhile isD) with
      | none => rw [ht] at h; cases h
      | some x =>
        rw [ht] at h
        simp only [Option.map_some, Option.some.injEq, Prod.mk.injEq] at h
        obtain ⟨_, rfl, rfl, rfl⟩ := h
        exact ⟨take_digs _, fun c hc => by simp at hc, hne, by simp; omega, tail_bound ht⟩

theorem pow_step (K J : Nat) (h : K ≤ 9 * J) : 10 ^ K ≤ Num.B9 ^ J := by
  show 10 ^ K ≤ (10 ^ 9) ^ J
  rw [← Nat.pow_mul]
  exact Nat.pow_le_pow_right (by decide) h
theorem limbs_pow {m K J : Nat} (h : (Num.digs 10 m).length ≤ K) (hK : K ≤ 9 * J) : (Num.limbs m).length ≤ J :=
  limbs_length_le.2 (Nat.lt_of_lt_of_le ((Num.digs_length_le (by decide)).1 h) (pow_step K J hK))
theorem num10_lt_pow (l : List UInt8) (h : Digs l) (K : Nat) (hK : l.length ≤ K) : num10 l 0 < 10 ^ K := Nat.lt_of_lt_of_le (num10_lt _ h) (Nat.pow_le_pow_right (by decide) hK)
theorem digs_num10 (l : List UInt8) (h : Digs l) (K : Nat) (hK : l.length ≤ K) : (Num.digs 10 (num10 l 0)).length ≤ K := (Num.digs_length_le (by decide)).2 (num10_lt_pow l h K hK)

end Go.Proofs.YtafeofgjmlhklaaGreatDoor

namespace Go.Proofs.YtafeofgjmlhklaaGreatDoor
open Go.RowKit

def signD (d : D) : Int := if d.m = 0 then 0 else if d.neg = true then -1 else 1

theorem limbs_zero_iff (m : Nat) : (Num.limbs m).length = 0 ↔ m = 0 := by
  rw [List.length_eq_zero_iff]; exact Num.digs_eq_nil Num.two_le_B9

/-- What both tells of errors. -/
def bothE (x y : Nat) : Nat := if x = 1 ∨ y = 1 then 1 else if x ≠ 0 then x else y
/-- Two numbers and an error, in memory of the call's own. -/
def OutDD (w : World) (x y : D) (err : Nat) (e : Ending) (w' : World) : Prop :=
  ∃ a1 c1 a2 c2, e = .returned (.tuple #[decV x a1 c1, decV y a2 c2, .int .i64 err]) ∧ OwnD w w' x a1 c1 ∧ OwnD w w' y a2 c2

end Go.Proofs.YtafeofgjmlhklaaGreatDoor

namespace Go.Proofs.YtafeofgjmlhklaaGreatDoor
open Go.RowKit

/-- The opposite. -/
def negD (d : D) : D := if d.m = 0 then d else ⟨!d.neg, d.m, d.e⟩

end Go.Proofs.YtafeofgjmlhklaaGreatDoor
