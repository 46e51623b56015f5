/- Layer 2, eighth part: scan's closure, scan. -/
import Derived.Test.YtmdgciolnpkccaaGreatDoorDecG
import Derived.Defers
import Derived.Deep.Cut
import Derived.RegionTactic
import Derived.BigRegion
import Derived.ChangeAlike
import Derived.Laws.ResultCell
namespace Go.Proofs.YtmdgciolnpkccaaGreatDoor
open Go.RowKit

/-- Storing what already stands there turns nothing. -/
theorem setCell_noop (W : World) (a : Addr) (v : Value) (h : W.cell? a = some v) : W.setCell a v = W := by
  unfold World.cell? at h
  split at h
  · rename_i c e f hb
    have hs : a.spot.isSome = false := by
      cases hs : a.spot.isSome with
      | false => rfl
      | true => simp [hs] at h
    simp only [hs] at h
    have hoff : c[a.off]? = some v := by simpa using h
    obtain ⟨ho, hv⟩ := Array.getElem?_eq_some_iff.1 hoff
    suffices this : (W.heap.modify a.block (fun
      | .cells c elem frozen => .cells (if a.spot.isSome then c else c.setIfInBounds a.off v) elem frozen
      | o => o)) = W.heap by
      show ({ W with heap := _ } : World) = W
      exact (congrArg (fun h => ({ W with heap := h } : World)) this)
    · apply Array.ext_getElem?
      intro k
      rw [Array.getElem?_modify]
      split
      · rename_i hk
        subst hk
        rw [hb]
        simp only [Option.map_some, hs, Bool.false_eq_true, if_false]
        congr 2
        rw [← hv]
        simp [Array.setIfInBounds, ho]
      · rfl
  · simp at h

theorem scan1_ok (p0 p1 p2 p3 p4 : Addr) (u : FrameMode) (w : World) (h : w.cell? p0 = some (.bool true)) :
    CallsD Tryz.prog 118 #[.pointer (some p0), .pointer (some p1), .pointer (some p2), .pointer (some p3), .pointer (some p4)] u w fun e u' w' => u' = u ∧ (e = .returned (.tuple #[]) ∧ w' = w) := by
  go_enter_d Tryz.func118, Tryz.ntmps118
  go_wp2
  go_end0
  exact ⟨rfl, rfl⟩

theorem scan1_fail (N : Nat) (u : FrameMode) (w : World) (v0 v1 v2 v3 : Value) (h : w.cell? ⟨N + 1 + 1 + 1 + 1, 0, none⟩ = some (.bool false)) (c0 : w.cell? ⟨N, 0, none⟩ = some v0) (c1 : w.cell? ⟨N + 1, 0, none⟩ = some v1) (c2 : w.cell? ⟨N + 1 + 1, 0, none⟩ = some v2) (c3 : w.cell? ⟨N + 1 + 1 + 1, 0, none⟩ = some v3)
    (f0 : w.frozen? ⟨N, 0, none⟩ = false) (f1 : w.frozen? ⟨N + 1, 0, none⟩ = false) (f2 : w.frozen? ⟨N + 1 + 1, 0, none⟩ = false) (f3 : w.frozen? ⟨N + 1 + 1 + 1, 0, none⟩ = false) :
    CallsD Tryz.prog 118 #[.pointer (some ⟨N + 1 + 1 + 1 + 1, 0, none⟩), .pointer (some ⟨N, 0, none⟩), .pointer (some ⟨N + 1, 0, none⟩), .pointer (some ⟨N + 1 + 1, 0, none⟩), .pointer (some ⟨N + 1 + 1 + 1, 0, none⟩)] u w fun e u' w' => u' = u ∧ (e = .returned (.tuple #[]) ∧ w' = (((w.setCell ⟨N, 0, none⟩ (.bool false)).setCell ⟨N + 1, 0, none⟩ (.string ⟨#[]⟩)).setCell ⟨N + 1 + 1, 0, none⟩ (.string ⟨#[]⟩)).setCell ⟨N + 1 + 1 + 1, 0, none⟩ (.int .i64 0)) := by
  go_enter_d Tryz.func118, Tryz.ntmps118
  go_wp2
  go_end0
  exact ⟨rfl, rfl⟩

/-- scan's five variables. -/
structure Sc (w W : World) (n : Bool) (wh be : ByteArray) (ex : Int) (ok : Bool) : Prop where
  c0 : W.cell? ⟨w.heap.size, 0, none⟩ = some (.bool n)
  c1 : W.cell? ⟨w.heap.size + 1, 0, none⟩ = some (.string wh)
  c2 : W.cell? ⟨w.heap.size + 1 + 1, 0, none⟩ = some (.string be)
  c3 : W.cell? ⟨w.heap.size + 1 + 1 + 1, 0, none⟩ = some (.int .i64 ex)
  c4 : W.cell? ⟨w.heap.size + 1 + 1 + 1 + 1, 0, none⟩ = some (.bool ok)
  f0 : W.frozen? ⟨w.heap.size, 0, none⟩ = false
  f1 : W.frozen? ⟨w.heap.size + 1, 0, none⟩ = false
  f2 : W.frozen? ⟨w.heap.size + 1 + 1, 0, none⟩ = false
  f3 : W.frozen? ⟨w.heap.size + 1 + 1 + 1, 0, none⟩ = false
  f4 : W.frozen? ⟨w.heap.size + 1 + 1 + 1 + 1, 0, none⟩ = false
  b : Below w.heap.size w W

theorem Sc.below {w W W' : World} {n ok : Bool} {wh be : ByteArray} {ex : Int} (h : Sc w W n wh be ex ok) (hb : Below W.heap.size W W') : Sc w W' n wh be ex ok := by
  have B := bcell hb
  refine ⟨?_, ?_, ?_, ?_, ?_, ?_, ?_, ?_, ?_, ?_, below_trans h.b hb⟩
  · rw [B.1 _ _ (cell_lt h.c0)]; exact h.c0
  · rw [B.1 _ _ (cell_lt h.c1)]; exact h.c1
  · rw [B.1 _ _ (cell_lt h.c2)]; exact h.c2
  · rw [B.1 _ _ (cell_lt h.c3)]; exact h.c3
  · rw [B.1 _ _ (cell_lt h.c4)]; exact h.c4
  · rw [B.2 _ _ (cell_lt h.c0)]; exact h.f0
  · rw [B.2 _ _ (cell_lt h.c1)]; exact h.f1
  · rw [B.2 _ _ (cell_lt h.c2)]; exact h.f2
  · rw [B.2 _ _ (cell_lt h.c3)]; exact h.f3
  · rw [B.2 _ _ (cell_lt h.c4)]; exact h.f4

theorem Sc.call {P : Program} {f : FuncId} {args : Array Value} {E : Ending} {K : Ending → World → Prop} {w W : World} {n ok : Bool} {wh be : ByteArray} {ex : Int} (hC : Calls P f args W (fun e w' => e = E ∧ Below W.heap.size W w'))
    (hs : Sc w W n wh be ex ok) (hk : ∀ w', Sc w w' n wh be ex ok → K E w') : Calls P f args W K := by
  refine hC.mono ?_
  rintro e w' ⟨rfl, hb⟩
  exact hk w' (hs.below hb)

theorem Sc.setN {w W : World} {n ok : Bool} {wh be : ByteArray} {ex : Int} (h : Sc w W n wh be ex ok) (n' : Bool) : Sc w (W.setCell ⟨w.heap.size, 0, none⟩ (.bool n')) n' wh be ex ok := by
  refine ⟨World.cell?_setCell_same _ _ _ h.c0, ?_, ?_, ?_, ?_, ?_, ?_, ?_, ?_, ?_, h.b.setCell (Nat.le_refl _) _⟩
  all_goals first | (rw [World.cell?_setCell_other _ _ _ _ (by simp)]; first | exact h.c1 | exact h.c2 | exact h.c3 | exact h.c4) | (rw [World.frozen?_setCell]; first | exact h.f0 | exact h.f1 | exact h.f2 | exact h.f3 | exact h.f4)
theorem Sc.setW {w W : World} {n ok : Bool} {wh be : ByteArray} {ex : Int} (h : Sc w W n wh be ex ok) (s : ByteArray) : Sc w (W.setCell ⟨w.heap.size + 1, 0, none⟩ (.string s)) n s be ex ok := by
  refine ⟨?_, World.cell?_setCell_same _ _ _ h.c1, ?_, ?_, ?_, ?_, ?_, ?_, ?_, ?_, h.b.setCell (by simp only; omega) _⟩
  all_goals first | (rw [World.cell?_setCell_other _ _ _ _ (by simp)]; first | exact h.c0 | exact h.c2 | exact h.c3 | exact h.c4) | (rw [World.frozen?_setCell]; first | exact h.f0 | exact h.f1 | exact h.f2 | exact h.f3 | exact h.f4)
theorem Sc.setB {w W : World} {n ok : Bool} {wh be : ByteArray} {ex : Int} (h : Sc w W n wh be ex ok) (s : ByteArray) : Sc w (W.setCell ⟨w.heap.size + 1 + 1, 0, none⟩ (.string s)) n wh s ex ok := by
  refine ⟨?_, ?_, World.cell?_setCell_same _ _ _ h.c2, ?_, ?_, ?_, ?_, ?_, ?_, ?_, h.b.setCell (by simp only; omega) _⟩
  all_goals first | (rw [World.cell?_setCell_other _ _ _ _ (by simp)]; first | exact h.c0 | exact h.c1 | exact h.c3 | exact h.c4) | (rw [World.frozen?_setCell]; first | exact h.f0 | exact h.f1 | exact h.f2 | exact h.f3 | exact h.f4)
theorem Sc.setE {w W : World} {n ok : Bool} {wh be : ByteArray} {ex : Int} (h : Sc w W n wh be ex ok) (x : Int) : Sc w (W.setCell ⟨w.heap.size + 1 + 1 + 1, 0, none⟩ (.int .i64 x)) n wh be x ok := by
  refine ⟨?_, ?_, ?_, World.cell?_setCell_same _ _ _ h.c3, ?_, ?_, ?_, ?_, ?_, ?_, h.b.setCell (by simp only; omega) _⟩
  all_goals first | (rw [World.cell?_setCell_other _ _ _ _ (by simp)]; first | exact h.c0 | exact h.c1 | exact h.c2 | exact h.c4) | (rw [World.frozen?_setCell]; first | exact h.f0 | exact h.f1 | exact h.f2 | exact h.f3 | exact h.f4)
theorem Sc.setO {w W : World} {n ok : Bool} {wh be : ByteArray} {ex : Int} (h : Sc w W n wh be ex ok) (x : Bool) : Sc w (W.setCell ⟨w.heap.size + 1 + 1 + 1 + 1, 0, none⟩ (.bool x)) n wh be ex x := by
  refine ⟨?_, ?_, ?_, ?_, World.cell?_setCell_same _ _ _ h.c4, ?_, ?_, ?_, ?_, ?_, h.b.setCell (by simp only; omega) _⟩
  all_goals first | (rw [World.cell?_setCell_other _ _ _ _ (by simp)]; first | exact h.c0 | exact h.c1 | exact h.c2 | exact h.c3) | (rw [World.frozen?_setCell]; first | exact h.f0 | exact h.f1 | exact h.f2 | exact h.f3 | exact h.f4)


theorem Sc.start (w : World) (n : Bool) : Sc w (((((w.alloc (Obj.cells #[Value.bool n] 4)).alloc (Obj.cells #[Value.string { data := #[] }] 9)).alloc
              (Obj.cells #[Value.string { data := #[] }] 9)).alloc (Obj.cells #[Value.int IntKind.i64 0] 3)).alloc (Obj.cells #[Value.bool false] 4)) n ⟨#[]⟩ ⟨#[]⟩ 0 false := by
  refine ⟨by simp [go_sem], by simp [go_sem], by simp [go_sem], by simp [go_sem], by simp [go_sem], by simp [go_sem], by simp [go_sem], by simp [go_sem], by simp [go_sem], by simp [go_sem], ?_⟩
  exact (((((Below.refl _ _).alloc (Nat.le_refl _) _).alloc (by simp [go_sem]) _).alloc (by simp [go_sem]; omega) _).alloc (by simp [go_sem]; omega) _).alloc (by simp [go_sem]; omega) _

theorem Sc.drew {w W : World} {n ok : Bool} {wh be : ByteArray} {ex : Int} (h : Sc w W n wh be ex ok) : Sc w W.drew n wh be ex ok := ⟨h.c0, h.c1, h.c2, h.c3, h.c4, h.f0, h.f1, h.f2, h.f3, h.f4, h.b.drew⟩

/-- What scan tells. -/
def OutSc (w : World) (n : Bool) (wh be : ByteArray) (ex : Int) (ok : Bool) (e : Ending) (w' : World) : Prop :=
  e = .returned (.tuple #[.bool n, .string wh, .string be, .int .i64 ex, .bool ok]) ∧ Below w.heap.size w w'

def scDefer (w : World) : Deferred := { target := Target.fn (Fn.func 118) #[Value.pointer (some { block := w.heap.size + 1 + 1 + 1 + 1, off := 0 }), Value.pointer (some { block := w.heap.size, off := 0 }),
                  Value.pointer (some { block := w.heap.size + 1, off := 0 }), Value.pointer (some { block := w.heap.size + 1 + 1, off := 0 }), Value.pointer (some { block := w.heap.size + 1 + 1 + 1, off := 0 })], args := #[] }

theorem sc_results {w W : World} {n ok : Bool} {wh be : ByteArray} {ex : Int} {T : Array Value} (h : Sc w W n wh be ex ok)
    (h2 : T[2]?.getD undef = .pointer (some ⟨w.heap.size, 0, none⟩)) (h3 : T[3]?.getD undef = .pointer (some ⟨w.heap.size + 1, 0, none⟩)) (h4 : T[4]?.getD undef = .pointer (some ⟨w.heap.size + 1 + 1, 0, none⟩))
    (h5 : T[5]?.getD undef = .pointer (some ⟨w.heap.size + 1 + 1 + 1, 0, none⟩)) (h6 : T[6]?.getD undef = .pointer (some ⟨w.heap.size + 1 + 1 + 1 + 1, 0, none⟩)) :
    (results Tryz.f59 T).run Tryz.prog W = .ok (.tuple #[.bool n, .string wh, .string be, .int .i64 ex, .bool ok]) W := by
  obtain ⟨c0, c1, c2, c3, c4, f0, f1, f2, f3, f4, hb⟩ := h
  simp [results, Tryz.results59, go_sem, h2, h3, h4, h5, h6, c0, c1, c2, c3, c4]

theorem door_fail {w W : World} {n : Bool} {wh be : ByteArray} {ex : Int} {T : Array Value} (h : Sc w W n wh be ex false)
    (h2 : T[2]?.getD undef = .pointer (some ⟨w.heap.size, 0, none⟩)) (h3 : T[3]?.getD undef = .pointer (some ⟨w.heap.size + 1, 0, none⟩)) (h4 : T[4]?.getD undef = .pointer (some ⟨w.heap.size + 1 + 1, 0, none⟩))
    (h5 : T[5]?.getD undef = .pointer (some ⟨w.heap.size + 1 + 1 + 1, 0, none⟩)) (h6 : T[6]?.getD undef = .pointer (some ⟨w.heap.size + 1 + 1 + 1 + 1, 0, none⟩)) :
    bodyPostD Tryz.prog Tryz.f59 (OutSc w false ⟨#[]⟩ ⟨#[]⟩ 0 false) .ret { tmps := T, defers := [scDefer w] } W := by
  refine leaves_cons (f := 118) (args := #[Value.pointer (some { block := w.heap.size + 1 + 1 + 1 + 1, off := 0 }), Value.pointer (some { block := w.heap.size, off := 0 }),
                  Value.pointer (some { block := w.heap.size + 1, off := 0 }), Value.pointer (some { block := w.heap.size + 1 + 1, off := 0 }), Value.pointer (some { block := w.heap.size + 1 + 1 + 1, off := 0 })]) (by simp) (by simp [go_sem]) ?_
  refine (scan1_fail w.heap.size .returning W _ _ _ _ h.c4 h.c0 h.c1 h.c2 h.c3 h.f0 h.f1 h.f2 h.f3).mono ?_
  rintro e u' w'' ⟨rfl, rfl, rfl⟩
  have h' := (((h.setN false).setW ⟨#[]⟩).setB ⟨#[]⟩).setE 0
  exact ⟨_, sc_results h' h2 h3 h4 h5 h6, rfl, h'.b⟩

theorem door_ok {w W : World} {n : Bool} {wh be : ByteArray} {ex : Int} {T : Array Value} (h : Sc w W n wh be ex true)
    (h2 : T[2]?.getD undef = .pointer (some ⟨w.heap.size, 0, none⟩)) (h3 : T[3]?.getD undef = .pointer (some ⟨w.heap.size + 1, 0, none⟩)) (h4 : T[4]?.getD undef = .pointer (some ⟨w.heap.size + 1 + 1, 0, none⟩))
    (h5 : T[5]?.getD undef = .pointer (some ⟨w.heap.size + 1 + 1 + 1, 0, none⟩)) (h6 : T[6]?.getD undef = .pointer (some ⟨w.heap.size + 1 + 1 + 1 + 1, 0, none⟩)) :
    bodyPostD Tryz.prog Tryz.f59 (OutSc w n wh be ex true) .ret { tmps := T, defers := [scDefer w] } W := by
  refine leaves_cons (f := 118) (args := #[Value.pointer (some { block := w.heap.size + 1 + 1 + 1 + 1, off := 0 }), Value.pointer (some { block := w.heap.size, off := 0 }),
                  Value.pointer (some { block := w.heap.size + 1, off := 0 }), Value.pointer (some { block := w.heap.size + 1 + 1, off := 0 }), Value.pointer (some { block := w.heap.size + 1 + 1 + 1, off := 0 })]) (by simp) (by simp [go_sem]) ?_
  refine (scan1_ok _ _ _ _ _ .returning W h.c4).mono ?_
  rintro e u' w'' ⟨rfl, rfl, rfl⟩
  exact ⟨_, sc_results h h2 h3 h4 h5 h6, rfl, h.b⟩

set_option maxRecDepth 100000 in
set_option maxHeartbeats 800000 in
theorem scan_whole_bad (s : ByteArray) (w : World) (n : Bool) (R0 Wh R1 : ByteArray)
    (C1 : Hid (∀ W, Calls Tryz.prog 119 #[.string s, .string ⟨#[45]⟩] W fun e w' => e = .returned (.tuple #[.string R0, .bool n]) ∧ w' = W))
    (C2 : Hid (∀ W, Calls Tryz.prog 120 #[.string R0] W fun e w' => e = .returned (.tuple #[.string Wh, .string R1]) ∧ Below W.heap.size W w'))
    (hw : Wh.toList.isEmpty = true) :
    Calls Tryz.prog 59 #[.string s] w (OutSc w false ⟨#[]⟩ ⟨#[]⟩ 0 false) := by
  have hmf : ∀ (fn : Fn) (first cap : Array Value) (w : World), (Instr.makeFunc fn first cap).run Tryz.prog w = .ok (.func fn first cap) w := fun _ _ _ _ => rfl
  go_enter_defers Tryz.func59, Tryz.ntmps59
  go_wp2_with fail
  refine (C1.out _).mono ?_
  rintro e w1 ⟨rfl, rfl⟩
  go_wp2_with fail
  refine Sc.call (C2.out _) (Sc.start w n) ?_
  intro w1 hS
  have HS := hid hS
  obtain ⟨c0, c1, c2, c3, c4, f0, f1, f2, f3, f4, hb⟩ := hS
  clear hb C1 C2
  go_wp2_with fail
  exact door_fail (HS.out.setW _) rfl rfl rfl rfl rfl

set_option maxRecDepth 100000 in
set_option maxHeartbeats 800000 in
theorem scan_whole_nought (s : ByteArray) (w : World) (n : Bool) (R0 Wh R1 : ByteArray)
    (C1 : Hid (∀ W, Calls Tryz.prog 119 #[.string s, .string ⟨#[45]⟩] W fun e w' => e = .returned (.tuple #[.string R0, .bool n]) ∧ w' = W))
    (C2 : Hid (∀ W, Calls Tryz.prog 120 #[.string R0] W fun e w' => e = .returned (.tuple #[.string Wh, .string R1]) ∧ Below W.heap.size W w'))
    (hw : Wh.toList.isEmpty = false) (h1 : (1 : Int) < (Wh.size : Int)) (hlt : 0 < Wh.size) (hc : Wh[0] = 48) :
    Calls Tryz.prog 59 #[.string s] w (OutSc w false ⟨#[]⟩ ⟨#[]⟩ 0 false) := by
  have hmf : ∀ (fn : Fn) (first cap : Array Value) (w : World), (Instr.makeFunc fn first cap).run Tryz.prog w = .ok (.func fn first cap) w := fun _ _ _ _ => rfl
  go_enter_defers Tryz.func59, Tryz.ntmps59
  go_wp2_with fail
  refine (C1.out _).mono ?_
  rintro e w1 ⟨rfl, rfl⟩
  go_wp2_with fail
  refine Sc.call (C2.out _) (Sc.start w n) ?_
  intro w1 hS
  have HS := hid hS
  obtain ⟨c0, c1, c2, c3, c4, f0, f1, f2, f3, f4, hb⟩ := hS
  clear hb C1 C2
  go_wp2_with fail
  exact door_fail (HS.out.setW _) rfl rfl rfl rfl rfl

/-- What scan tells, where the whole part stands. -/
def ScPost (w : World) (n : Bool) (wh be : ByteArray) : Option Int → Ending → World → Prop
  | some ex => OutSc w n wh be ex true
  | none => OutSc w false ⟨#[]⟩ ⟨#[]⟩ 0 false

/-- What stands behind the number's figures, as scan goes through it. -/
inductive Tail (R2 : ByteArray) : Option Int → Prop
  | done (h : R2.toList.isEmpty = true) : Tail R2 (some 0)
  | no (c : UInt8) (h : R2.toList.isEmpty = false) (hlt : 0 < R2.size) (hc : R2[0] = c) (h1 : c.toNat ≠ 101) (h2 : c.toNat ≠ 69) : Tail R2 none
  | pow (c : UInt8) (R3 M P4 Q Pw R5 : ByteArray) (mi : Bool) (sg x : Int) (o : Option Int) (h : R2.toList.isEmpty = false) (hlt : 0 < R2.size) (hc : R2[0] = c) (h1 : c.toNat = 101 ∨ c.toNat = 69)
      (h3 : R2.extract 1 R2.size = R3) (hsz : R2.size ≤ 9223372036854775807)
      (C5 : ∀ W, Calls Tryz.prog 119 #[.string R3, .string ⟨#[45]⟩] W fun e w' => e = .returned (.tuple #[.string M, .bool mi]) ∧ w' = W)
      (C6 : ∀ W, Calls Tryz.prog 121 #[.string R3, .string ⟨#[43]⟩] W fun e w' => e = .returned (.string P4) ∧ w' = W)
      (hq : (mi = true ∧ Q = M ∧ sg = -1) ∨ (mi = false ∧ Q = P4 ∧ sg = 1))
      (C7 : ∀ W, Calls Tryz.prog 120 #[.string Q] W fun e w' => e = .returned (.tuple #[.string Pw, .string R5]) ∧ Below W.heap.size W w')
      (C8 : ∀ W, Calls Tryz.prog 122 #[.string Pw] W fun e w' => e = .returned (.int .i64 x) ∧ Below W.heap.size W w')
      (hx : 0 ≤ x ∧ x ≤ 999999)
      (ho : (Pw.toList.isEmpty = true ∧ o = none) ∨ (Pw.toList.isEmpty = false ∧ R5.toList.isEmpty = false ∧ o = none) ∨ (Pw.toList.isEmpty = false ∧ R5.toList.isEmpty = true ∧ o = some (sg * x))) : Tail R2 o

set_option maxRecDepth 100000 in
set_option maxHeartbeats 1600000 in
theorem scan_walk (s : ByteArray) (w : World) (n : Bool) (R0 Wh R1 Rr Be' R2' Be R2 : ByteArray) (pt : Bool) (c : UInt8) (o : Option Int)
    (C1 : Hid (∀ W, Calls Tryz.prog 119 #[.string s, .string ⟨#[45]⟩] W fun e w' => e = .returned (.tuple #[.string R0, .bool n]) ∧ w' = W))
    (C2 : Hid (∀ W, Calls Tryz.prog 120 #[.string R0] W fun e w' => e = .returned (.tuple #[.string Wh, .string R1]) ∧ Below W.heap.size W w'))
    (hw : Wh.toList.isEmpty = false) (hlt : 0 < Wh.size) (hc : Wh[0] = c) (hgood : Hid (Wh.size ≤ 1 ∨ (1 < Wh.size ∧ c.toNat ≠ 48)))
    (C3 : Hid (∀ W, Calls Tryz.prog 119 #[.string R1, .string ⟨#[46]⟩] W fun e w' => e = .returned (.tuple #[.string Rr, .bool pt]) ∧ w' = W))
    (C4 : Hid (∀ W, Calls Tryz.prog 120 #[.string Rr] W fun e w' => e = .returned (.tuple #[.string Be', .string R2']) ∧ Below W.heap.size W w'))
    (hpt : Hid ((pt = false ∧ R2 = R1 ∧ Be = ⟨#[]⟩) ∨ (pt = true ∧ Be'.toList.isEmpty = false ∧ R2 = R2' ∧ Be = Be') ∨ (pt = true ∧ Be'.toList.isEmpty = true ∧ o = none)))
    (htl : Hid (Tail R2 o)) :
    Calls Tryz.prog 59 #[.string s] w (ScPost w n Wh Be o) := by
  have hmf : ∀ (fn : Fn) (first cap : Array Value) (w : World), (Instr.makeFunc fn first cap).run Tryz.prog w = .ok (.func fn first cap) w := fun _ _ _ _ => rfl
  go_enter_defers Tryz.func59, Tryz.ntmps59
  go_wp2_with fail
  refine (C1.out _).mono ?_
  rintro e w1 ⟨rfl, rfl⟩
  go_wp2_with fail
  refine Sc.call (C2.out _) (Sc.start w n) ?_
  intro w1 hS
  have HS := hid hS
  obtain ⟨c0, c1, c2, c3, c4, f0, f1, f2, f3, f4, hb⟩ := hS
  clear hb C1 C2
  go_upto_region 4 with fail
  go_cut [36] from 14 (fun v w' => v = .bool false ∧ Sc w w' n Wh ⟨#[]⟩ 0 false)
  case first =>
    rcases hgood.out with h | ⟨h, h2⟩
    · have h : ((Wh.size : Nat) : Int) ≤ 1 := by omega
      go_wp2_with fail
      go_meet
      case rel => exact ⟨rfl, HS.out.setW _⟩
    · have h : (1 : Int) < ((Wh.size : Nat) : Int) := by omega
      have h2 : (((c.toNat : Nat) : Int) == 48) = false := by rw [beq_eq_false_iff_ne]; omega
      go_wp2_with fail
      go_meet
      case rel => exact ⟨rfl, HS.out.setW _⟩
  case rest =>
    obtain ⟨rfl, hS⟩ := hcut
    clear HS c0 c1 c2 c3 c4 f0 f1 f2 f3 f4 hgood hc hlt hw
    have HS := hid hS
    obtain ⟨c0, c1, c2, c3, c4, f0, f1, f2, f3, f4, hb⟩ := hS
    clear hb
    go_upto_if 42 with (go_at_call 119; refine (C3.out _).mono ?_; rintro e1 w1 ⟨rfl, rfl⟩)
    go_cut [7] from 14 (fun r w' => r = .string R2 ∧ Sc w w' n Wh Be 0 false)
    case first =>
      rcases hpt.out with ⟨rfl, rfl, rfl⟩ | ⟨rfl, h, rfl, rfl⟩ | ⟨rfl, h, rfl⟩
      · go_wp2_with fail
        go_meet
        case rel => exact ⟨rfl, HS.out⟩
      · go_wp2_with fail
        refine Sc.call (C4.out _) HS.out ?_
        intro w2 hS2
        have HS2 := hid hS2
        obtain ⟨c0, c1, c2, c3, c4, f0, f1, f2, f3, f4, hb⟩ := hS2
        clear hb C4 hpt
        go_wp2_with fail
        go_meet
        case rel => exact ⟨rfl, HS2.out.setB _⟩
      · go_wp2_with fail
        refine Sc.call (C4.out _) HS.out ?_
        intro w2 hS2
        have HS2 := hid hS2
        obtain ⟨c0, c1, c2, c3, c4, f0, f1, f2, f3, f4, hb⟩ := hS2
        clear hb C4 hpt
        go_wp2_with fail
        exact door_fail (HS2.out.setB _) rfl rfl rfl rfl rfl
    case rest =>
      obtain ⟨rfl, hS⟩ := hcut
      clear HS c0 c1 c2 c3 c4 f0 f1 f2 f3 f4 hpt C3 C4
      have HS := hid hS
      obtain ⟨c0, c1, c2, c3, c4, f0, f1, f2, f3, f4, hb⟩ := hS
      clear hb
      rcases htl.out with h | ⟨c, h, hlt, hc, h1, h2⟩ | ⟨c, R3, M, P4, Q, Pw, R5, mi, sg, x, o, h, hlt, hc, h1, h3, hsz, C5, C6, hq, C7, C8, hx, ho⟩
      · clear htl
        have hsame := setCell_noop
        go_wp2_with fail
        go_region
        go_wp2_with fail
        exact door_ok (HS.out.setO true).drew rfl rfl rfl rfl rfl
      · clear htl
        have h1 : (((c.toNat : Nat) : Int) != 101) = true := by rw [bne_iff_ne]; omega
        have h2 : (((c.toNat : Nat) : Int) != 69) = true := by rw [bne_iff_ne]; omega
        go_wp2_with fail
        exact door_fail HS.out rfl rfl rfl rfl rfl
      · have C5 := hid C5
        have C6 := hid C6
        have C7 := hid C7
        have C8 := hid C8
        have hq := hid hq
        have ho := hid ho
        have hlen : (1 : Int) ≤ ((R2.size : Nat) : Int) := by omega
        clear htl
        go_upto_region 11 with fail
        go_cut [62] from 14 (fun v w' => v = .bool false ∧ Sc w w' n Wh Be 0 false)
        case first =>
          rcases h1 with h1 | h1
          · have h1 : (((c.toNat : Nat) : Int) != 101) = false := by rw [bne_eq_false_iff_eq]; omega
            go_wp2_with fail
            go_meet
            case rel => exact ⟨rfl, HS.out⟩
          · have h2 : (((c.toNat : Nat) : Int) != 101) = true := by rw [bne_iff_ne]; omega
            have h1 : (((c.toNat : Nat) : Int) != 69) = false := by rw [bne_eq_false_iff_eq]; omega
            go_wp2_with fail
            go_meet
            case rel => exact ⟨rfl, HS.out⟩
        case rest =>
          obtain ⟨rfl, hS⟩ := hcut
          clear HS c0 c1 c2 c3 c4 f0 f1 f2 f3 f4 h1
          have HS := hid hS
          obtain ⟨c0, c1, c2, c3, c4, f0, f1, f2, f3, f4, hb⟩ := hS
          clear hb
          go_upto_if 70 with (go_at_call 119; refine (C5.out _).mono ?_; rintro e1 w1 ⟨rfl, rfl⟩)
          go_cut [10, 7] from 14 (fun v r w' => v = .int .i64 sg ∧ r = .string Q ∧ Sc w w' n Wh Be 0 false)
          case first =>
            rcases hq.out with ⟨rfl, rfl, rfl⟩ | ⟨rfl, rfl, rfl⟩
            · go_wp2_with fail
              go_meet
              case rel => exact ⟨rfl, rfl, HS.out⟩
            · go_wp2_with (go_at_call 121; refine (C6.out _).mono ?_; rintro e1 w1 ⟨rfl, rfl⟩)
              go_meet
              case rel => exact ⟨rfl, rfl, HS.out⟩
          case rest =>
            obtain ⟨rfl, rfl, hS⟩ := hcut
            clear HS c0 c1 c2 c3 c4 f0 f1 f2 f3 f4
            have HS := hid hS
            obtain ⟨c0, c1, c2, c3, c4, f0, f1, f2, f3, f4, hb⟩ := hS
            clear hb
            go_wp2_with fail
            refine Sc.call (C7.out _) HS.out ?_
            intro w2 hS2
            clear c0 c1 c2 c3 c4 f0 f1 f2 f3 f4 HS h hlt hc h3 hlen
            have HS2 := hid hS2
            obtain ⟨c0, c1, c2, c3, c4, f0, f1, f2, f3, f4, hb⟩ := hS2
            clear hb C5 C6 C7
            rcases ho.out with ⟨h, rfl⟩ | ⟨h, h2, rfl⟩ | ⟨h, h2, rfl⟩
            · go_wp2_with fail
              exact door_fail HS2.out rfl rfl rfl rfl rfl
            · go_wp2_with fail
              exact door_fail HS2.out rfl rfl rfl rfl rfl
            · go_wp2_with fail
              refine Sc.call (C8.out _) HS2.out ?_
              intro w3 hS3
              clear c0 c1 c2 c3 c4 f0 f1 f2 f3 f4 HS2
              have HS3 := hid hS3
              obtain ⟨c0, c1, c2, c3, c4, f0, f1, f2, f3, f4, hb⟩ := hS3
              clear hb C8
              have hwr : IntKind.i64.wrap (sg * x) = sg * x := by
                rcases hq.out with ⟨_, _, rfl⟩ | ⟨_, _, rfl⟩
                · rw [IntKind.wrap_i64]; omega
                · rw [IntKind.wrap_i64]; omega
              have hsame := setCell_noop
              go_upto_region 21 with fail
              go_region
              go_wp2_with fail
              exact door_ok ((HS3.out.setE _).setO true).drew rfl rfl rfl rfl rfl

end Go.Proofs.YtmdgciolnpkccaaGreatDoor
