/- Words for what a world holds, and small laws on them. Nothing of the program. -/
import Derived.WalkKit
import Derived.WalkSpells
import Derived.WalkLawsBesides
import Derived.Laws.AppendOwnNone
import Derived.Laws.IdiomStrings
import Derived.Lib.AppendStr
namespace Go.Proofs.YtafeofgjmlhklaaGreatDoor
open Go.RowKit

/-- A fact kept from the walk. -/
theorem hid {p : Prop} (h : p) : Hid p := h

/-- The slice that begins at a, of elements of one cell each, reads as xs. -/
def Row (w : World) (a : Option Addr) (xs : List Value) : Prop :=
  ∀ j x, xs[j]? = some x → ∃ b off, a = some ⟨b, off, none⟩ ∧ w.cell? ⟨b, off + j, none⟩ = some x

theorem Row.nil (w : World) (a : Option Addr) : Row w a [] := fun j x h => by simp at h
theorem cell_lt {w : World} {b off : Nat} {x : Value} (h : w.cell? ⟨b, off, none⟩ = some x) : b < w.heap.size := World.block_lt_of_cell? w ⟨b, off, none⟩ h
theorem Row.below {w w' : World} {a : Option Addr} {xs : List Value} (h : Row w a xs) (hb : Below w.heap.size w w') : Row w' a xs := fun j x hx => by
  obtain ⟨b, off, e, hc⟩ := h j x hx
  exact ⟨b, off, e, (hb.cell (p := ⟨b, off + j, none⟩) (cell_lt hc)).trans hc⟩
theorem Row.drewN {w : World} {a : Option Addr} {xs : List Value} (h : Row w a xs) (n : Nat) : Row (w.drewN n) a xs := h
theorem Row.cellAt {w : World} {b off : Nat} {xs : List Value} (h : Row w (some ⟨b, off, none⟩) xs) {j : Nat} (hj : j < xs.length) : w.cell? ⟨b, off + j, none⟩ = some xs[j] := by
  obtain ⟨b', off', e, hc⟩ := h j xs[j] (List.getElem?_eq_getElem hj)
  injection e with e; injection e with e1 e2; subst e1 e2; exact hc
theorem Row.isSome {w : World} {a : Option Addr} {xs : List Value} (h : Row w a xs) (hn : xs ≠ []) : ∃ b off, a = some ⟨b, off, none⟩ := by
  cases xs with
  | nil => exact absurd rfl hn
  | cons x xs => obtain ⟨b, off, e, _⟩ := h 0 x rfl; exact ⟨b, off, e⟩
theorem Row.take {w : World} {a : Option Addr} {xs : List Value} (h : Row w a xs) (n : Nat) : Row w a (xs.take n) := fun j x hx => by
  rw [List.getElem?_take] at hx; split at hx
  · exact h j x hx
  · cases hx

/-- Numbers below 2^32 as they lie in cells. -/
def u32s (xs : List Nat) : List Value := xs.map fun (x : Nat) => Value.int .u32 (x : Int)
@[simp] theorem length_u32s (xs : List Nat) : (u32s xs).length = xs.length := by simp [u32s]
theorem Row.u32 {w : World} {b off : Nat} {xs : List Nat} (h : Row w (some ⟨b, off, none⟩) (u32s xs)) {j : Nat} (hj : j < xs.length) : w.cell? ⟨b, off + j, none⟩ = some (.int .u32 ((xs.getD j 0 : Nat) : Int)) := by
  have := h.cellAt (j := j) (by simpa using hj)
  rw [this]; simp [u32s, hj]

theorem u32s_get {xs : List Nat} {j : Nat} (hj : j < xs.length) : ∃ u : Int, (u32s xs)[j]? = some (.int .u32 u) := ⟨(xs[j] : Int), by simp [u32s, hj]⟩

/-- What an owned slice of one-cell elements is, and that it reads. -/
theorem owns_row {w : World} {base : Nat} {e : TypeId} {v : Value} {n : Nat} {xs : List Value} (h : w.ownsRow base e 1 v n xs) : ∃ a cap, v = .slice a n cap ∧ Row w a xs ∧ xs.length = n := by
  have hl : xs.length = n := by simpa using h.1
  rcases h.2 with ⟨rfl, rfl⟩ | ⟨g, cap, cur, rfl, hb, hg, hn, hm, hs, ht⟩
  · obtain rfl : xs = [] := List.length_eq_zero_iff.1 hl
    exact ⟨none, 0, rfl, Row.nil _ _, rfl⟩
  · refine ⟨_, _, rfl, fun j x hx => ⟨g, 0, rfl, ?_⟩, hl⟩
    have hj : j < n * 1 := by
      have := (List.getElem?_eq_some_iff.1 hx).1; omega
    rw [Nat.zero_add, h.cellAt j hj, hx]

/-- An owned slice cut at its end is owned. -/
theorem owns_take {w : World} {base : Nat} {e : TypeId} {a : Option Addr} {n cap : Nat} {xs : List Value} (h : w.ownsRow base e 1 (.slice a n cap) n xs) (ha : a ≠ none) (m : Nat) (hm : m ≤ n) :
    w.ownsRow base e 1 (.slice a m cap) m (xs.take m) := by
  have hl : xs.length = n := by simpa using h.1
  refine ⟨by simp; omega, ?_⟩
  rcases h.2 with ⟨e1, rfl⟩ | ⟨g, cap', cur, e1, hb, hg, hn, hmx, hs, ht⟩
  · injection e1 with e1 e2 e3; exact absurd e1 ha
  · injection e1 with e1 e2 e3; subst e1 e3
    refine .inr ⟨g, cap, cur, rfl, hb, hg, by omega, hmx, hs, ?_⟩
    rw [← ht, List.take_take, Nat.mul_one, Nat.mul_one, Nat.min_eq_left hm]

theorem owns_cap {w : World} {base : Nat} {e : TypeId} {a : Option Addr} {n cap m : Nat} {xs : List Value} (h : w.ownsRow base e 1 (.slice a n cap) m xs) : m ≤ cap ∧ cap ≤ 9223372036854775807 := by
  rcases h.2 with ⟨e1, rfl⟩ | ⟨g, cap', cur, e1, hb, hg, hn, hmx, hs, ht⟩
  · injection e1 with e1 e2 e3; subst e3; simp
  · injection e1 with e1 e2 e3; subst e1 e3; unfold maxLen at hmx; omega

/-- Cut at its end, whatever it is. -/
theorem owns_cut {w : World} {base : Nat} {e : TypeId} {a : Option Addr} {n cap : Nat} {xs : List Value} (h : w.ownsRow base e 1 (.slice a n cap) n xs) (m : Nat) (hm : m ≤ n) :
    w.ownsRow base e 1 (.slice a m cap) m (xs.take m) := by
  by_cases ha : a = none
  · subst ha
    rcases h.2 with ⟨e1, rfl⟩ | ⟨g, cap', cur, e1, hb, hg, hn, hmx, hs, ht⟩
    · injection e1 with e1 e2 e3; subst e3; obtain rfl : m = 0 := by omega
      exact ⟨by simp, .inl ⟨rfl, rfl⟩⟩
    · injection e1 with e1; cases e1
  · exact owns_take h ha m hm

theorem owned_row {w : World} {base : Nat} {e : TypeId} {a : Option Addr} {n cap : Nat} {xs : List Value} (h : w.ownsRow base e 1 (.slice a n cap) n xs) : Row w a xs := by
  obtain ⟨a', cap', e1, hr, _⟩ := owns_row h
  injection e1 with e1 e2 e3; subst e1; exact hr

theorem owns_mono {w : World} {base base' : Nat} {e : TypeId} {size : Nat} {v : Value} {n : Nat} {xs : List Value} (h : w.ownsRow base e size v n xs) (hb : base' ≤ base) : w.ownsRow base' e size v n xs := by
  refine ⟨h.1, ?_⟩
  rcases h.2 with h | ⟨g, cap, cur, h1, h2, h3⟩
  · exact .inl h
  · exact .inr ⟨g, cap, cur, h1, by omega, h3⟩

/-- A slice of 32-bit numbers. -/
structure U32 (w : World) (a : Option Addr) (xs : List Nat) : Prop where
  row : Row w a (u32s xs)
  lt : ∀ x ∈ xs, x < 4294967296
theorem U32.below {w w' : World} {a : Option Addr} {xs : List Nat} (h : U32 w a xs) (hb : Below w.heap.size w w') : U32 w' a xs := ⟨h.row.below hb, h.lt⟩
theorem U32.getD_lt {w : World} {a : Option Addr} {xs : List Nat} (h : U32 w a xs) (i : Nat) : xs.getD i 0 < 4294967296 := by
  by_cases hi : i < xs.length
  · exact h.lt _ (by simp [hi])
  · simp [List.getElem?_eq_none (show xs.length ≤ i by omega)]
theorem U32.isSome {w : World} {a : Option Addr} {xs : List Nat} (h : U32 w a xs) (hn : xs ≠ []) : ∃ b off, a = some ⟨b, off, none⟩ := h.row.isSome (by intro e; exact hn (by simpa [u32s] using e))

theorem below_alloc {w w' : World} {o : Obj} (h : Below (w.alloc o).heap.size (w.alloc o) w') : Below w.heap.size w w' :=
  ((Below.refl _ _).alloc (Nat.le_refl _) o).trans (h.mono (by simp))
theorem below_trans {w w1 w2 : World} (h : Below w.heap.size w w1) (h2 : Below w1.heap.size w1 w2) : Below w.heap.size w w2 := h.trans (h2.mono h.size)

/-- A call through a function's value, of a function that has a body. -/
theorem run_callFunc {P : Program} {f : FuncId} {fn : Func} (hf : P.funcs[f]? = some fn) (hname : (fn.name == "runtime.NumGoroutine") = false) (hb : fn.body.isNone = false) (args : Array Value) (w : World) :
    (callFunc f args).run P w = .ok (.enter f args) w := by
  have h1 : fn.name ≠ "runtime.NumGoroutine" := by simpa using hname
  have h2 : fn.body.isSome = true := by cases h : fn.body <;> simp_all
  obtain ⟨b, h3⟩ := Option.isSome_iff_exists.1 h2
  simp [callFunc, hf, h1, h3]

/-- A block that is known whole. -/
theorem blk_below {w w' : World} {N : Nat} {o : Obj} (h : w.heap[N]? = some o) (hb : Below w.heap.size w w') : w'.heap[N]? = some o := by
  rw [hb.block N (Array.getElem?_eq_some_iff.1 h).1]; exact h
theorem blk_new (w : World) (o : Obj) : (w.alloc o).heap[w.heap.size]? = some o := heap_alloc_new w o
theorem blk_new2 (w : World) (o o2 : Obj) : ((w.alloc o).alloc o2).heap[w.heap.size + 1]? = some o2 := by simpa using heap_alloc_new (w.alloc o) o2
theorem blk_alloc {w : World} {N : Nat} {o : Obj} (h : w.heap[N]? = some o) (o2 : Obj) : (w.alloc o2).heap[N]? = some o := blk_below h ((Below.refl _ _).alloc (Nat.le_refl _) _)
theorem blk_lt {w : World} {N : Nat} {o : Obj} (h : w.heap[N]? = some o) : N < w.heap.size := (Array.getElem?_eq_some_iff.1 h).1
theorem blk_cell {w : World} {N : Nat} {cs : Array Value} {T : TypeId} {fr : Nat × Nat} (h : w.heap[N]? = some (.cells cs T fr)) (j : Nat) : w.cell? ⟨N, j, none⟩ = cs[j]? := by simp [World.cell?, h]
theorem blk_frozen {w : World} {N : Nat} {cs : Array Value} {T : TypeId} (h : w.heap[N]? = some (.cells cs T (0, 0))) (j : Nat) : w.frozen? ⟨N, j, none⟩ = false := by simp [World.frozen?, h]
/-- The three cells of a block, and that they may be written. -/
theorem blk_three {w : World} {N : Nat} {x y z : Value} {T : TypeId} (h : w.heap[N]? = some (.cells #[x, y, z] T (0, 0))) :
    (w.cell? ⟨N, 0, none⟩ = some x ∧ w.cell? ⟨N, 1, none⟩ = some y ∧ w.cell? ⟨N, 2, none⟩ = some z) ∧ (w.frozen? ⟨N, 0, none⟩ = false ∧ w.frozen? ⟨N, 1, none⟩ = false ∧ w.frozen? ⟨N, 2, none⟩ = false) :=
  ⟨⟨blk_cell h 0, blk_cell h 1, blk_cell h 2⟩, blk_frozen h 0, blk_frozen h 1, blk_frozen h 2⟩

theorem bcell {W w1 : World} (hb : Below W.heap.size W w1) : (∀ b o, b < W.heap.size → w1.cell? ⟨b, o, none⟩ = W.cell? ⟨b, o, none⟩) ∧ (∀ b o, b < W.heap.size → w1.frozen? ⟨b, o, none⟩ = W.frozen? ⟨b, o, none⟩) :=
  ⟨fun b o h => hb.cell (p := ⟨b, o, none⟩) h, fun b o h => hb.frozen (p := ⟨b, o, none⟩) h⟩
theorem ret_int {k : IntKind} {a b : Int} (h : a = b) : Ending.returned (.int k a) = .returned (.int k b) := by rw [h]
theorem ret_bool {a b : Bool} (h : a = b) : Ending.returned (.bool a) = .returned (.bool b) := by rw [h]
theorem below_of_drewN {w w' : World} {n : Nat} (h : w' = w.drewN n) (B : Nat) : Below B w w' := h ▸ below_drewN (Below.refl _ _) n

/-- What is owned stays owned when nothing that was there turns. -/
theorem owns_below {w w' : World} {base : Nat} {e : TypeId} {size : Nat} {v : Value} {n : Nat} {xs : List Value} (h : w.ownsRow base e size v n xs) (hb : Below w.heap.size w w') : w'.ownsRow base e size v n xs := by
  refine ⟨h.1, ?_⟩
  rcases h.2 with h | ⟨g, cap, cur, h1, h2, h3, h4⟩
  · exact .inl h
  · exact .inr ⟨g, cap, cur, h1, h2, by rw [hb.block g (Array.getElem?_eq_some_iff.1 h3).1]; exact h3, h4⟩
theorem owns_grown {w w' : World} {base b2 : Nat} {e e2 : TypeId} {size s2 : Nat} {v v2 : Value} {n n2 : Nat} {xs ys : List Value} (h : w.ownsRow base e size v n xs) {o : Obj} (hg : (w.alloc o).grownBy w' v2.ownBlock) (hlt : ∀ k, v2.ownBlock = some k → k < base) (_h2 : w.ownsRow b2 e2 s2 v2 n2 ys) : w'.ownsRow base e size v n xs := by
  refine (h.alloc o).kept hg ?_
  cases hv : v.ownBlock with
  | none => exact .inl rfl
  | some k =>
    refine .inr fun e => ?_
    have := (h.lt k hv).1
    have := hlt k e.symm
    omega

/-- Where 'x[l:]' begins: at the old place, where nothing is left even of the capacity. -/
def advance (a : Option Addr) (cap l : Nat) : Option Addr := if cap = l then a else a.map (·.add l)
theorem Row.drop {w : World} {a : Option Addr} {xs : List Value} (h : Row w a xs) (cap l : Nat) (hl : xs.length ≤ cap) : Row w (advance a cap l) (xs.drop l) := fun j x hx => by
  rw [List.getElem?_drop] at hx
  obtain ⟨b, off, rfl, hc⟩ := h _ x hx
  have := (List.getElem?_eq_some_iff.1 hx).1
  refine ⟨b, off + l, ?_, by rw [Nat.add_assoc]; exact hc⟩
  unfold advance
  rw [if_neg (by omega)]
  simp [Addr.add_lit]
theorem advance_some (b off cap l : Nat) : ∃ b' off', advance (some ⟨b, off, none⟩) cap l = some ⟨b', off', none⟩ := by
  unfold advance; split
  · exact ⟨_, _, rfl⟩
  · exact ⟨b, off + l, by simp [Addr.add_lit]⟩
/-- 'x[l:]' of a slice of one-cell elements. -/
theorem run_slice_from {P : Program} {t e : TypeId} (hu : P.underlying t = some (.slice e)) (hz : ∀ W, (sizeOf e).run P W = .ok 1 W) (a : Option Addr) (len cap l : Nat) (hl : l ≤ len) (W : World) :
    (Instr.slice t (.slice a len cap) (some (.int .i64 (l : Int))) none none).run P W = .ok (.slice (advance a cap l) (len - l) (cap - l)) W := by
  have he : P.elem t = e := by simp [Program.elem, hu]
  rw [run_slice_l (P := P) W t a len cap (by rw [hu, he]) .i64 (l : Int) (by omega) (by omega), he, hz]
  simp [Result.andThen, sliced, advance]

/-- t is the type of slices of e, whose elements take one cell, z at first, and so many bytes. -/
structure SliceOf (P : Program) (t e : TypeId) (z : Value) (bytes : Nat) : Prop where
  under : P.underlying t = some (.slice e)
  info : (P.info? e).map (fun i => (i.zero, i.size, i.bytes)) = some (some z, 1, bytes)
  one : z.cells = #[z]

section
variable {P : Program} {ops : Array Oper} {rest : List Oper} {o : Oper} {a : Act} {Q : Exit → Act → World → Prop}
/-- 'append(v, u)' on a slice of the call's own: u has just been laid in a new cell. -/
theorem wpList_push {w0 : World} {t e : TypeId} {z : Value} {bytes : Nat} (he : SliceOf P t e z bytes) (hg : o.guard = none) (s x : Operand) (hop : o.op = Op.call { callee := Callee.builtin Builtin.append, args := #[s, x], argTypes := #[t, t] })
    (base : Nat) {v : Value} {n : Nat} {xs : List Value} (hown : w0.ownsRow base e 1 v n xs) (hs : a.eval s = v) {u : Value} (hx : a.eval x = .slice (some ⟨w0.heap.size, 0, none⟩) 1 1) (hu : u.oneCell' = true)
    (hm : n + 1 ≤ maxLen) (hn : (n + 1) * bytes ≤ 140737488355328) (hb : base ≤ w0.heap.size)
    (hK : ∀ v' w', w'.ownsRow base e 1 v' (n + 1) (xs ++ [u]) → Below base w0 w' → wpList P ops Q rest (a.put o.dst v') w') :
    wpList P ops Q (o :: rest) a (w0.alloc (.cells #[u] e)) := by
  obtain ⟨i, hi, h0, h1, h2⟩ := info_parts he.info
  refine wpList_append_own _ hg s x t hop base e i z 1 bytes he.under hi h0 h1 h2 (by rw [he.one]; rfl) (by decide) v n xs hs (hown.alloc _) ⟨w0.heap.size, 0, none⟩ 1 1 [u] hx rfl (cell_one_new _ _ _) (by intro y hy; simp at hy; subst hy; exact hu) hm hn (by simp; omega) ?_
  intro v' w' hown' hgrow _
  refine hK v' w' hown' ?_
  exact ((Below.refl base w0).alloc hb _).grown hgrow (by simp; omega) (fun k hk => (hown.lt k hk).1)
/-- The same, saying which block alone may have been written. -/
theorem wpList_push_at {w0 : World} {t e : TypeId} {z : Value} {bytes : Nat} (he : SliceOf P t e z bytes) (hg : o.guard = none) (s x : Operand) (hop : o.op = Op.call { callee := Callee.builtin Builtin.append, args := #[s, x], argTypes := #[t, t] })
    (base : Nat) {v : Value} {n : Nat} {xs : List Value} (hown : w0.ownsRow base e 1 v n xs) (hs : a.eval s = v) {u : Value} (hx : a.eval x = .slice (some ⟨w0.heap.size, 0, none⟩) 1 1) (hu : u.oneCell' = true)
    (hm : n + 1 ≤ maxLen) (hn : (n + 1) * bytes ≤ 140737488355328) (hb : base ≤ w0.heap.size)
    (hK : ∀ v' w', w'.ownsRow base e 1 v' (n + 1) (xs ++ [u]) → Below base w0 w' → (w0.alloc (.cells #[u] e)).grownBy w' v.ownBlock → wpList P ops Q rest (a.put o.dst v') w') :
    wpList P ops Q (o :: rest) a (w0.alloc (.cells #[u] e)) := by
  obtain ⟨i, hi, h0, h1, h2⟩ := info_parts he.info
  refine wpList_append_own _ hg s x t hop base e i z 1 bytes he.under hi h0 h1 h2 (by rw [he.one]; rfl) (by decide) v n xs hs (hown.alloc _) ⟨w0.heap.size, 0, none⟩ 1 1 [u] hx rfl (cell_one_new _ _ _) (by intro y hy; simp at hy; subst hy; exact hu) hm hn (by simp; omega) ?_
  intro v' w' hown' hgrow _
  refine hK v' w' hown' ?_ hgrow
  exact ((Below.refl base w0).alloc hb _).grown hgrow (by simp; omega) (fun k hk => (hown.lt k hk).1)

/-- 'append(v, y...)' on a slice of the call's own, y whatever slice that reads. -/
theorem wpList_extend {w : World} {t e : TypeId} {z : Value} {bytes : Nat} (he : SliceOf P t e z bytes) (hg : o.guard = none) (s x : Operand) (hop : o.op = Op.call { callee := Callee.builtin Builtin.append, args := #[s, x], argTypes := #[t, t] })
    (base : Nat) {v : Value} {n : Nat} {xs : List Value} (hown : w.ownsRow base e 1 v n xs) (hs : a.eval s = v) {ao : Option Addr} {m c : Nat} {ys : List Value} (hx : a.eval x = .slice ao m c) (hrow : Row w ao ys) (hl : ys.length = m) (hnone : ao = none → c = 0) (hu : ∀ u ∈ ys, u.oneCell' = true)
    (hm : n + m ≤ maxLen) (hn : (n + m) * bytes ≤ 140737488355328) (hb : base ≤ w.heap.size)
    (hK : ∀ v' w', w'.ownsRow base e 1 v' (n + m) (xs ++ ys) → Below base w w' → wpList P ops Q rest (a.put o.dst v') w') :
    wpList P ops Q (o :: rest) a w := by
  obtain ⟨i, hi, h0, h1, h2⟩ := info_parts he.info
  cases ao with
  | some ad =>
    refine wpList_append_own _ hg s x t hop base e i z 1 bytes he.under hi h0 h1 h2 (by rw [he.one]; rfl) (by decide) v n xs hs hown ad m c ys hx (by simpa using hl) ?_ hu hm hn hb ?_
    · intro j u hj
      obtain ⟨b, off, e1, hc⟩ := hrow j u hj
      injection e1 with e1; subst e1
      rw [Addr.add_lit]; exact hc
    · intro v' w' hown' hgrow _
      exact hK v' w' hown' ((Below.refl base w).grown hgrow hb (fun k hk => (hown.lt k hk).1))
  | none =>
    obtain rfl := hnone rfl
    have hys : ys = [] := by
      cases ys with
      | nil => rfl
      | cons y ys => obtain ⟨b, off, e1, _⟩ := hrow 0 y rfl; cases e1
    subst hys
    obtain rfl : m = 0 := by simpa using hl.symm
    exact wpList_append_own_none hg s x t hop base e i 1 he.under hi v n xs hs hown hx (hK v w (by simpa using hown) (Below.refl _ _))
/-- '[]byte(s)', where the walk stands at it. -/
theorem upon_bytes {w : World} {K : Act → World → Prop} {src dst e : TypeId} (hs : P.underlying src = some .string) (hd : P.underlying dst = some (.slice e)) (he : P.underlying e = some (.int .u8)) {s : ByteArray} (hm : s.size ≤ maxLen)
    (hK : ∀ b cap w', Row w' (some ⟨b, 0, none⟩) (Lib.strCells s) → Below w.heap.size w w' → s.size ≤ cap → cap ≤ 9223372036854775807 → b < w'.heap.size → K (a.put o.dst (.slice (some ⟨b, 0, none⟩) s.size cap)) w') :
    Oper.upon P o a K Q (((convert src dst (.string s)).run P w).andThen fun v w' => .ok (Next.value v) w') := by
  have hrun := run_bytes_of_string (P := P) w src dst e s hs hd he
  have h1 := grownCap_ge w s.size 0 e
  have h2 := grownCap_le_maxLen w s.size 0 e hm
  obtain ⟨cap, hcap⟩ : ∃ cap, cap = grownCap w s.size 0 e := ⟨_, rfl⟩
  rw [← hcap] at hrun h1 h2
  rw [hrun]
  simp only [Result.andThen]
  refine hK w.heap.size cap _ ?_ ?_ h1 (by unfold maxLen at h2; exact h2) (by simp)
  · intro j v hj
    refine ⟨w.heap.size, 0, rfl, ?_⟩
    have hj' := (List.getElem?_eq_some_iff.1 hj).1
    have hj2 : j < s.size := by rw [Lib.strCells_length] at hj'; exact hj'
    have e1 := World.cell?_alloc_mark w.drew (bytesRow s cap) e ((bytesRow s cap).size, (bytesRow s cap).size + 1) j
    rw [Nat.zero_add]
    refine e1.trans ?_
    unfold bytesRow
    rw [Array.getElem?_append_left (by simpa using hj2)]
    rw [← hj]
    simp [Lib.strCells]
  · exact ((Below.refl _ w).drew).alloc (Nat.le_refl _) _
/-- 'make([]T, 0, c)'. -/
theorem wpList_made {w : World} {t e : TypeId} {z : Value} {bytes : Nat} (he : SliceOf P t e z bytes) (hg : o.guard = none) (l c : Operand) (hop : o.op = Op.makeSlice t l c) {kl kc : IntKind} {C : Int} (n : Nat)
    (hl : a.eval l = .int kl 0) (hc : a.eval c = .int kc C) (hC : C = (n : Int)) (b2 : bytes * n ≤ 281474976710656) (b3 : n ≤ maxLen)
    (hK : ∀ w', w'.ownsRow w.heap.size e 1 (.slice (some ⟨w.heap.size, 0, none⟩) 0 n) 0 [] → Below w.heap.size w w' → wpList P ops Q rest (a.put o.dst (.slice (some ⟨w.heap.size, 0, none⟩) 0 n)) w') :
    wpList P ops Q (o :: rest) a w := by
  obtain ⟨i, hi, h0, h1, h2⟩ := info_parts he.info
  refine wpList_make_own w hg l c t hop w.heap.size e i z 1 he.under hi h0 h1 kl kc C n hl hc hC (by rw [h2]; exact b2) b3 (Nat.le_refl _) ?_
  exact fun w' h hg => hK w' h ((Below.refl _ _).grown hg (Nat.le_refl _) (by simp))
/-- 'make([]T, n)'. -/
theorem wpList_full {w : World} {t e : TypeId} {z : Value} {bytes : Nat} (he : SliceOf P t e z bytes) (hg : o.guard = none) (l c : Operand) (hop : o.op = Op.makeSlice t l c) {kl kc : IntKind} {L C : Int} (n : Nat)
    (hl : a.eval l = .int kl L) (hc : a.eval c = .int kc C) (hL : L = (n : Int)) (hC : C = (n : Int)) (b2 : bytes * n ≤ 281474976710656) (b3 : n ≤ maxLen)
    (hK : ∀ w', w'.ownsRow w.heap.size e 1 (.slice (some ⟨w.heap.size, 0, none⟩) n n) n (List.replicate n z) → Below w.heap.size w w' → wpList P ops Q rest (a.put o.dst (.slice (some ⟨w.heap.size, 0, none⟩) n n)) w') :
    wpList P ops Q (o :: rest) a w := by
  obtain ⟨i, hi, h0, h1, h2⟩ := info_parts he.info
  refine wpList_make_full w hg l c t hop w.heap.size e i z 1 he.under hi h0 h1 kl kc L C n hl hc hL hC (by rw [h2]; exact b2) b3 (Nat.le_refl _) ?_
  refine fun w' h hg => hK w' ?_ ((Below.refl _ _).grown hg (Nat.le_refl _) (by simp))
  rw [he.one, toList_madeCells_one, Nat.mul_one] at h
  exact h
end

end Go.Proofs.YtafeofgjmlhklaaGreatDoor
