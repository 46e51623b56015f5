/- Words for what a world holds, and small laws on them. Nothing of the program. Plain numbers: lists of digits of a base, the lowest first, and what they are worth. Nothing of the program. -/
import Derived.WalkKit
import Derived.WalkSpells
import Derived.WalkLawsBesides
import Derived.Laws.AppendOwnNone
import Derived.Laws.IdiomStrings
import Derived.Lib.AppendStr
namespace Go.Proofs.YtldhebpkplglcaaGreatDoor
open Go.RowKit

/-- A fact kept from the walk. -/
theorem hid {p : Prop} (h : p) : Hid p := h

/-- The slice that begins at a, of elements of one cell each, reads as xs. -/
def Row (w : World) (a : Option Addr) (xs : List Value) : Prop :=
  ∀ j x, xs[j]? = some x → ∃ b off, a = some ⟨b, off, none⟩ ∧ w.cell? ⟨b, off + j, none⟩ = some x

theorem Row.nil (w : World) (a : Option Addr) : Row w a [] := fun j x h => by simp at h
theorem cell_lt {w : World} {b off : Nat} {x : Value} (h : w.cell? ⟨b, off, none⟩ = some x) : b < w.heap.size := World.block_lt_of_cell? w ⟨b, off, none⟩ h
theorem Row.below {w w' : World} {a : Option Addr} {xs : List Value} (h : Row w a xs) (hb : Below w.heap.size w w') : Row w' a xs := fun j x hx => by
  obtain ⟨b, off, e, hc⟩ := h j x hx
  exact ⟨b, off, e, (hb.cell (p := ⟨b, off + j, none⟩) (cell_lt hc)).trans hc⟩
theorem Row.drewN {w : World} {a : Option Addr} {xs : List Value} (h : Row w a xs) (n : Nat) : Row (w.drewN n) a xs := h
theorem Row.cellAt {w : World} {b off : Nat} {xs : List Value} (h : Row w (some ⟨b, off, none⟩) xs) {j : Nat} (hj : j < xs.length) : w.cell? ⟨b, off + j, none⟩ = some xs[j] := by
  obtain ⟨b', off', e, hc⟩ := h j xs[j] (List.getElem?_eq_getElem hj)
  injection e with e; injection e with e1 e2; subst e1 e2; exact hc
theorem Row.isSome {w : World} {a : Option Addr} {xs : List Value} (h : Row w a xs) (hn : xs ≠ []) : ∃ b off, a = some ⟨b, off, none⟩ := by
  cases xs with
  | nil => exact absurd rfl hn
  | cons x xs => obtain ⟨b, off, e, _⟩ := h 0 x rfl; exact ⟨b, off, e⟩
theorem Row.take {w : World} {a : Option Addr} {xs : List Value} (h : Row w a xs) (n : Nat) : Row w a (xs.take n) := fun j x hx => by
  rw [List.getElem?_take] at hx; split at hx
  · exact h j x hx
  · cases hx

/-- Numbers below 2^32 as they lie in cells. -/
def u32s (xs : List Nat) : List Value := xs.map fun (x : Nat) => Value.int .u32 (x : Int)
@[simp] theorem length_u32s (xs : List Nat) : (u32s xs).length = xs.length := by simp [u32s]
theorem Row.u32 {w : World} {b off : Nat} {xs : List Nat} (h : Row w (some ⟨b, off, none⟩) (u32s xs)) {j : Nat} (hj : j < xs.length) : w.cell? ⟨b, off + j, none⟩ = some (.int .u32 ((xs.getD j 0 : Nat) : Int)) := by
  have := h.cellAt (j := j) (by simpa using hj)
  rw [this]; simp [u32s, hj]

theorem u32s_get {xs : List Nat} {j : Nat} (hj : j < xs.length) : ∃ u : Int, (u32s xs)[j]? = some (.int .u32 u) := ⟨(xs[j] : Int), by simp [u32s, hj]⟩

/-- What an owned slice of one-cell elements is, and that it reads. -/
theorem owns_row {w : World} {base : Nat} {e : TypeId} {v : Value} {n : Nat} {xs : List Value} (h : w.ownsRow base e 1 v n xs) : ∃ a cap, v = .slice a n cap ∧ Row w a xs ∧ xs.length = n := by
  have hl : xs.length = n := by simpa using h.1
  rcases h.2 with ⟨rfl, rfl⟩ | ⟨g, cap, cur, rfl, hb, hg, hn, hm, hs, ht⟩
  · obtain rfl : xs = [] := List.length_eq_zero_iff.1 hl
    exact ⟨none, 0, rfl, Row.nil _ _, rfl⟩
  · refine ⟨_, _, rfl, fun j x hx => ⟨g, 0, rfl, ?_⟩, hl⟩
    have hj : j < n * 1 := by
      have := (List.getElem?_eq_some_iff.1 hx).1; omega
    rw [Nat.zero_add, h.cellAt j hj, hx]

/-- An owned slice cut at its end is owned. -/
theorem owns_take {w : World} {base : Nat} {e : TypeId} {a : Option Addr} {n cap : Nat} {xs : List Value} (h : w.ownsRow base e 1 (.slice a n cap) n xs) (ha : a ≠ none) (m : Nat) (hm : m ≤ n) :
    w.ownsRow base e 1 (.slice a m cap) m (xs.take m) := by
  have hl : xs.length = n := by simpa using h.1
  refine ⟨by simp; omega, ?_⟩
  rcases h.2 with ⟨e1, rfl⟩ | ⟨g, cap', cur, e1, hb, hg, hn, hmx, hs, ht⟩
  · injection e1 with e1 e2 e3; exact absurd e1 ha
  · injection e1 with e1 e2 e3; subst e1 e3
    refine .inr ⟨g, cap, cur, rfl, hb, hg, by omega, hmx, hs, ?_⟩
    rw [← ht, List.take_take, Nat.mul_one, Nat.mul_one, Nat.min_eq_left hm]

theorem owns_cap {w : World} {base : Nat} {e : TypeId} {a : Option Addr} {n cap m : Nat} {xs : List Value} (h : w.ownsRow base e 1 (.slice a n cap) m xs) : m ≤ cap ∧ cap ≤ 9223372036854775807 := by
  rcases h.2 with ⟨e1, rfl⟩ | ⟨g, cap', cur, e1, hb, hg, hn, hmx, hs, ht⟩
  · injection e1 with e1 e2 e3; subst e3; simp
  · injection e1 with e1 e2 e3; subst e1 e3; unfold maxLen at hmx; omega

/-- Cut at its end, whatever it is. -/
theorem owns_cut {w : World} {base : Nat} {e : TypeId} {a : Option Addr} {n cap : Nat} {xs : List Value} (h : w.ownsRow base e 1 (.slice a n cap) n xs) (m : Nat) (hm : m ≤ n) :
    w.ownsRow base e 1 (.slice a m cap) m (xs.take m) := by
  by_cases ha : a = none
  · subst ha
    rcases h.2 with ⟨e1, rfl⟩ | ⟨g, cap', cur, e1, hb, hg, hn, hmx, hs, ht⟩
    · injection e1 with e1 e2 e3; subst e3; obtain rfl : m = 0 := by omega
      exact ⟨by simp, .inl ⟨rfl, rfl⟩⟩
    · injection e1 with e1; cases e1
  · exact owns_take h ha m hm

theorem owned_row {w : World} {base : Nat} {e : TypeId} {a : Option Addr} {n cap : Nat} {xs : List Value} (h : w.ownsRow base e 1 (.slice a n cap) n xs) : Row w a xs := by
  obtain ⟨a', cap', e1, hr, _⟩ := owns_row h
  injection e1 with e1 e2 e3; subst e1; exact hr

theorem owns_mono {w : World} {base base' : Nat} {e : TypeId} {size : Nat} {v : Value} {n : Nat} {xs : List Value} (h : w.ownsRow base e size v n xs) (hb : base' ≤ base) : w.ownsRow base' e size v n xs := by
  refine ⟨h.1, ?_⟩
  rcases h.2 with h | ⟨g, cap, cur, h1, h2, h3⟩
  · exact .inl h
  · exact .inr ⟨g, cap, cur, h1, by omega, h3⟩

/-- A slice of 32-bit numbers. -/
structure U32 (w : World) (a : Option Addr) (xs : List Nat) : Prop where
  row : Row w a (u32s xs)
  lt : ∀ x ∈ xs, x < 4294967296
theorem U32.below {w w' : World} {a : Option Addr} {xs : List Nat} (h : U32 w a xs) (hb : Below w.heap.size w w') : U32 w' a xs := ⟨h.row.below hb, h.lt⟩
theorem U32.getD_lt {w : World} {a : Option Addr} {xs : List Nat} (h : U32 w a xs) (i : Nat) : xs.getD i 0 < 4294967296 := by
  by_cases hi : i < xs.length
  · exact h.lt _ (by simp [hi])
  · simp [List.getElem?_eq_none (show xs.length ≤ i by omega)]
theorem U32.isSome {w : World} {a : Option Addr} {xs : List Nat} (h : U32 w a xs) (hn : xs ≠ []) : ∃ b off, a = some ⟨b, off, none⟩ := h.row.isSome (by intro e; exact hn (by simpa [u32s] using e))

theorem below_alloc {w w' : World} {o : Obj} (h : Below (w.alloc o).heap.size (w.alloc o) w') : Below w.heap.size w w' :=
  ((Below.refl _ _).alloc (Nat.le_refl _) o).trans (h.mono (by simp))
theorem below_trans {w w1 w2 : World} (h : Below w.heap.size w w1) (h2 : Below w1.heap.size w1 w2) : Below w.heap.size w w2 := h.trans (h2.mono h.size)

/-- A call through a function's value, of a function that has a body. -/
theorem run_callFunc {P : Program} {f : FuncId} {fn : Func} (hf : P.funcs[f]? = some fn) (hname : (fn.name == "runtime.NumGoroutine") = false) (hb : fn.body.isNone = false) (args : Array Value) (w : World) :
    (callFunc f args).run P w = .ok (.enter f args) w := by
  have h1 : fn.name ≠ "runtime.NumGoroutine" := by simpa using hname
  have h2 : fn.body.isSome = true := by cases h : fn.body <;> simp_all
  obtain ⟨b, h3⟩ := Option.isSome_iff_exists.1 h2
  simp [callFunc, hf, h1, h3]

/-- A block that is known whole. -/
theorem blk_below {w w' : World} {N : Nat} {o : Obj} (h : w.heap[N]? = some o) (hb : Below w.heap.size w w') : w'.heap[N]? = some o := by
  rw [hb.block N (Array.getElem?_eq_some_iff.1 h).1]; exact h
theorem blk_new (w : World) (o : Obj) : (w.alloc o).heap[w.heap.size]? = some o := heap_alloc_new w o
theorem blk_new2 (w : World) (o o2 : Obj) : ((w.alloc o).alloc o2).heap[w.heap.size + 1]? = some o2 := by simpa using heap_alloc_new (w.alloc o) o2
theorem blk_alloc {w : World} {N : Nat} {o : Obj} (h : w.heap[N]? = some o) (o2 : Obj) : (w.alloc o2).heap[N]? = some o := blk_below h ((Below.refl _ _).alloc (Nat.le_refl _) _)
theorem blk_lt {w : World} {N : Nat} {o : Obj} (h : w.heap[N]? = some o) : N < w.heap.size := (Array.getElem?_eq_some_iff.1 h).1
theorem blk_cell {w : World} {N : Nat} {cs : Array Value} {T : TypeId} {fr : Nat × Nat} (h : w.heap[N]? = some (.cells cs T fr)) (j : Nat) : w.cell? ⟨N, j, none⟩ = cs[j]? := by simp [World.cell?, h]
theorem blk_frozen {w : World} {N : Nat} {cs : Array Value} {T : TypeId} (h : w.heap[N]? = some (.cells cs T (0, 0))) (j : Nat) : w.frozen? ⟨N, j, none⟩ = false := by simp [World.frozen?, h]
/-- The three cells of a block, and that they may be written. -/
theorem blk_three {w : World} {N : Nat} {x y z : Value} {T : TypeId} (h : w.heap[N]? = some (.cells #[x, y, z] T (0, 0))) :
    (w.cell? ⟨N, 0, none⟩ = some x ∧ w.cell? ⟨N, 1, none⟩ = some y ∧ w.cell? ⟨N, 2, none⟩ = some z) ∧ (w.frozen? ⟨N, 0, none⟩ = false ∧ w.frozen? ⟨N, 1, none⟩ = false ∧ w.frozen? ⟨N, 2, none⟩ = false) :=
  ⟨⟨blk_cell h 0, blk_cell h 1, blk_cell h 2⟩, blk_frozen h 0, blk_frozen h 1, blk_frozen h 2⟩

theorem bcell {W w1 : World} (hb : Below W.heap.size W w1) : (∀ b o, b < W.heap.size → w1.cell? ⟨b, o, none⟩ = W.cell? ⟨b, o, none⟩) ∧ (∀ b o, b < W.heap.size → w1.frozen? ⟨b, o, none⟩ = W.frozen? ⟨b, o, none⟩) :=
  ⟨fun b o h => hb.cell (p := ⟨b, o, none⟩) h, fun b o h => hb.frozen (p := ⟨b, o, none⟩) h⟩
theorem ret_int {k : IntKind} {a b : Int} (h : a = b) : Ending.returned (.int k a) = .returned (.int k b) := by rw [h]
theorem ret_bool {a b : Bool} (h : a = b) : Ending.returned (.bool a) = .returned (.bool b) := by rw [h]
theorem below_of_drewN {w w' : World} {n : Nat} (h : w' = w.drewN n) (B : Nat) : Below B w w' := h ▸ below_drewN (Below.refl _ _) n

/-- What is owned stays owned when nothing that was there turns. -/
theorem owns_below {w w' : World} {base : Nat} {e : TypeId} {size : Nat} {v : Value} {n : Nat} {xs : List Value} (h : w.ownsRow base e size v n xs) (hb : Below w.heap.size w w') : w'.ownsRow base e size v n xs := by
  refine ⟨h.1, ?_⟩
  rcases h.2 with h | ⟨g, cap, cur, h1, h2, h3, h4⟩
  · exact .inl h
  · exact .inr ⟨g, cap, cur, h1, h2, by rw [hb.block g (Array.getElem?_eq_some_iff.1 h3).1]; exact h3, h4⟩
theorem owns_grown {w w' : World} {base b2 : Nat} {e e2 : TypeId} {size s2 : Nat} {v v2 : Value} {n n2 : Nat} {xs ys : List Value} (h : w.ownsRow base e size v n xs) {o : Obj} (hg : (w.alloc o).grownBy w' v2.ownBlock) (hlt : ∀ k, v2.ownBlock = some k → k < base) (_h2 : w.ownsRow b2 e2 s2 v2 n2 ys) : w'.ownsRow base e size v n xs := by
  refine (h.alloc o).kept hg ?_
  cases hv : v.ownBlock with
  | none => exact .inl rfl
  | some k =>
    refine .inr fun e => ?_
    have := (h.lt k hv).1
    have := hlt k e.symm
    omega

/-- Where 'x[l:]' begins: at the old place, where nothing is left even of the capacity. -/
def advance (a : Option Addr) (cap l : Nat) : Option Addr := if cap = l then a else a.map (·.add l)
theorem Row.drop {w : World} {a : Option Addr} {xs : List Value} (h : Row w a xs) (cap l : Nat) (hl : xs.length ≤ cap) : Row w (advance a cap l) (xs.drop l) := fun j x hx => by
  rw [List.getElem?_drop] at hx
  obtain ⟨b, off, rfl, hc⟩ := h _ x hx
  have := (List.getElem?_eq_some_iff.1 hx).1
  refine ⟨b, off + l, ?_, by rw [Nat.add_assoc]; exact hc⟩
  unfold advance
  rw [if_neg (by omega)]
  simp [Addr.add_lit]
theorem advance_some (b off cap l : Nat) : ∃ b' off', advance (some ⟨b, off, none⟩) cap l = some ⟨b', off', none⟩ := by
  unfold advance; split
  · exact ⟨_, _, rfl⟩
  · exact ⟨b, off + l, by simp [Addr.add_lit]⟩
/-- 'x[l:]' of a slice of one-cell elements. -/
theorem run_slice_from {P : Program} {t e : TypeId} (hu : P.underlying t = some (.slice e)) (hz : ∀ W, (sizeOf e).run P W = .ok 1 W) (a : Option Addr) (len cap l : Nat) (hl : l ≤ len) (W : World) :
    (Instr.slice t (.slice a len cap) (some (.int .i64 (l : Int))) none none).run P W = .ok (.slice (advance a cap l) (len - l) (cap - l)) W := by
  have he : P.elem t = e := by simp [Program.elem, hu]
  rw [run_slice_l (P := P) W t a len cap (by rw [hu, he]) .i64 (l : Int) (by omega) (by omega), he, hz]
  simp [Result.andThen, sliced, advance]

/-- t is the type of slices of e, whose elements take one cell, z at first, and so many bytes. -/
structure SliceOf (P : Program) (t e : TypeId) (z : Value) (bytes : Nat) : Prop where
  under : P.underlying t = some (.slice e)
  info : (P.info? e).map (fun i => (i.zero, i.size, i.bytes)) = some (some z, 1, bytes)
  one : z.cells = #[z]

section
variable {P : Program} {ops : Array Oper} {rest : List Oper} {o : Oper} {a : Act} {Q : Exit → Act → World → Prop}
/-- 'append(v, u)' on a slice of the call's own: u has just been laid in a new cell. -/
theorem wpList_push {w0 : World} {t e : TypeId} {z : Value} {bytes : Nat} (he : SliceOf P t e z bytes) (hg : o.guard = none) (s x : Operand) (hop : o.op = Op.call { callee := Callee.builtin Builtin.append, args := #[s, x], argTypes := #[t, t] })
    (base : Nat) {v : Value} {n : Nat} {xs : List Value} (hown : w0.ownsRow base e 1 v n xs) (hs : a.eval s = v) {u : Value} (hx : a.eval x = .slice (some ⟨w0.heap.size, 0, none⟩) 1 1) (hu : u.oneCell' = true)
    (hm : n + 1 ≤ maxLen) (hn : (n + 1) * bytes ≤ 140737488355328) (hb : base ≤ w0.heap.size)
    (hK : ∀ v' w', w'.ownsRow base e 1 v' (n + 1) (xs ++ [u]) → Below base w0 w' → wpList P ops Q rest (a.put o.dst v') w') :
    wpList P ops Q (o :: rest) a (w0.alloc (.cells #[u] e)) := by
  obtain ⟨i, hi, h0, h1, h2⟩ := info_parts he.info
  refine wpList_append_own _ hg s x t hop base e i z 1 bytes he.under hi h0 h1 h2 (by rw [he.one]; rfl) (by decide) v n xs hs (hown.alloc _) ⟨w0.heap.size, 0, none⟩ 1 1 [u] hx rfl (cell_one_new _ _ _) (by intro y hy; simp at hy; subst hy; exact hu) hm hn (by simp; omega) ?_
  intro v' w' hown' hgrow _
  refine hK v' w' hown' ?_
  exact ((Below.refl base w0).alloc hb _).grown hgrow (by simp; omega) (fun k hk => (hown.lt k hk).1)
/-- The same, saying which block alone may have been written. -/
theorem wpList_push_at {w0 : World} {t e : TypeId} {z : Value} {bytes : Nat} (he : SliceOf P t e z bytes) (hg : o.guard = none) (s x : Operand) (hop : o.op = Op.call { callee := Callee.builtin Builtin.append, args := #[s, x], argTypes := #[t, t] })
    (base : Nat) {v : Value} {n : Nat} {xs : List Value} (hown : w0.ownsRow base e 1 v n xs) (hs : a.eval s = v) {u : Value} (hx : a.eval x = .slice (some ⟨w0.heap.size, 0, none⟩) 1 1) (hu : u.oneCell' = true)
    (hm : n + 1 ≤ maxLen) (hn : (n + 1) * bytes ≤ 140737488355328) (hb : base ≤ w0.heap.size)
    (hK : ∀ v' w', w'.ownsRow base e 1 v' (n + 1) (xs ++ [u]) → Below base w0 w' → (w0.alloc (.cells #[u] e)).grownBy w' v.ownBlock → wpList P ops Q rest (a.put o.dst v') w') :
    wpList P ops Q (o :: rest) a (w0.alloc (.cells #[u] e)) := by
  obtain ⟨i, hi, h0, h1, h2⟩ := info_parts he.info
  refine wpList_append_own _ hg s x t hop base e i z 1 bytes he.under hi h0 h1 h2 (by rw [he.one]; rfl) (by decide) v n xs hs (hown.alloc _) ⟨w0.heap.size, 0, none⟩ 1 1 [u] hx rfl (cell_one_new _ _ _) (by intro y hy; simp at hy; subst hy; exact hu) hm hn (by simp; omega) ?_
  intro v' w' hown' hgrow _
  refine hK v' w' hown' ?_ hgrow
  exact ((Below.refl base w0).alloc hb _).grown hgrow (by simp; omega) (fun k hk => (hown.lt k hk).1)

/-- 'append(v, y...)' on a slice of the call's own, y whatever slice that reads. -/
theorem wpList_extend {w : World} {t e : TypeId} {z : Value} {bytes : Nat} (he : SliceOf P t e z bytes) (hg : o.guard = none) (s x : Operand) (hop : o.op = Op.call { callee := Callee.builtin Builtin.append, args := #[s, x], argTypes := #[t, t] })
    (base : Nat) {v : Value} {n : Nat} {xs : List Value} (hown : w.ownsRow base e 1 v n xs) (hs : a.eval s = v) {ao : Option Addr} {m c : Nat} {ys : List Value} (hx : a.eval x = .slice ao m c) (hrow : Row w ao ys) (hl : ys.length = m) (hnone : ao = none → c = 0) (hu : ∀ u ∈ ys, u.oneCell' = true)
    (hm : n + m ≤ maxLen) (hn : (n + m) * bytes ≤ 140737488355328) (hb : base ≤ w.heap.size)
    (hK : ∀ v' w', w'.ownsRow base e 1 v' (n + m) (xs ++ ys) → Below base w w' → wpList P ops Q rest (a.put o.dst v') w') :
    wpList P ops Q (o :: rest) a w := by
  obtain ⟨i, hi, h0, h1, h2⟩ := info_parts he.info
  cases ao with
  | some ad =>
    refine wpList_append_own _ hg s x t hop base e i z 1 bytes he.under hi h0 h1 h2 (by rw [he.one]; rfl) (by decide) v n xs hs hown ad m c ys hx (by simpa using hl) ?_ hu hm hn hb ?_
    · intro j u hj
      obtain ⟨b, off, e1, hc⟩ := hrow j u hj
      injection e1 with e1; subst e1
      rw [Addr.add_lit]; exact hc
    · intro v' w' hown' hgrow _
      exact hK v' w' hown' ((Below.refl base w).grown hgrow hb (fun k hk => (hown.lt k hk).1))
  | none =>
    obtain rfl := hnone rfl
    have hys : ys = [] := by
      cases ys with
      | nil => rfl
      | cons y ys => obtain ⟨b, off, e1, _⟩ := hrow 0 y rfl; cases e1
    subst hys
    obtain rfl : m = 0 := by simpa using hl.symm
    exact wpList_append_own_none hg s x t hop base e i 1 he.under hi v n xs hs hown hx (hK v w (by simpa using hown) (Below.refl _ _))
/-- '[]byte(s)', where the walk stands at it. -/
theorem upon_bytes {w : World} {K : Act → World → Prop} {src dst e : TypeId} (hs : P.underlying src = some .string) (hd : P.underlying dst = some (.slice e)) (he : P.underlying e = some (.int .u8)) {s : ByteArray} (hm : s.size ≤ maxLen)
    (hK : ∀ b cap w', Row w' (some ⟨b, 0, none⟩) (Lib.strCells s) → Below w.heap.size w w' → s.size ≤ cap → cap ≤ 9223372036854775807 → b < w'.heap.size → K (a.put o.dst (.slice (some ⟨b, 0, none⟩) s.size cap)) w') :
    Oper.upon P o a K Q (((convert src dst (.string s)).run P w).andThen fun v w' => .ok (Next.value v) w') := by
  have hrun := run_bytes_of_string (P := P) w src dst e s hs hd he
  have h1 := grownCap_ge w s.size 0 e
  have h2 := grownCap_le_maxLen w s.size 0 e hm
  obtain ⟨cap, hcap⟩ : ∃ cap, cap = grownCap w s.size 0 e := ⟨_, rfl⟩
  rw [← hcap] at hrun h1 h2
  rw [hrun]
  simp only [Result.andThen]
  refine hK w.heap.size cap _ ?_ ?_ h1 (by unfold maxLen at h2; exact h2) (by simp)
  · intro j v hj
    refine ⟨w.heap.size, 0, rfl, ?_⟩
    have hj' := (List.getElem?_eq_some_iff.1 hj).1
    have hj2 : j < s.size := by rw [Lib.strCells_length] at hj'; exact hj'
    have e1 := World.cell?_alloc_mark w.drew (bytesRow s cap) e ((bytesRow s cap).size, (bytesRow s cap).size + 1) j
    rw [Nat.zero_add]
    refine e1.trans ?_
    unfold bytesRow
    rw [Array.getElem?_append_left (by simpa using hj2)]
    rw [← hj]
    simp [Lib.strCells]
  · exact ((Below.refl _ w).drew).alloc (Nat.le_refl _) _
/-- 'make([]T, 0, c)'. -/
theorem wpList_made {w : World} {t e : TypeId} {z : Value} {bytes : Nat} (he : SliceOf P t e z bytes) (hg : o.guard = none) (l c : Operand) (hop : o.op = Op.makeSlice t l c) {kl kc : IntKind} {C : Int} (n : Nat)
    (hl : a.eval l = .int kl 0) (hc : a.eval c = .int kc C) (hC : C = (n : Int)) (b2 : bytes * n ≤ 281474976710656) (b3 : n ≤ maxLen)
    (hK : ∀ w', w'.ownsRow w.heap.size e 1 (.slice (some ⟨w.heap.size, 0, none⟩) 0 n) 0 [] → Below w.heap.size w w' → wpList P ops Q rest (a.put o.dst (.slice (some ⟨w.heap.size, 0, none⟩) 0 n)) w') :
    wpList P ops Q (o :: rest) a w := by
  obtain ⟨i, hi, h0, h1, h2⟩ := info_parts he.info
  refine wpList_make_own w hg l c t hop w.heap.size e i z 1 he.under hi h0 h1 kl kc C n hl hc hC (by rw [h2]; exact b2) b3 (Nat.le_refl _) ?_
  exact fun w' h hg => hK w' h ((Below.refl _ _).grown hg (Nat.le_refl _) (by simp))
/-- 'make([]T, n)'. -/
theorem wpList_full {w : World} {t e : TypeId} {z : Value} {bytes : Nat} (he : SliceOf P t e z bytes) (hg : o.guard = none) (l c : Operand) (hop : o.op = Op.makeSlice t l c) {kl kc : IntKind} {L C : Int} (n : Nat)
    (hl : a.eval l = .int kl L) (hc : a.eval c = .int kc C) (hL : L = (n : Int)) (hC : C = (n : Int)) (b2 : bytes * n ≤ 281474976710656) (b3 : n ≤ maxLen)
    (hK : ∀ w', w'.ownsRow w.heap.size e 1 (.slice (some ⟨w.heap.size, 0, none⟩) n n) n (List.replicate n z) → Below w.heap.size w w' → wpList P ops Q rest (a.put o.dst (.slice (some ⟨w.heap.size, 0, none⟩) n n)) w') :
    wpList P ops Q (o :: rest) a w := by
  obtain ⟨i, hi, h0, h1, h2⟩ := info_parts he.info
  refine wpList_make_full w hg l c t hop w.heap.size e i z 1 he.under hi h0 h1 kl kc L C n hl hc hL hC (by rw [h2]; exact b2) b3 (Nat.le_refl _) ?_
  refine fun w' h hg => hK w' ?_ ((Below.refl _ _).grown hg (Nat.le_refl _) (by simp))
  rw [he.one, toList_madeCells_one, Nat.mul_one] at h
  exact h
end

end Go.Proofs.YtldhebpkplglcaaGreatDoor

namespace Go.Proofs.YtldhebpkplglcaaGreatDoor.Num

/-- What a list of digits of base b is worth, the lowest first. -/
def val (b : Nat) : List Nat → Nat
  | [] => 0
  | x :: xs => x + b * val b xs

/-- The digits of a number, the lowest first, none at the end that is 0. -/
def digsAux (b : Nat) : Nat → Nat → List Nat
  | 0, _ => []
  | f + 1, n => if n = 0 then [] else n % b :: digsAux b f (n / b)
def digs (b n : Nat) : List Nat := digsAux b n n

theorem div_lt_self' {n b : Nat} (hn : n ≠ 0) (hb : 2 ≤ b) : n / b < n := Nat.div_lt_self (by omega) (by omega)

theorem digsAux_fuel {b : Nat} (hb : 2 ≤ b) : ∀ (f g n : Nat), n ≤ f → n ≤ g → digsAux b f n = digsAux b g n := by
  intro f
  induction f with
  | zero => intro g n hf _; obtain rfl : n = 0 := by omega
            cases g <;> simp [digsAux]
  | succ f ih =>
    intro g n hf hg
    by_cases hn : n = 0
    · subst hn; cases g <;> simp [digsAux]
    · cases g with
      | zero => omega
      | succ g =>
        have := div_lt_self' hn hb
        simp only [digsAux, if_neg hn]
        rw [ih g (n / b) (by omega) (by omega)]

theorem digs_zero (b : Nat) : digs b 0 = [] := rfl
theorem digs_pos {b n : Nat} (hb : 2 ≤ b) (hn : n ≠ 0) : digs b n = n % b :: digs b (n / b) := by
  cases n with
  | zero => exact absurd rfl hn
  | succ n =>
    have := div_lt_self' hn hb
    unfold digs
    simp only [digsAux, if_neg hn]
    rw [digsAux_fuel hb n ((n + 1) / b) _ (by omega) (Nat.le_refl _)]

/-- An induction along the digits. -/
theorem digs_ind {b : Nat} (hb : 2 ≤ b) {P : Nat → Prop} (h0 : P 0) (h1 : ∀ n, n ≠ 0 → P (n / b) → P n) (n : Nat) : P n := by
  induction n using Nat.strongRecOn with
  | _ n ih =>
    by_cases hn : n = 0
    · subst hn; exact h0
    · exact h1 n hn (ih _ (div_lt_self' hn hb))

theorem val_nil (b : Nat) : val b [] = 0 := rfl
theorem val_cons (b x : Nat) (xs : List Nat) : val b (x :: xs) = x + b * val b xs := rfl

theorem val_digs {b : Nat} (hb : 2 ≤ b) (n : Nat) : val b (digs b n) = n := by
  induction n using digs_ind hb with
  | h0 => rfl
  | h1 n hn ih => rw [digs_pos hb hn, val_cons, ih]; exact Nat.mod_add_div n b

theorem digs_lt {b : Nat} (hb : 2 ≤ b) (n : Nat) : ∀ x ∈ digs b n, x < b := by
  induction n using digs_ind hb with
  | h0 => intro x hx; simp [digs_zero] at hx
  | h1 n hn ih =>
    intro x hx
    rw [digs_pos hb hn] at hx
    rcases List.mem_cons.1 hx with rfl | hx
    · exact Nat.mod_lt _ (by omega)
    · exact ih x hx

theorem digs_eq_nil {b n : Nat} (hb : 2 ≤ b) : digs b n = [] ↔ n = 0 := by
  constructor
  · intro h; have := val_digs hb n; rw [h] at this; exact this.symm
  · rintro rfl; rfl

theorem val_append (b : Nat) (xs ys : List Nat) : val b (xs ++ ys) = val b xs + b ^ xs.length * val b ys := by
  induction xs with
  | nil => simp [val]
  | cons x xs ih =>
    simp only [List.cons_append, val_cons, ih, List.length_cons, Nat.pow_succ, Nat.mul_add]
    rw [Nat.add_assoc]
    congr 2
    rw [← Nat.mul_assoc, Nat.mul_comm b]

theorem val_snoc (b : Nat) (xs : List Nat) (y : Nat) : val b (xs ++ [y]) = val b xs + b ^ xs.length * y := by
  rw [val_append]; simp [val]

theorem val_replicate (b n : Nat) : val b (List.replicate n 0) = 0 := by
  induction n with
  | zero => rfl
  | succ n ih => rw [List.replicate_succ, val_cons, ih]; simp

theorem val_shift (b n : Nat) (xs : List Nat) : val b (List.replicate n 0 ++ xs) = b ^ n * val b xs := by
  rw [val_append, val_replicate]; simp

theorem val_lt {b : Nat} (_hb : 1 ≤ b) (xs : List Nat) (h : ∀ x ∈ xs, x < b) : val b xs < b ^ xs.length := by
  induction xs with
  | nil => simp [val]
  | cons x xs ih =>
    have h1 := h x (by simp)
    have h2 := ih (fun y hy => h y (by simp [hy]))
    have h3 : b * (val b xs + 1) ≤ b * b ^ xs.length := Nat.mul_le_mul_left b h2
    rw [val_cons, List.length_cons, Nat.pow_succ, Nat.mul_comm _ b]
    rw [Nat.mul_add] at h3
    omega

theorem val_inj {b : Nat} : ∀ (xs ys : List Nat), (∀ x ∈ xs, x < b) → (∀ y ∈ ys, y < b) → xs.length = ys.length → val b xs = val b ys → xs = ys
  | [], [], _, _, _, _ => rfl
  | [], _ :: _, _, _, h, _ => by simp at h
  | _ :: _, [], _, _, h, _ => by simp at h
  | x :: xs, y :: ys, hx, hy, hl, hv => by
    have h1 := hx x (by simp)
    have h2 := hy y (by simp)
    simp only [val_cons] at hv
    have hm : (x + b * val b xs) % b = (y + b * val b ys) % b := by rw [hv]
    rw [Nat.add_mul_mod_self_left, Nat.add_mul_mod_self_left, Nat.mod_eq_of_lt h1, Nat.mod_eq_of_lt h2] at hm
    subst hm
    have hb : 0 < b := by omega
    have := Nat.eq_of_mul_eq_mul_left hb (by omega : b * val b xs = b * val b ys)
    rw [val_inj xs ys (fun a ha => hx a (by simp [ha])) (fun a ha => hy a (by simp [ha])) (by simpa using hl) this]

/-- Without noughts at the end. -/
def trim (xs : List Nat) : List Nat := (xs.reverse.dropWhile (· == 0)).reverse

theorem trim_nil : trim [] = [] := rfl
theorem trim_snoc_zero (xs : List Nat) : trim (xs ++ [0]) = trim xs := by simp [trim]
theorem trim_snoc_pos (xs : List Nat) {y : Nat} (hy : y ≠ 0) : trim (xs ++ [y]) = xs ++ [y] := by simp [trim, hy]

theorem digs_snoc {b : Nat} (hb : 2 ≤ b) : ∀ (xs : List Nat) (y : Nat), (∀ x ∈ xs, x < b) → y < b → y ≠ 0 → digs b (val b (xs ++ [y])) = xs ++ [y]
  | [], y, _, hy, hy0 => by
    simp only [List.nil_append, val_cons, val_nil, Nat.mul_zero, Nat.add_zero]
    rw [digs_pos hb hy0, Nat.mod_eq_of_lt hy, Nat.div_eq_of_lt hy, digs_zero]
  | x :: xs, y, hx, hy, hy0 => by
    have ih := digs_snoc hb xs y (fun a ha => hx a (by simp [ha])) hy hy0
    have h1 := hx x (by simp)
    have hpos : val b (xs ++ [y]) ≠ 0 := by
      intro h; rw [h, digs_zero] at ih; simp at ih
    have hp : b * 1 ≤ b * val b (xs ++ [y]) := Nat.mul_le_mul_left b (by omega)
    rw [List.cons_append, val_cons, digs_pos hb (by omega), Nat.add_mul_mod_self_left, Nat.mod_eq_of_lt h1, Nat.add_mul_div_left _ _ (by omega), Nat.div_eq_of_lt h1, Nat.zero_add, ih]

theorem snoc_ind {α : Type} {P : List α → Prop} (h0 : P []) (h1 : ∀ xs y, P xs → P (xs ++ [y])) (xs : List α) : P xs := by
  have : ∀ n (xs : List α), xs.length = n → P xs := by
    intro n
    induction n with
    | zero => intro xs h; rw [List.length_eq_zero_iff.1 h]; exact h0
    | succ n ih =>
      intro xs h
      have hne : xs ≠ [] := by intro e; subst e; simp at h
      rw [← List.dropLast_concat_getLast hne]
      exact h1 _ _ (ih _ (by simp [h]))
  exact this _ xs rfl

/-- ████ A list of digits without its noughts at the end is the list of the digits of its worth. -/
theorem trim_eq {b : Nat} (hb : 2 ≤ b) (xs : List Nat) (h : ∀ x ∈ xs, x < b) : trim xs = digs b (val b xs) := by
  induction xs using snoc_ind with
  | h0 => rfl
  | h1 xs y ih =>
    by_cases hy : y = 0
    · subst hy
      rw [trim_snoc_zero, ih (fun x hx => h x (by simp [hx])), val_snoc]; simp
    · rw [trim_snoc_pos _ hy, digs_snoc hb xs y (fun x hx => h x (by simp [hx])) (h y (by simp)) hy]

theorem trim_take (xs : List Nat) : ∃ n, n ≤ xs.length ∧ trim xs = xs.take n := by
  induction xs using snoc_ind with
  | h0 => exact ⟨0, by simp, rfl⟩
  | h1 xs y ih =>
    by_cases hy : y = 0
    · subst hy
      obtain ⟨n, hn, e⟩ := ih
      exact ⟨n, by simp; omega, by rw [trim_snoc_zero, e, List.take_append_of_le_length hn]⟩
    · exact ⟨xs.length + 1, by simp, by rw [trim_snoc_pos _ hy]; simp [List.take_of_length_le]⟩

theorem digs_length_le {b : Nat} (hb : 2 ≤ b) {n k : Nat} : (digs b n).length ≤ k ↔ n < b ^ k := by
  induction n using digs_ind hb generalizing k with
  | h0 => simp [digs_zero, Nat.pow_pos (show 0 < b by omega)]
  | h1 n hn ih =>
    rw [digs_pos hb hn, List.length_cons]
    cases k with
    | zero => simp; omega
    | succ k =>
      rw [Nat.add_le_add_iff_right, ih, Nat.div_lt_iff_lt_mul (by omega), Nat.pow_succ]

theorem lt_pow_length {b : Nat} (hb : 2 ≤ b) (n : Nat) : n < b ^ (digs b n).length := (digs_length_le hb).1 (Nat.le_refl _)
theorem pow_le_of_lt_length {b : Nat} (hb : 2 ≤ b) {n k : Nat} (h : k < (digs b n).length) : b ^ k ≤ n := by
  have := mt (digs_length_le hb (n := n) (k := k)).2
  omega
theorem length_pos {b : Nat} (hb : 2 ≤ b) {n : Nat} (hn : n ≠ 0) : 0 < (digs b n).length := by
  rw [digs_pos hb hn]; simp
theorem digs_length_mono {b : Nat} (hb : 2 ≤ b) {m n : Nat} (h : m ≤ n) : (digs b m).length ≤ (digs b n).length := by
  rw [digs_length_le hb]; exact Nat.lt_of_le_of_lt h (lt_pow_length hb n)
/-- The digit count of a product with a power of the base. -/
theorem digs_length_mul_pow {b : Nat} (hb : 2 ≤ b) {n : Nat} (hn : n ≠ 0) (k : Nat) : (digs b (n * b ^ k)).length = (digs b n).length + k := by
  apply Nat.le_antisymm
  · rw [digs_length_le hb, Nat.pow_add]
    exact Nat.mul_lt_mul_of_pos_right (lt_pow_length hb n) (Nat.pow_pos (by omega))
  · have hp := length_pos hb hn
    rcases Nat.lt_or_ge (digs b (n * b ^ k)).length ((digs b n).length + k) with h | h
    · exfalso
      have h1 := lt_pow_length hb (n * b ^ k)
      have h2 : b ^ ((digs b n).length - 1) ≤ n := pow_le_of_lt_length hb (by omega)
      have h3 : b ^ ((digs b n).length - 1 + k) ≤ n * b ^ k := by rw [Nat.pow_add]; exact Nat.mul_le_mul_right _ h2
      have h4 : b ^ (digs b (n * b ^ k)).length ≤ b ^ ((digs b n).length - 1 + k) := Nat.pow_le_pow_right (by omega) (by omega)
      omega
    · exact h
theorem digs_mul_pow {b : Nat} (hb : 2 ≤ b) {n : Nat} (hn : n ≠ 0) (k : Nat) : digs b (n * b ^ k) = List.replicate k 0 ++ digs b n := by
  apply val_inj (b := b)
  · exact digs_lt hb _
  · intro y hy
    rcases List.mem_append.1 hy with h | h
    · have := List.eq_of_mem_replicate h; omega
    · exact digs_lt hb _ y h
  · rw [digs_length_mul_pow hb hn]; simp [Nat.add_comm]
  · rw [val_digs hb, val_shift, val_digs hb, Nat.mul_comm]

/-- Dividing by a power of the base cuts digits away at the front; the rest are the digits that were cut. -/
theorem digs_div_pow {b : Nat} (hb : 2 ≤ b) (n k : Nat) : digs b (n / b ^ k) = (digs b n).drop k := by
  induction k generalizing n with
  | zero => simp
  | succ k ih =>
    by_cases hn : n = 0
    · subst hn; simp [digs_zero]
    · rw [digs_pos hb hn, List.drop_succ_cons, ← ih, Nat.pow_succ, Nat.mul_comm, Nat.div_div_eq_div_mul]

theorem val_take {b : Nat} (hb : 1 ≤ b) (xs : List Nat) (h : ∀ x ∈ xs, x < b) (k : Nat) : val b (xs.take k) = val b xs % b ^ k := by
  by_cases hk : k ≤ xs.length
  · have e := val_append b (xs.take k) (xs.drop k)
    rw [List.take_append_drop, List.length_take, Nat.min_eq_left hk] at e
    rw [e, Nat.add_mul_mod_self_left, Nat.mod_eq_of_lt]
    have := val_lt hb (xs.take k) (fun x hx => h x (List.mem_of_mem_take hx))
    rwa [List.length_take, Nat.min_eq_left hk] at this
  · rw [List.take_of_length_le (by omega), Nat.mod_eq_of_lt]
    exact Nat.lt_of_lt_of_le (val_lt hb xs h) (Nat.pow_le_pow_right hb (by omega))
theorem val_drop {b : Nat} (hb : 1 ≤ b) (xs : List Nat) (h : ∀ x ∈ xs, x < b) (k : Nat) : val b (xs.drop k) = val b xs / b ^ k := by
  by_cases hk : k ≤ xs.length
  · have e := val_append b (xs.take k) (xs.drop k)
    rw [List.take_append_drop, List.length_take, Nat.min_eq_left hk] at e
    have hl := val_lt hb (xs.take k) (fun x hx => h x (List.mem_of_mem_take hx))
    rw [List.length_take, Nat.min_eq_left hk] at hl
    rw [e, Nat.add_mul_div_left _ _ (Nat.pow_pos (by omega)), Nat.div_eq_of_lt hl, Nat.zero_add]
  · rw [List.drop_of_length_le (by omega), Nat.div_eq_of_lt]
    · rfl
    · exact Nat.lt_of_lt_of_le (val_lt hb xs h) (Nat.pow_le_pow_right hb (by omega))

/-- The sum that is laid down up to place k. -/
def upto (b : Nat) (s : Nat → Nat) : Nat → Nat
  | 0 => 0
  | k + 1 => upto b s k + s k * b ^ k
theorem val_eq_upto (b : Nat) (xs : List Nat) : ∀ k, k ≤ xs.length → val b (xs.take k) = upto b (fun i => xs.getD i 0) k
  | 0, _ => rfl
  | k + 1, h => by
    have hk : k < xs.length := h
    rw [List.take_add_one, List.getElem?_eq_getElem hk]
    simp only [Option.toList_some]
    rw [val_snoc, val_eq_upto b xs k (by omega), List.length_take, Nat.min_eq_left (by omega)]
    simp only [upto]
    rw [Nat.mul_comm, List.getD_eq_getElem?_getD, List.getElem?_eq_getElem hk]; rfl
theorem upto_val (b : Nat) (xs : List Nat) : upto b (fun i => xs.getD i 0) xs.length = val b xs := by
  rw [← val_eq_upto b xs xs.length (Nat.le_refl _), List.take_length]
theorem upto_congr (b : Nat) (s t : Nat → Nat) (k : Nat) (h : ∀ i, i < k → s i = t i) : upto b s k = upto b t k := by
  induction k with
  | zero => rfl
  | succ k ih => simp only [upto]; rw [ih (fun i hi => h i (by omega)), h k (by omega)]
theorem upto_add (b : Nat) (s t : Nat → Nat) (k : Nat) : upto b (fun i => s i + t i) k = upto b s k + upto b t k := by
  induction k with
  | zero => rfl
  | succ k ih => simp only [upto]; rw [ih, Nat.add_mul]; omega
theorem upto_mul (b : Nat) (s : Nat → Nat) (c k : Nat) : upto b (fun i => s i * c) k = upto b s k * c := by
  induction k with
  | zero => simp [upto]
  | succ k ih => simp only [upto]; rw [ih, Nat.add_mul, Nat.mul_right_comm]
/-- Places beyond the list's end count nothing. -/
theorem upto_val_ge (b : Nat) (xs : List Nat) (k : Nat) (h : xs.length ≤ k) : upto b (fun i => xs.getD i 0) k = val b xs := by
  induction k with
  | zero => obtain rfl : xs = [] := List.length_eq_zero_iff.1 (by omega)
            rfl
  | succ k ih =>
    by_cases hk : xs.length = k + 1
    · rw [← hk]; exact upto_val b xs
    · simp only [upto]
      rw [ih (by omega), List.getD_eq_getElem?_getD, List.getElem?_eq_none (by omega)]; simp

theorem val_split (b : Nat) (xs : List Nat) (k : Nat) (hk : k < xs.length) : val b xs = val b (xs.take k) + b ^ k * (xs.getD k 0 + b * val b (xs.drop (k + 1))) := by
  have e := val_append b (xs.take k) (xs.drop k)
  rw [List.take_append_drop, List.length_take, Nat.min_eq_left (by omega), List.drop_eq_getElem_cons hk, val_cons] at e
  rw [e]; simp [hk]
theorem val_take_lt {b : Nat} (hb : 1 ≤ b) (xs : List Nat) (h : ∀ x ∈ xs, x < b) (k : Nat) : val b (xs.take k) < b ^ k := by
  rw [val_take hb xs h]; exact Nat.mod_lt _ (Nat.pow_pos (by omega))
/-- The highest place at which two lists part decides. -/
theorem val_lt_top {b : Nat} (hb : 1 ≤ b) (xs ys : List Nat) (hx : ∀ x ∈ xs, x < b) (k : Nat) (h1 : k < xs.length) (h2 : k < ys.length) (hd : xs.drop (k + 1) = ys.drop (k + 1)) (hlt : xs.getD k 0 < ys.getD k 0) : val b xs < val b ys := by
  rw [val_split b xs k h1, val_split b ys k h2, hd]
  have h3 := val_take_lt hb xs hx k
  have h4 : b ^ k * (xs.getD k 0 + 1 + b * val b (ys.drop (k + 1))) ≤ b ^ k * (ys.getD k 0 + b * val b (ys.drop (k + 1))) := Nat.mul_le_mul_left _ (by omega)
  have h5 : b ^ k * (xs.getD k 0 + 1 + b * val b (ys.drop (k + 1))) = b ^ k * (xs.getD k 0 + b * val b (ys.drop (k + 1))) + b ^ k := by rw [Nat.add_right_comm, Nat.mul_add _ _ 1, Nat.mul_one]
  omega
theorem digs_inj {b : Nat} (hb : 2 ≤ b) {m n : Nat} (h : digs b m = digs b n) : m = n := by rw [← val_digs hb m, h, val_digs hb n]
theorem lt_of_digs_length {b : Nat} (hb : 2 ≤ b) {m n : Nat} (h : (digs b m).length < (digs b n).length) : m < n := by
  rcases Nat.lt_or_ge m n with h' | h'
  · exact h'
  · have := digs_length_mono hb h'; omega
theorem drop_getD {xs : List Nat} {k : Nat} (hk : k < xs.length) : xs.drop k = xs.getD k 0 :: xs.drop (k + 1) := by
  rw [List.drop_eq_getElem_cons hk]; simp [hk]
theorem val_take_succ (b : Nat) (xs : List Nat) (k : Nat) : val b (xs.take (k + 1)) = val b (xs.take k) + b ^ k * xs.getD k 0 := by
  by_cases hk : k < xs.length
  · rw [List.take_add_one, List.getElem?_eq_getElem hk]
    simp only [Option.toList_some]
    rw [val_snoc, List.length_take, Nat.min_eq_left (by omega)]; simp [hk]
  · rw [List.take_of_length_le (by omega), List.take_of_length_le (by omega)]
    simp [List.getElem?_eq_none (show xs.length ≤ k by omega)]

theorem val_set (b : Nat) (L : List Nat) (p d : Nat) (hp : p < L.length) : val b (L.set p d) + L.getD p 0 * b ^ p = val b L + d * b ^ p := by
  induction L generalizing p with
  | nil => simp at hp
  | cons x L ih =>
    cases p with
    | zero => simp [val]; omega
    | succ p =>
      have := ih p (by simpa using hp)
      simp only [List.set_cons_succ, val_cons, List.getD_cons_succ, Nat.pow_succ]
      have e : b * (val b (L.set p d) + L.getD p 0 * b ^ p) = b * (val b L + d * b ^ p) := by rw [this]
      simp only [Nat.mul_add] at e
      have e1 : b * (L.getD p 0 * b ^ p) = L.getD p 0 * (b ^ p * b) := by ac_rfl
      have e2 : b * (d * b ^ p) = d * (b ^ p * b) := by ac_rfl
      omega

/-- The limbs of a number, what limbs are worth, and the sum that is laid down. -/
def B9 : Nat := 1000000000
theorem B9_eq : B9 = 1000000000 := rfl
theorem two_le_B9 : 2 ≤ B9 := by decide
def limbs (n : Nat) : List Nat := digs B9 n
def worth (xs : List Nat) : Nat := val B9 xs
def laid (s : Nat → Nat) (k : Nat) : Nat := upto B9 s k
theorem worth_limbs (n : Nat) : worth (limbs n) = n := val_digs two_le_B9 n
theorem limbs_lt (n : Nat) : ∀ x ∈ limbs n, x < 1000000000 := digs_lt two_le_B9 n
theorem ten9 (n : Nat) : 10 ^ n = 10 ^ (n % 9) * B9 ^ (n / 9) := by
  have e : B9 = 10 ^ 9 := rfl
  rw [e, ← Nat.pow_mul, ← Nat.pow_add, Nat.add_comm, Nat.div_add_mod]
theorem limbs_shift {m n : Nat} (hm : m ≠ 0) : limbs (m * 10 ^ n) = List.replicate (n / 9) 0 ++ limbs (m * 10 ^ (n % 9)) := by
  rw [ten9 n, ← Nat.mul_assoc]
  have h0 : m * 10 ^ (n % 9) ≠ 0 := Nat.mul_ne_zero hm (Nat.ne_of_gt (Nat.pow_pos (by decide)))
  exact digs_mul_pow two_le_B9 h0 _
theorem trim_limbs (xs : List Nat) (h : ∀ x ∈ xs, x < 1000000000) : trim xs = limbs (worth xs) := trim_eq two_le_B9 xs h

end Go.Proofs.YtldhebpkplglcaaGreatDoor.Num
