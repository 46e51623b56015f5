/- The closing of a card over this seat's list: what all laws share. An argument that is a value, opened to a tree; what its bulk says of its rows. The closing of a card of chapter 11: its arguments opened, the tables read off the list, a world for the witness. -/
import Derived.Test.YtldhebpkplglcaaGreatDoorCards
import Derived.Test.YtldhebpkplglcaaGreatDoorTie
import Derived.Test.YtldhebpkplglcaaGreatDoorMb
import Derived.Test.YtldhebpkplglcaaGreatDoorRows
import Derived.Test.YtldhebpkplglcaaGreatDoorSmall
import Derived.Test.YtldhebpkplglcaaGreatDoorMj
import Derived.Test.YtldhebpkplglcaaGreatDoorSeven
import Derived.Test.YtldhebpkplglcaaGreatDoorMl
import Derived.Test.YtldhebpkplglcaaGreatDoorShelf
import Derived.WalkKit
import Derived.ProofKit
import Derived.OpenShut
import Derived.Carry
import Derived.Deep.DeepHandedRow
import Derived.Deep.DeepWitnessRowRef
import Derived.Lib.LaidTab
import Derived.Lib.LaidIn
import Derived.Lib.SmallJoins
import Derived.LaidSub
import Derived.ChangeArms
import Derived.Deep.Slices
import Derived.Lib.LaidU8
namespace Go.Proofs.YtldhebpkplglcaaGreatDoor
open Go.RowKit Go.ChangeShapes Go.WideShapes Go.ChangeAt Go.Joins

theorem own : ownKnob Tryz.prog.godebug = none := by kernel_rfl
theorem laidOutP : laidOutB Tryz.prog = true := by kernel_rfl
theorem cellsDec : Tryz.prog.cellsOf 24 = 3 := by kernel_rfl
theorem cellsU32 : Tryz.prog.cellsOf 62 = 1 := by kernel_rfl
theorem cellsPow : Tryz.prog.cellsOf 275 = 20 := by kernel_rfl
theorem cellsU64 : Tryz.prog.cellsOf 218 = 1 := by kernel_rfl
theorem gPowType : (Tryz.prog.globals[4]?).map (·.type) = some 275 := by kernel_rfl

section
variable {H : Type} {enc : TypeId × Value → H}

set_option maxRecDepth 100000 in
/-- An argument of type Dec, opened. -/
theorem open_dec {r : Reach} {b0 : Nat} {W : World} {v : Value} {d : DataW H} {p : List MemPlace} (hv : Value.okWide Tryz.prog W r b0 24 v) (h : DataW.Trod enc Tryz.prog W 0 (fun _ => true) true 24 v d p) :
    ∃ (g : Bool) (a : Option Addr) (cap : Nat) (e : Int) (xs : List Nat), v = .agg #[.bool g, .slice a xs.length cap, .int .i64 e] ∧ U32 W a xs ∧ -9223372036854775808 ≤ e ∧ e ≤ 9223372036854775807 ∧ xs.length ≤ maxLen := by
  obtain ⟨v0, v1, v2, y0, y1, y2, n, rfl, _, _, h0, h1, h2⟩ := open_agg3 Tryz.underlying24 (by kernel_rfl) cellsDec hv h
  obtain ⟨g, e0, _⟩ := DataW.trod_bool Tryz.underlying4 h0
  obtain ⟨e, e2, _, hw⟩ := DataW.trod_int Tryz.underlying3 h2
  simp only [List.cons.injEq, and_true] at e0 e2
  subst e0 e2
  have he : -9223372036854775808 ≤ e ∧ e ≤ 9223372036854775807 := by
    simp only [Lit.wf, Bool.and_eq_true, decide_eq_true_eq] at hw
    rw [show IntKind.i64.min = -9223372036854775808 by decide, show IntKind.i64.max = 9223372036854775807 by decide] at hw
    exact hw
  rcases open_ints Tryz.underlying22 Tryz.underlying62 cellsU32 h1 with ⟨e1, _⟩ | ⟨a, len, cap, zs, e1, _, hlc, hcm, hzl, _, hcell, hwf⟩
  · simp only [List.cons.injEq, and_true] at e1
    subst e1
    exact ⟨g, none, 0, e, [], rfl, ⟨Row.nil _ _, fun x hx => by simp at hx⟩, he.1, he.2, Nat.zero_le _⟩
  · simp only [List.cons.injEq, and_true] at e1
    subst e1
    simp only [if_true] at hzl
    have hz : ∀ z ∈ zs, 0 ≤ z ∧ z < 4294967296 := fun z hz => by
      have := hwf z hz
      simp only [Lit.wf, Bool.and_eq_true, decide_eq_true_eq] at this
      rw [show IntKind.u32.min = 0 by decide, show IntKind.u32.max = 4294967295 by decide] at this
      omega
    have hxl : ((zs.take len).map Int.toNat).length = len := by simp; omega
    refine ⟨g, some a, cap, e, (zs.take len).map Int.toNat, by rw [hxl], ⟨?_, ?_⟩, he.1, he.2, by rw [hxl]; omega⟩
    · intro j x hx
      have hj : j < len := by
        have := (List.getElem?_eq_some_iff.1 hx).1
        simp [u32s] at this; omega
      have hjz : j < zs.length := by omega
      have hc := hcell j hjz
      have hxe : x = .int .u32 (zs.getD j 0) := by
        have hm : zs[j] ∈ zs := List.getElem_mem hjz
        have hb := hz _ hm
        simp only [u32s, List.getElem?_map, List.getElem?_take, hj, if_true, List.getElem?_eq_getElem hjz, Option.map_some, Option.some.injEq] at hx
        rw [← hx, List.getD_eq_getElem?_getD, List.getElem?_eq_getElem hjz]
        simp only [Option.getD_some]
        rw [Int.toNat_of_nonneg hb.1]
      rw [hxe]
      have hc0 := hcell 0 (by omega)
      obtain ⟨b, off, sp⟩ := a
      cases sp with
      | none =>
        refine ⟨b, off, rfl, ?_⟩
        rw [← hc]
        unfold Addr.add
        split
        · rename_i h0; subst h0; rfl
        · rfl
      | some q =>
        simp only [Addr.add, if_true] at hc0
        unfold World.cell? at hc0
        split at hc0
        · simp at hc0
        · cases hc0
    · intro x hx
      obtain ⟨z, hz', rfl⟩ := List.mem_map.1 hx
      have := hz z (List.mem_of_mem_take hz')
      omega

/-- All arguments read behind the call as before. -/
theorem trodAll_stays {W W' : World} (hb : Below W.heap.size W W') : ∀ {ts : List TypeId} {vs : List Value} {ds : List (DataW H)} {ps : List MemPlace}, (∀ t ∈ ts, Tryz.prog.readableRec t = true ∧ t < Tryz.prog.types.size) →
    DataW.TrodAll enc Tryz.prog W 0 (fun _ => true) true ts vs ds ps → (∀ x ∈ ps, x.block < W.heap.size) → DataW.TrodAll enc Tryz.prog W' 0 (fun b => decide (b < W.heap.size)) true ts vs ds ps
  | [], vs, ds, ps, _, h, _ => by
    obtain ⟨rfl, rfl, rfl⟩ := trodAll_nil h
    exact trodAll_mk0
  | t :: ts, vs, ds, ps, ht, h, hlt => by
    obtain ⟨v, vs1, d, ds1, a, b, rfl, rfl, rfl, h1, h2⟩ := trodAll_cons h
    have h3 := Below.trod laidOutP (ht t (by simp)).1 (ht t (by simp)).2 h1 hb (fun x hx => hlt x (List.mem_append_left _ hx))
    have h4 := trodAll_stays hb (fun u hu => ht u (by simp [hu])) h2 (fun x hx => hlt x (List.mem_append_right _ hx))
    exact trodAll_cons_mk h3 h4
end

/-- The list gives the table of powers. -/
theorem pow_of {l : List (String × DataW Unit)} {W : World} (h : laidMetH Tryz.prog l W)
    (hf : (l.filter fun x => x.1 == "internal/strconv.uint64pow10") = [("internal/strconv.uint64pow10", Lib.tabData .u64 Lib.pow10Tab)]) : Pow W := by
  have h2 := (laidMetH_iff.1 (h.filter fun x => x.1 == "internal/strconv.uint64pow10")).1
  rw [hf] at h2
  exact Lib.tabIs_of_head (rest := []) gPow gPowType Tryz.underlying275 Tryz.underlying218 cellsU64 cellsPow h2

/- A world for the witness. -/
def val1 : DataW Unit → Value
  | .lit (.int k n) => .int k n
  | .lit (.string l) => .string ⟨l.toArray⟩
  | _ => undef
def vals1 : DataW Unit → List Value
  | .agg xs => xs.map val1
  | d => [val1 d]
def vals2 : DataW Unit → Array Value
  | .agg xs => (xs.flatMap vals1).toArray
  | _ => #[]
def put (h : Array Obj) (g : Nat) (cs : Array Value) : Array Obj := h.modify g fun
  | .cells _ t frozen => .cells cs t frozen
  | o => o
def errText (d : DataW Unit) : Value := match d with
  | .iface _ (.ptr (.agg [.lit (.string l)])) => .string ⟨l.toArray⟩
  | _ => undef

end Go.Proofs.YtldhebpkplglcaaGreatDoor

namespace Go.Proofs.YtldhebpkplglcaaGreatDoor
open Go.RowKit Go.ChangeShapes Go.WideShapes Go.ChangeAt Go.Joins

theorem cellsInt : Tryz.prog.cellsOf 3 = 1 := by kernel_rfl
theorem cellsStr : Tryz.prog.cellsOf 9 = 1 := by kernel_rfl
theorem cellsBool : Tryz.prog.cellsOf 4 = 1 := by kernel_rfl
theorem cellsU32s : Tryz.prog.cellsOf 22 = 1 := by kernel_rfl
theorem cellsVals : Tryz.prog.cellsOf 25 = 1 := by kernel_rfl
theorem cellsFlds : Tryz.prog.cellsOf 26 = 1 := by kernel_rfl
theorem cellsVal : Tryz.prog.cellsOf 28 = 7 := by kernel_rfl
theorem cellsFld : Tryz.prog.cellsOf 100 = 8 := by kernel_rfl

theorem bulk_one {H : Type} (d : DataW H) : 1 ≤ Rows.uptoBulk d := by
  cases d with
  | lit l => cases l <;> simp [Rows.uptoBulk]
  | nil => simp [Rows.uptoBulk]
  | ptr d => simp [Rows.uptoBulk]
  | slice elems spare => simp [Rows.uptoBulk]
  | agg parts => simp [Rows.uptoBulk]
  | iface t d => simp [Rows.uptoBulk]
  | map entries => simp [Rows.uptoBulk]
  | held h => simp [Rows.uptoBulk]
theorem bulk_part {H : Type} {d : DataW H} : ∀ {l : List (DataW H)}, d ∈ l → Rows.uptoBulk d ≤ Rows.uptoBulkAll l
  | x :: r, h => by
    simp only [Rows.uptoBulkAll]
    rcases List.mem_cons.1 h with e | e
    · subst e; omega
    · have := bulk_part e; omega
theorem bulk_length {H : Type} : ∀ l : List (DataW H), l.length ≤ Rows.uptoBulkAll l
  | [] => Nat.le_refl _
  | x :: r => by have := bulk_one x; have := bulk_length r; simp only [Rows.uptoBulkAll, List.length_cons]; omega
theorem bulk_agg {H : Type} {parts : List (DataW H)} {d : DataW H} (h : d ∈ parts) : Rows.uptoBulk d ≤ Rows.uptoBulk (.agg parts) := by
  have := bulk_part h
  simp only [Rows.uptoBulk]
  omega
theorem bulk_slice {H : Type} {es sp : List (DataW H)} : es.length + 1 ≤ Rows.uptoBulk (.slice es sp) ∧ ∀ d ∈ es, Rows.uptoBulk d ≤ Rows.uptoBulk (.slice es sp) := by
  have h1 := bulk_length es
  refine ⟨by simp only [Rows.uptoBulk]; omega, fun d hd => ?_⟩
  have := bulk_part hd
  simp only [Rows.uptoBulk]
  omega

theorem list_choose {α β : Type} {P : Nat → α → β → Prop} : ∀ (l : List α), (∀ (i : Nat) (y : α), l[i]? = some y → ∃ v, P i y v) → ∃ m : List β, m.length = l.length ∧ ∀ (i : Nat) (v : β), m[i]? = some v → ∃ y, l[i]? = some y ∧ P i y v := by
  intro l
  suffices H : ∀ (l : List α) (k : Nat), (∀ (i : Nat) (y : α), l[i]? = some y → ∃ v, P (k + i) y v) → ∃ m : List β, m.length = l.length ∧ ∀ (i : Nat) (v : β), m[i]? = some v → ∃ y, l[i]? = some y ∧ P (k + i) y v by
    intro h
    have := H l 0 (fun i y hy => by rw [Nat.zero_add]; exact h i y hy)
    simpa using this
  intro l
  induction l with
  | nil => intro k _; exact ⟨[], rfl, fun i v h => by simp at h⟩
  | cons x l ih =>
    intro k h
    obtain ⟨v, hv⟩ := h 0 x rfl
    obtain ⟨m, h1, h2⟩ := ih (k + 1) (fun i y hy => by
      have := h (i + 1) y (by simpa using hy)
      rw [show k + 1 + i = k + (i + 1) by omega]
      exact this)
    refine ⟨v :: m, by simp [h1], fun i u hu => ?_⟩
    cases i with
    | zero =>
      simp at hu
      rw [← hu]
      exact ⟨x, rfl, hv⟩
    | succ i =>
      obtain ⟨y, e1, e2⟩ := h2 i u (by simpa using hu)
      rw [show k + 1 + i = k + (i + 1) by omega] at e2
      exact ⟨y, by simpa using e1, e2⟩

section
variable {H : Type} {enc : TypeId × Value → H}

theorem cells_place {W : World} {a : Addr} {k n : Nat} {cs : List Value} (h : W.cells? 0 (a.add k) n = some cs) (h0 : a.spot = none) : CellsAt W (some a) k cs := by
  obtain ⟨_, hl, hc⟩ := World.cells?_some h
  obtain ⟨b, off, sp⟩ := a
  simp only at h0
  subst h0
  refine ⟨b, off, rfl, fun j v hv => ?_⟩
  have hj := (List.getElem?_eq_some_iff.1 hv).1
  have := hc j (by omega)
  rw [Addr.add_lit, Addr.add_lit] at this
  rw [this, hv]
theorem spot_of {W : World} {a : Addr} {n : Nat} {cs : List Value} (h : W.cells? 0 (a.add (0 * n)) (n + 1) = some cs) : a.spot = none := by
  obtain ⟨_, hl, hc⟩ := World.cells?_some h
  have h0 := hc 0 (by omega)
  rw [List.getElem?_eq_getElem (by omega)] at h0
  have := World.cell?_spot h0
  simpa [Addr.add] using this

theorem open_u32s {W : World} {n : Nat} {c : Value} {x : DataW H × List MemPlace} (h : DataW.trod enc Tryz.prog W 0 (fun _ => true) true n 22 [c] = some x) :
    ∃ (a : Option Addr) (cap : Nat) (xs : List Nat), c = .slice a xs.length cap ∧ U32 W a xs ∧ xs.length ≤ cap ∧ cap ≤ maxLen := by
  rcases open_ints Tryz.underlying22 Tryz.underlying62 cellsU32 h with ⟨e1, _⟩ | ⟨a, len, cap, zs, e1, _, hlc, hcm, hzl, _, hcell, hwf⟩
  · simp only [List.cons.injEq, and_true] at e1
    subst e1
    exact ⟨none, 0, [], rfl, ⟨Row.nil _ _, fun x hx => by simp at hx⟩, Nat.le_refl _, Nat.zero_le _⟩
  · simp only [List.cons.injEq, and_true] at e1
    subst e1
    simp only [if_true] at hzl
    have hz : ∀ z ∈ zs, 0 ≤ z ∧ z < 4294967296 := fun z hz => by
      have := hwf z hz
      simp only [Lit.wf, Bool.and_eq_true, decide_eq_true_eq] at this
      rw [show IntKind.u32.min = 0 by decide, show IntKind.u32.max = 4294967295 by decide] at this
      omega
    have hxl : ((zs.take len).map Int.toNat).length = len := by simp; omega
    refine ⟨some a, cap, (zs.take len).map Int.toNat, by rw [hxl], ⟨?_, ?_⟩, by rw [hxl]; exact hlc, hcm⟩
    · intro j x hx
      have hj : j < len := by
        have := (List.getElem?_eq_some_iff.1 hx).1
        simp [u32s] at this; omega
      have hjz : j < zs.length := by omega
      have hc := hcell j hjz
      have hxe : x = .int .u32 (zs.getD j 0) := by
        have hm : zs[j] ∈ zs := List.getElem_mem hjz
        have hb := hz _ hm
        simp only [u32s, List.getElem?_map, List.getElem?_take, hj, if_true, List.getElem?_eq_getElem hjz, Option.map_some, Option.some.injEq] at hx
        rw [← hx, List.getD_eq_getElem?_getD, List.getElem?_eq_getElem hjz]
        simp only [Option.getD_some]
        rw [Int.toNat_of_nonneg hb.1]
      rw [hxe]
      have hc0 := World.cell?_spot (hcell 0 (by omega))
      obtain ⟨b, off, sp⟩ := a
      obtain rfl : sp = none := by simpa [Addr.add] using hc0
      rw [Addr.add_lit] at hc
      exact ⟨b, off, rfl, hc⟩
    · intro x hx
      obtain ⟨z, hz', rfl⟩ := List.mem_map.1 hx
      have := hz z (List.mem_of_mem_take hz')
      omega

theorem one_cell {l : List Value} {c : Value} (h : [c] = l) : l = [c] := h.symm
theorem eight_parts {α : Type} {l : List α} (h : l.length = 8) : ∃ q0 q1 q2 q3 q4 q5 q6 q7, l = [q0, q1, q2, q3, q4, q5, q6, q7] := by
  match l, h with
  | [q0, q1, q2, q3, q4, q5, q6, q7], _ => exact ⟨q0, q1, q2, q3, q4, q5, q6, q7, rfl⟩
theorem five_parts {α : Type} {l : List α} (h : l.length = 5) : ∃ a b c d e, l = [a, b, c, d, e] := by
  match l, h with
  | [a, b, c, d, e], _ => exact ⟨a, b, c, d, e, rfl⟩
theorem two_parts {α : Type} {l : List α} (h : l.length = 2) : ∃ a b, l = [a, b] := by
  match l, h with
  | [a, b], _ => exact ⟨a, b, rfl⟩
theorem three_parts {α : Type} {l : List α} (h : l.length = 3) : ∃ a b c, l = [a, b, c] := by
  match l, h with
  | [a, b, c], _ => exact ⟨a, b, c, rfl⟩
theorem str_len {s : ByteArray} (h : s.size ≤ maxLen) : s.data.toList.length ≤ 9223372036854775807 := by
  have e : s.data.toList.length = s.size := Array.length_toList
  have h : s.size ≤ 9223372036854775807 := h
  omega
theorem bulk_str {H : Type} {y : DataW H × List MemPlace} {s : ByteArray} (h : y = (.lit (.string s.data.toList), [])) : s.data.toList.length + 1 = Rows.uptoBulk y.1 := by rw [h]; simp [Rows.uptoBulk]
theorem i64_of {e : Int} (hw : (Lit.int .i64 e).wf = true) : I64 e := by
  simp only [Lit.wf, Bool.and_eq_true, decide_eq_true_eq] at hw
  rw [show IntKind.i64.min = -9223372036854775808 by decide, show IntKind.i64.max = 9223372036854775807 by decide] at hw
  exact hw

theorem open_value (W : World) : ∀ (fuel : Nat) (cs : List Value) (x : DataW H × List MemPlace), DataW.trod enc Tryz.prog W 0 (fun _ => true) true fuel 28 cs = some x → ∃ v : JV, RdV W cs v ∧ (Rows.uptoBulk x.1 ≤ 1048576 → SmallV v ∧ v.obj.length + 1 ≤ 1048576) := by
  intro fuel
  induction fuel using Nat.strongRecOn with
  | _ fuel IH =>
    intro cs x h
    obtain ⟨xs, n, rfl, rfl, hl, hxl, hg⟩ := DataW.trod_struct Tryz.underlying28 h
    rw [cellsVal] at hl
    obtain ⟨c0, c1, c2, c3, c4, c5, c6, rfl⟩ := seven_of hl
    obtain ⟨y0, y1, y2, y3, y4, rfl⟩ := five_parts hxl
    have g0 : DataW.trod enc Tryz.prog W 0 (fun _ => true) true n 3 (([c0, c1, c2, c3, c4, c5, c6].drop 0).take (Tryz.prog.cellsOf 3)) = some y0 := hg 0 _ rfl
    rw [cellsInt] at g0
    replace g0 : DataW.trod enc Tryz.prog W 0 (fun _ => true) true n 3 [c0] = some y0 := g0
    have g1 : DataW.trod enc Tryz.prog W 0 (fun _ => true) true n 24 (([c0, c1, c2, c3, c4, c5, c6].drop 1).take (Tryz.prog.cellsOf 24)) = some y1 := hg 1 _ rfl
    rw [cellsDec] at g1
    replace g1 : DataW.trod enc Tryz.prog W 0 (fun _ => true) true n 24 [c1, c2, c3] = some y1 := g1
    have g2 : DataW.trod enc Tryz.prog W 0 (fun _ => true) true n 9 (([c0, c1, c2, c3, c4, c5, c6].drop 4).take (Tryz.prog.cellsOf 9)) = some y2 := hg 2 _ rfl
    rw [cellsStr] at g2
    replace g2 : DataW.trod enc Tryz.prog W 0 (fun _ => true) true n 9 [c4] = some y2 := g2
    have g3 : DataW.trod enc Tryz.prog W 0 (fun _ => true) true n 25 (([c0, c1, c2, c3, c4, c5, c6].drop 5).take (Tryz.prog.cellsOf 25)) = some y3 := hg 3 _ rfl
    rw [cellsVals] at g3
    replace g3 : DataW.trod enc Tryz.prog W 0 (fun _ => true) true n 25 [c5] = some y3 := g3
    have g4 : DataW.trod enc Tryz.prog W 0 (fun _ => true) true n 26 (([c0, c1, c2, c3, c4, c5, c6].drop 6).take (Tryz.prog.cellsOf 26)) = some y4 := hg 4 _ rfl
    rw [cellsFlds] at g4
    replace g4 : DataW.trod enc Tryz.prog W 0 (fun _ => true) true n 26 [c6] = some y4 := g4
    obtain ⟨k, e0, _, hw0⟩ := DataW.trod_int Tryz.underlying3 g0
    obtain ⟨s, e4, ey2, hs⟩ := DataW.trod_string Tryz.underlying9 g2
    obtain ⟨zs, n1, rfl, ey1, hl1, hxl1, hg1⟩ := DataW.trod_struct Tryz.underlying24 g1
    obtain ⟨z0, z1, z2, rfl⟩ := three_parts hxl1
    have d0 : DataW.trod enc Tryz.prog W 0 (fun _ => true) true n1 4 (([c1, c2, c3].drop 0).take (Tryz.prog.cellsOf 4)) = some z0 := hg1 0 _ rfl
    rw [cellsBool] at d0
    replace d0 : DataW.trod enc Tryz.prog W 0 (fun _ => true) true n1 4 [c1] = some z0 := d0
    have d1 : DataW.trod enc Tryz.prog W 0 (fun _ => true) true n1 22 (([c1, c2, c3].drop 1).take (Tryz.prog.cellsOf 22)) = some z1 := hg1 1 _ rfl
    rw [cellsU32s] at d1
    replace d1 : DataW.trod enc Tryz.prog W 0 (fun _ => true) true n1 22 [c2] = some z1 := d1
    have d2 : DataW.trod enc Tryz.prog W 0 (fun _ => true) true n1 3 (([c1, c2, c3].drop 2).take (Tryz.prog.cellsOf 3)) = some z2 := hg1 2 _ rfl
    rw [cellsInt] at d2
    replace d2 : DataW.trod enc Tryz.prog W 0 (fun _ => true) true n1 3 [c3] = some z2 := d2
    obtain ⟨gg, eb, _⟩ := DataW.trod_bool Tryz.underlying4 d0
    obtain ⟨a, cap, ls, rfl, hU, hlc, hcm⟩ := open_u32s d1
    obtain ⟨ee, e3, _, hw3⟩ := DataW.trod_int Tryz.underlying3 d2
    simp only [List.cons.injEq, and_true] at e0 e4 eb e3
    subst e0 e4 eb e3
    clear g0 g1 g2 d0 d1 d2 hg1 hg hl hl1 hxl hxl1
    have hA : ∃ (aa : Option Addr) (arr : List JV) (ac : Nat), c5 = .slice aa arr.length ac ∧ RdA W aa arr ∧ arr.length ≤ ac ∧ ac ≤ maxLen ∧ (Rows.uptoBulk y3.1 ≤ 1048576 → arr.length ≤ 1048576 ∧ ∀ x ∈ arr, SmallV x) := by
      rcases DataW.trod_slice Tryz.underlying25 g3 with ⟨e1, _⟩ | ⟨p, len, c, elems, rest, n2, hn2, e1, ey, hb, hlc, hcm, hel, hE, _, _⟩
      · simp only [List.cons.injEq, and_true] at e1
        subst e1
        exact ⟨none, [], 0, rfl, (fun i x hx => by simp at hx), Nat.le_refl _, Nat.zero_le _, fun _ => ⟨Nat.zero_le _, fun x hx => by cases hx⟩⟩
      · simp only [List.cons.injEq, and_true] at e1
        subst e1
        rw [cellsVal] at hE
        obtain ⟨arr, hal, harr⟩ := list_choose (P := fun i (y : DataW H × List MemPlace) (v : JV) => ∃ cs, W.cells? 0 (p.add (i * 7)) 7 = some cs ∧ RdV W cs v ∧ (Rows.uptoBulk y.1 ≤ 1048576 → SmallV v)) elems (fun i y hy => by
          have hi := (List.getElem?_eq_some_iff.1 hy).1
          have := hE i (by omega)
          rw [hy] at this
          obtain ⟨cs, h1, h2⟩ := Option.bind_eq_some_iff.1 this
          obtain ⟨v, v1, v2⟩ := IH n2 (by omega) cs y h2
          exact ⟨v, cs, h1, v1, fun hk => (v2 hk).1⟩)
        have hlen : len = arr.length := by omega
        subst hlen
        refine ⟨some p, arr, c, rfl, ?_, hlc, hcm, ?_⟩
        · intro i x hx
          obtain ⟨y, _, cs, h1, h2, _⟩ := harr i x hx
          have hi := (List.getElem?_eq_some_iff.1 hx).1
          have h0s : p.spot = none := by
            obtain ⟨y', _, cs', h1', _⟩ := harr 0 _ (List.getElem?_eq_getElem (by omega))
            exact spot_of (n := 6) h1'
          exact ⟨cs, cells_place h1 h0s, h2⟩
        · intro hk
          rw [ey] at hk
          dsimp only at hk
          have hbs := bulk_slice (es := elems.map (·.1)) (sp := rest.map (·.1))
          refine ⟨by have := hbs.1; simp at this; omega, fun x hx => ?_⟩
          obtain ⟨i, hi⟩ := List.getElem?_of_mem hx
          obtain ⟨y, hy, cs, _, _, h3⟩ := harr i x hi
          have := hbs.2 y.1 (List.mem_map_of_mem (List.mem_of_getElem? hy))
          exact h3 (by omega)
    have hO : ∃ (oa : Option Addr) (obj : List Fld) (oc : Nat), c6 = .slice oa obj.length oc ∧ RdO W oa obj ∧ obj.length ≤ oc ∧ oc ≤ maxLen ∧ (Rows.uptoBulk y4.1 ≤ 1048576 → obj.length + 1 ≤ 1048576 ∧ ∀ p ∈ obj, p.1.length ≤ 1048576 ∧ SmallV p.2) := by
      rcases DataW.trod_slice Tryz.underlying26 g4 with ⟨e1, _⟩ | ⟨p, len, c, elems, rest, n2, hn2, e1, ey, hb, hlc, hcm, hel, hE, _, _⟩
      · simp only [List.cons.injEq, and_true] at e1
        subst e1
        exact ⟨none, [], 0, rfl, (fun i x hx => by simp at hx), Nat.le_refl _, Nat.zero_le _, fun _ => ⟨by simp, fun x hx => by cases hx⟩⟩
      · simp only [List.cons.injEq, and_true] at e1
        subst e1
        rw [cellsFld] at hE
        obtain ⟨obj, hal, harr⟩ := list_choose (P := fun i (y : DataW H × List MemPlace) (f : Fld) => ∃ cs, W.cells? 0 (p.add (i * 8)) 8 = some (strV f.1 :: cs) ∧ f.1.length ≤ 9223372036854775807 ∧ RdV W cs f.2 ∧ (Rows.uptoBulk y.1 ≤ 1048576 → f.1.length ≤ 1048576 ∧ SmallV f.2)) elems (fun i y hy => by
          have hi := (List.getElem?_eq_some_iff.1 hy).1
          have := hE i (by omega)
          rw [hy] at this
          obtain ⟨cs, h1, h2⟩ := Option.bind_eq_some_iff.1 this
          obtain ⟨ws, n3, hn3, ew, hlw, hxw, hgw⟩ := DataW.trod_struct Tryz.underlying100 h2
          rw [cellsFld] at hlw
          obtain ⟨w0, w1, rfl⟩ := two_parts hxw
          obtain ⟨q0, q1, q2, q3, q4, q5, q6, q7, rfl⟩ := eight_parts hlw
          have f0 : DataW.trod enc Tryz.prog W 0 (fun _ => true) true n3 9 (([q0, q1, q2, q3, q4, q5, q6, q7].drop 0).take (Tryz.prog.cellsOf 9)) = some w0 := hgw 0 _ rfl
          rw [cellsStr] at f0
          replace f0 : DataW.trod enc Tryz.prog W 0 (fun _ => true) true n3 9 [q0] = some w0 := f0
          have f1 : DataW.trod enc Tryz.prog W 0 (fun _ => true) true n3 28 (([q0, q1, q2, q3, q4, q5, q6, q7].drop 1).take (Tryz.prog.cellsOf 28)) = some w1 := hgw 1 _ rfl
          rw [cellsVal] at f1
          replace f1 : DataW.trod enc Tryz.prog W 0 (fun _ => true) true n3 28 [q1, q2, q3, q4, q5, q6, q7] = some w1 := f1
          obtain ⟨ks, ek, eyk, hks⟩ := DataW.trod_string Tryz.underlying9 f0
          obtain ⟨v, v1, v2⟩ := IH n3 (by omega) _ w1 f1
          simp only [List.cons.injEq, and_true] at ek
          subst ek
          refine ⟨(ks.data.toList, v), [q1, q2, q3, q4, q5, q6, q7], by rw [h1]; rfl, str_len hks, v1, ?_⟩
          intro hk
          rw [ew] at hk
          dsimp only at hk
          have b0 := bulk_agg (parts := [w0, w1].map (·.1)) (d := w0.1) (by simp)
          have b1 := bulk_agg (parts := [w0, w1].map (·.1)) (d := w1.1) (by simp)
          refine ⟨?_, (v2 (by omega)).1⟩
          have b2 := bulk_str eyk
          show ks.data.toList.length ≤ 1048576
          omega)
        have hlen : len = obj.length := by omega
        subst hlen
        refine ⟨some p, obj, c, rfl, ?_, hlc, hcm, ?_⟩
        · intro i x hx
          obtain ⟨y, _, cs, h1, h2, h3, _⟩ := harr i x hx
          have hi := (List.getElem?_eq_some_iff.1 hx).1
          have h0s : p.spot = none := by
            obtain ⟨y', _, cs', h1', _⟩ := harr 0 _ (List.getElem?_eq_getElem (by omega))
            exact spot_of (n := 7) h1'
          exact ⟨cs, cells_place h1 h0s, h2, h3⟩
        · intro hk
          rw [ey] at hk
          dsimp only at hk
          have hbs := bulk_slice (es := elems.map (·.1)) (sp := rest.map (·.1))
          refine ⟨by have := hbs.1; simp at this; omega, fun x hx => ?_⟩
          obtain ⟨i, hi⟩ := List.getElem?_of_mem hx
          obtain ⟨y, hy, cs, _, _, _, h3⟩ := harr i x hi
          have := hbs.2 y.1 (List.mem_map_of_mem (List.mem_of_getElem? hy))
          exact h3 (by omega)
    obtain ⟨aa, arr, ac, rfl, rA, hac, hacm, bA⟩ := hA
    obtain ⟨oa, obj, oc, rfl, rO, hoc, hocm, bO⟩ := hO
    have hmx : maxLen = 9223372036854775807 := rfl
    refine ⟨.mk k gg ls ee s.data.toList arr obj, PartsV.rd (a := a) (c := cap) (aa := aa) (ac := ac) (oa := oa) (oc := oc) ⟨rfl, i64_of hw0, i64_of hw3, str_len hs, ⟨hac, by omega⟩, ⟨hoc, by omega⟩, ⟨hlc, by omega⟩, hU, rA, rO⟩, fun hk => ?_⟩
    dsimp only at hk
    have b2 := bulk_agg (parts := [y0, y1, y2, y3, y4].map (·.1)) (d := y2.1) (by simp)
    have b3 := bulk_agg (parts := [y0, y1, y2, y3, y4].map (·.1)) (d := y3.1) (by simp)
    have b4 := bulk_agg (parts := [y0, y1, y2, y3, y4].map (·.1)) (d := y4.1) (by simp)
    have cA := bA (by omega)
    have cO := bO (by omega)
    refine ⟨.mk _ cA.1 (Nat.le_of_succ_le cO.1) ?_ cA.2 (fun p hp => (cO.2 p hp).1) (fun p hp => (cO.2 p hp).2), cO.1⟩
    have b5 := bulk_str ey2
    show s.data.toList.length ≤ 1048576
    omega

end

end Go.Proofs.YtldhebpkplglcaaGreatDoor

namespace Go.Proofs.YtldhebpkplglcaaGreatDoor
open Go.RowKit Go.ChangeShapes Go.WideShapes Go.ChangeAt Go.Joins

section
variable {H : Type} {enc : TypeId × Value → H}
set_option maxRecDepth 100000 in
theorem open_valueArg {r : Reach} {b0 : Nat} {W : World} {v : Value} {d : DataW H} {p : List MemPlace} (hv : Value.okWide Tryz.prog W r b0 28 v) (h : DataW.Trod enc Tryz.prog W 0 (fun _ => true) true 28 v d p) :
    ∃ (cs : List Value) (x : JV), v = .agg cs.toArray ∧ RdV W cs x ∧ (Rows.uptoBulk d ≤ 1048576 → SmallV x) := by
  obtain ⟨cs, rfl, _⟩ := okWide_struct Tryz.underlying28 hv
  obtain ⟨fuel, hf⟩ := h
  obtain ⟨x, h1, h2⟩ := open_value W fuel cs.toList (d, p) hf
  exact ⟨cs.toList, x, by simp, h1, fun hk => (h2 hk).1⟩
set_option maxRecDepth 100000 in
/-- The same; its row of fields is shorter than the bound. -/
theorem open_valueArgL {r : Reach} {b0 : Nat} {W : World} {v : Value} {d : DataW H} {p : List MemPlace} (hv : Value.okWide Tryz.prog W r b0 28 v) (h : DataW.Trod enc Tryz.prog W 0 (fun _ => true) true 28 v d p) :
    ∃ (cs : List Value) (x : JV), v = .agg cs.toArray ∧ RdV W cs x ∧ (Rows.uptoBulk d ≤ 1048576 → SmallV x ∧ x.obj.length + 1 ≤ 1048576) := by
  obtain ⟨cs, rfl, _⟩ := okWide_struct Tryz.underlying28 hv
  obtain ⟨fuel, hf⟩ := h
  obtain ⟨x, h1, h2⟩ := open_value W fuel cs.toList (d, p) hf
  exact ⟨cs.toList, x, by simp, h1, h2⟩
set_option maxRecDepth 100000 in
theorem open_strArg {r : Reach} {b0 : Nat} {W : World} {v : Value} {d : DataW H} {p : List MemPlace} (hv : Value.okWide Tryz.prog W r b0 9 v) (h : DataW.Trod enc Tryz.prog W 0 (fun _ => true) true 9 v d p) :
    ∃ (s : List UInt8), v = strV s ∧ d = .lit (.string s) ∧ (Rows.uptoBulk d ≤ 1048576 → s.length ≤ 1048576) := by
  obtain ⟨s, rfl, rfl, rfl, ws⟩ := Go.ChangeMaps.open_string Tryz.underlying9 hv h
  refine ⟨s.data.toList, rfl, rfl, fun hk => ?_⟩
  have h2 := bulk_str (H := H) (y := (.lit (.string s.data.toList), [])) rfl
  dsimp only at h2
  omega
end

/-- The list gives the tables. -/
theorem tabs_of {l : List (String × DataW Unit)} {W : World} (h : laidMetH Tryz.prog l W)
    (hf : (l.filter fun x => x.1 == "internal/strconv.uint64pow10") = [("internal/strconv.uint64pow10", Lib.tabData .u64 Lib.pow10Tab)])
    (h1 : (l.filter fun x => x.1 == "unicode/utf8.first") = [("unicode/utf8.first", Lib.firstData)])
    (h2 : (l.filter fun x => x.1 == "unicode/utf8.acceptRanges") = [("unicode/utf8.acceptRanges", Lib.acceptData)]) : Tabs W := by
  refine ⟨?_, pow_of h hf⟩
  have k1 := (laidMetH_iff.1 (h.filter fun x => x.1 == "unicode/utf8.first")).1
  have k2 := (laidMetH_iff.1 (h.filter fun x => x.1 == "unicode/utf8.acceptRanges")).1
  rw [h1] at k1
  rw [h2] at k2
  first
  | exact utf8Tabs_of_reads (ρ := Tryz.lays260_ren) Tryz.lays260 ⟨by kernel_rfl, by kernel_rfl, by kernel_rfl, by kernel_rfl, by kernel_rfl, by kernel_rfl, by kernel_rfl⟩
      (Lib.laidMet.reads (l := [("unicode/utf8.first", Lib.firstData)]) k1 (.head _)) (Lib.laidMet.reads (l := [("unicode/utf8.acceptRanges", Lib.acceptData)]) k2 (.head _))
  | exact utf8Tabs_of_reads (ρ := Tryz.lays197_ren) { Tryz.lays197 with } ⟨by kernel_rfl, by kernel_rfl, by kernel_rfl, by kernel_rfl, by kernel_rfl, by kernel_rfl, by kernel_rfl⟩
      (Lib.laidMet.reads (l := [("unicode/utf8.first", Lib.firstData)]) k1 (.head _)) (Lib.laidMet.reads (l := [("unicode/utf8.acceptRanges", Lib.acceptData)]) k2 (.head _))

noncomputable def laidWorldV (os : Os) : World :=
  let w0 := World.holding Tryz.prog os ⟨#[], #[], []⟩
  let h1 := put w0.heap 4 (vals2 Rows.laid_internal_strconv_uint64pow10)
  let h2 := put h1 1 (vals2 Rows.laid_unicode_utf8_first)
  let h3 := put h2 2 (vals2 Rows.laid_unicode_utf8_acceptRanges)
  let h4 := put h3 5 (vals2 Rows.laid_math_bits_deBruijn32tab)
  let h5 := put h4 6 (vals2 Rows.laid_math_bits_deBruijn64tab)
  { w0 with heap := h5 }

end Go.Proofs.YtldhebpkplglcaaGreatDoor
