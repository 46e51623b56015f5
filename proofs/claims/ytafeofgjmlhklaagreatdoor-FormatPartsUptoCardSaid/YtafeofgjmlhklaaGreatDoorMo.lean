/- The closing of a card over this seat's list: what all laws share. -/
import Derived.Test.YtafeofgjmlhklaaGreatDoorCards
import Derived.Test.YtafeofgjmlhklaaGreatDoorTie
import Derived.Test.YtafeofgjmlhklaaGreatDoorMb
import Derived.WalkKit
import Derived.ProofKit
import Derived.OpenShut
import Derived.Carry
import Derived.Deep.DeepHandedRow
import Derived.Deep.DeepWitnessRowRef
import Derived.Lib.LaidTab
import Derived.Lib.LaidIn
import Derived.Lib.SmallJoins
import Derived.LaidSub
namespace Go.Proofs.YtafeofgjmlhklaaGreatDoor
open Go.RowKit Go.ChangeShapes Go.WideShapes Go.ChangeAt Go.Joins

theorem own : ownKnob Tryz.prog.godebug = none := by kernel_rfl
theorem laidOutP : laidOutB Tryz.prog = true := by kernel_rfl
theorem cellsDec : Tryz.prog.cellsOf 24 = 3 := by kernel_rfl
theorem cellsU32 : Tryz.prog.cellsOf 82 = 1 := by kernel_rfl
theorem cellsPow : Tryz.prog.cellsOf 280 = 20 := by kernel_rfl
theorem cellsU64 : Tryz.prog.cellsOf 223 = 1 := by kernel_rfl
theorem gPowType : (Tryz.prog.globals[4]?).map (·.type) = some 280 := by kernel_rfl

section
variable {H : Type} {enc : TypeId × Value → H}

set_option maxRecDepth 100000 in
/-- An argument of type Dec, opened. -/
theorem open_dec {r : Reach} {b0 : Nat} {W : World} {v : Value} {d : DataW H} {p : List MemPlace} (hv : Value.okWide Tryz.prog W r b0 24 v) (h : DataW.Trod enc Tryz.prog W 0 (fun _ => true) true 24 v d p) :
    ∃ (g : Bool) (a : Option Addr) (cap : Nat) (e : Int) (xs : List Nat), v = .agg #[.bool g, .slice a xs.length cap, .int .i64 e] ∧ U32 W a xs ∧ -9223372036854775808 ≤ e ∧ e ≤ 9223372036854775807 ∧ xs.length ≤ maxLen := by
  obtain ⟨v0, v1, v2, y0, y1, y2, n, rfl, _, _, h0, h1, h2⟩ := open_agg3 Tryz.underlying24 (by kernel_rfl) cellsDec hv h
  obtain ⟨g, e0, _⟩ := DataW.trod_bool Tryz.underlying4 h0
  obtain ⟨e, e2, _, hw⟩ := DataW.trod_int Tryz.underlying3 h2
  simp only [List.cons.injEq, and_true] at e0 e2
  subst e0 e2
  have he : -9223372036854775808 ≤ e ∧ e ≤ 9223372036854775807 := by
    simp only [Lit.wf, Bool.and_eq_true, decide_eq_true_eq] at hw
    rw [show IntKind.i64.min = -9223372036854775808 by decide, show IntKind.i64.max = 9223372036854775807 by decide] at hw
    exact hw
  rcases open_ints Tryz.underlying22 Tryz.underlying82 cellsU32 h1 with ⟨e1, _⟩ | ⟨a, len, cap, zs, e1, _, hlc, hcm, hzl, _, hcell, hwf⟩
  · simp only [List.cons.injEq, and_true] at e1
    subst e1
    exact ⟨g, none, 0, e, [], rfl, ⟨Row.nil _ _, fun x hx => by simp at hx⟩, he.1, he.2, Nat.zero_le _⟩
  · simp only [List.cons.injEq, and_true] at e1
    subst e1
    simp only [if_true] at hzl
    have hz : ∀ z ∈ zs, 0 ≤ z ∧ z < 4294967296 := fun z hz => by
      have := hwf z hz
      simp only [Lit.wf, Bool.and_eq_true, decide_eq_true_eq] at this
      rw [show IntKind.u32.min = 0 by decide, show IntKind.u32.max = 4294967295 by decide] at this
      omega
    have hxl : ((zs.take len).map Int.toNat).length = len := by simp; omega
    refine ⟨g, some a, cap, e, (zs.take len).map Int.toNat, by rw [hxl], ⟨?_, ?_⟩, he.1, he.2, by rw [hxl]; omega⟩
    · intro j x hx
      have hj : j < len := by
        have := (List.getElem?_eq_some_iff.1 hx).1
        simp [u32s] at this; omega
      have hjz : j < zs.length := by omega
      have hc := hcell j hjz
      have hxe : x = .int .u32 (zs.getD j 0) := by
        have hm : zs[j] ∈ zs := List.getElem_mem hjz
        have hb := hz _ hm
        simp only [u32s, List.getElem?_map, List.getElem?_take, hj, if_true, List.getElem?_eq_getElem hjz, Option.map_some, Option.some.injEq] at hx
        rw [← hx, List.getD_eq_getElem?_getD, List.getElem?_eq_getElem hjz]
        simp only [Option.getD_some]
        rw [Int.toNat_of_nonneg hb.1]
      rw [hxe]
      have hc0 := hcell 0 (by omega)
      obtain ⟨b, off, sp⟩ := a
      cases sp with
      | none =>
        refine ⟨b, off, rfl, ?_⟩
        rw [← hc]
        unfold Addr.add
        split
        · rename_i h0; subst h0; rfl
        · rfl
      | some q =>
        simp only [Addr.add, if_true] at hc0
        unfold World.cell? at hc0
        split at hc0
        · simp at hc0
        · cases hc0
    · intro x hx
      obtain ⟨z, hz', rfl⟩ := List.mem_map.1 hx
      have := hz z (List.mem_of_mem_take hz')
      omega

/-- All arguments read behind the call as before. -/
theorem trodAll_stays {W W' : World} (hb : Below W.heap.size W W') : ∀ {ts : List TypeId} {vs : List Value} {ds : List (DataW H)} {ps : List MemPlace}, (∀ t ∈ ts, Tryz.prog.readableRec t = true ∧ t < Tryz.prog.types.size) →
    DataW.TrodAll enc Tryz.prog W 0 (fun _ => true) true ts vs ds ps → (∀ x ∈ ps, x.block < W.heap.size) → DataW.TrodAll enc Tryz.prog W' 0 (fun b => decide (b < W.heap.size)) true ts vs ds ps
  | [], vs, ds, ps, _, h, _ => by
    obtain ⟨rfl, rfl, rfl⟩ := trodAll_nil h
    exact trodAll_mk0
  | t :: ts, vs, ds, ps, ht, h, hlt => by
    obtain ⟨v, vs1, d, ds1, a, b, rfl, rfl, rfl, h1, h2⟩ := trodAll_cons h
    have h3 := Below.trod laidOutP (ht t (by simp)).1 (ht t (by simp)).2 h1 hb (fun x hx => hlt x (List.mem_append_left _ hx))
    have h4 := trodAll_stays hb (fun u hu => ht u (by simp [hu])) h2 (fun x hx => hlt x (List.mem_append_right _ hx))
    exact trodAll_cons_mk h3 h4
end

/-- The list gives the table of powers. -/
theorem pow_of {l : List (String × DataW Unit)} {W : World} (h : laidMetH Tryz.prog l W)
    (hf : (l.filter fun x => x.1 == "internal/strconv.uint64pow10") = [("internal/strconv.uint64pow10", Lib.tabData .u64 Lib.pow10Tab)]) : Pow W := by
  have h2 := (laidMetH_iff.1 (h.filter fun x => x.1 == "internal/strconv.uint64pow10")).1
  rw [hf] at h2
  exact Lib.tabIs_of_head (rest := []) gPow gPowType Tryz.underlying280 Tryz.underlying223 cellsU64 cellsPow h2

/- A world for the witness. -/
def val1 : DataW Unit → Value
  | .lit (.int k n) => .int k n
  | .lit (.string l) => .string ⟨l.toArray⟩
  | _ => undef
def vals1 : DataW Unit → List Value
  | .agg xs => xs.map val1
  | d => [val1 d]
def vals2 : DataW Unit → Array Value
  | .agg xs => (xs.flatMap vals1).toArray
  | _ => #[]
def put (h : Array Obj) (g : Nat) (cs : Array Value) : Array Obj := h.modify g fun
  | .cells _ t frozen => .cells cs t frozen
  | o => o
def errText (d : DataW Unit) : Value := match d with
  | .iface _ (.ptr (.agg [.lit (.string l)])) => .string ⟨l.toArray⟩
  | _ => undef

end Go.Proofs.YtafeofgjmlhklaaGreatDoor
