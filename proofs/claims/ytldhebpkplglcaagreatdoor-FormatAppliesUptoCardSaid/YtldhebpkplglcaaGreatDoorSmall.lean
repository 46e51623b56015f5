/- Values whose rows and texts are short; a number that may be is taken as it stands. -/
import Derived.Test.YtldhebpkplglcaaGreatDoorMm
import Derived.Test.YtldhebpkplglcaaGreatDoorMe
namespace Go.Proofs.YtldhebpkplglcaaGreatDoor

/-- Values whose rows and texts are short, all the way down. -/
inductive SmallV : JV → Prop
  | mk (v : JV) (h1 : v.arr.length ≤ 1048576) (h2 : v.obj.length ≤ 1048576) (h3 : v.s.length ≤ 1048576) (h4 : ∀ x ∈ v.arr, SmallV x) (h5 : ∀ p ∈ v.obj, p.1.length ≤ 1048576) (h6 : ∀ p ∈ v.obj, SmallV p.2) : SmallV v
theorem SmallV.obj {v : JV} (h : SmallV v) : v.obj.length ≤ 1048576 := by cases h; assumption
theorem SmallV.arr {v : JV} (h : SmallV v) : ∀ x ∈ v.arr, SmallV x := by cases h; assumption
theorem SmallV.flds {v : JV} (h : SmallV v) : ∀ p ∈ v.obj, SmallV p.2 := by cases h; assumption

theorem may_taken {n : Nat} {v : JV} (h : mayJ n v = true) (hk : v.kind = 3) : takenE v.g v.ls.length (Num.worth v.ls) v.e = 0 ∧ takenD v.g v.ls.length (Num.worth v.ls) v.e = dOf v := by
  have h1 := may_base h
  simp only [baseB, Bool.and_eq_true] at h1
  have h2 := h1.1.1.1.2
  rw [if_pos hk] at h2
  unfold mayB at h2
  simp only [decide_eq_true_eq] at h2
  obtain ⟨e1, e2, e3, e4⟩ := h2
  refine ⟨e1, ?_⟩
  have e6 : (takenD v.g v.ls.length (Num.worth v.ls) v.e).m = Num.worth v.ls := by
    have := congrArg Num.worth e4
    rw [Num.worth_limbs] at this
    exact this
  generalize takenD v.g v.ls.length (Num.worth v.ls) v.e = d at *
  obtain ⟨dg, dm, de⟩ := d
  simp only at e2 e3 e6
  subst e2 e3 e6
  rfl

end Go.Proofs.YtldhebpkplglcaaGreatDoor
