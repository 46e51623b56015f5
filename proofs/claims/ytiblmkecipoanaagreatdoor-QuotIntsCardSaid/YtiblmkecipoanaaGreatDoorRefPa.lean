/- A row of one cell ahead of another: append(T{u}, y...). -/
import Derived.Test.YtiblmkecipoanaaGreatDoorBase
namespace Go.Proofs.YtiblmkecipoanaaGreatDoor
open Go.RowKit

section
variable {P : Program} {ops : Array Oper} {rest : List Oper} {o : Oper} {a : Act} {Q : Exit → Act → World → Prop}
theorem own_one (w : World) (e : TypeId) (u : Value) : (w.alloc (.cells #[u] e)).ownsRow w.heap.size e 1 (.slice (some ⟨w.heap.size, 0, none⟩) 1 1) 1 [u] :=
  ⟨rfl, .inr ⟨w.heap.size, 1, #[u], rfl, Nat.le_refl _, blk_new w _, Nat.le_refl _, by unfold maxLen; omega, rfl, rfl⟩⟩
/-- 'append(T{u}, y...)': u has just been laid in a new cell. -/
theorem wpList_before {w : World} {t e : TypeId} {z : Value} {bytes : Nat} (he : SliceOf P t e z bytes) (hg : o.guard = none) (s x : Operand) (hop : o.op = Op.call { callee := Callee.builtin Builtin.append, args := #[s, x], argTypes := #[t, t] })
    {u : Value} (hs : a.eval s = .slice (some ⟨w.heap.size, 0, none⟩) 1 1) {ao : Option Addr} {m c : Nat} {ys : List Value} (hx : a.eval x = .slice ao m c) (hrow : Row w ao ys) (hl : ys.length = m) (hnone : ao = none → c = 0) (hu : ∀ u ∈ ys, u.oneCell' = true)
    (hm : 1 + m ≤ maxLen) (hn : (1 + m) * bytes ≤ 140737488355328)
    (hK : ∀ v' w', w'.ownsRow w.heap.size e 1 v' (1 + m) (u :: ys) → Below w.heap.size w w' → wpList P ops Q rest (a.put o.dst v') w') :
    wpList P ops Q (o :: rest) a (w.alloc (.cells #[u] e)) := by
  have hb := (Below.refl w.heap.size w).alloc (Nat.le_refl _) (.cells #[u] e)
  refine wpList_extend he hg s x hop w.heap.size (own_one w e u) hs hx (hrow.below hb) hl hnone hu hm hn (by simp) ?_
  intro v' w' h1 h2
  exact hK v' w' h1 (hb.trans h2)
end

end Go.Proofs.YtiblmkecipoanaaGreatDoor
