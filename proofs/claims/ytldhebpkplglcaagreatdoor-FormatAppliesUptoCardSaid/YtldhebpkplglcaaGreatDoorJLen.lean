/- How long a value's text is. Plain. -/
import Derived.Test.YtldhebpkplglcaaGreatDoorGc
import Derived.Test.YtldhebpkplglcaaGreatDoorSmall
import Derived.Test.YtldhebpkplglcaaGreatDoorMi
namespace Go.Proofs.YtldhebpkplglcaaGreatDoor

/-- How much stands in a value, so many levels down. -/
def sizJ : Nat → JV → Nat
  | 0, v => 1 + v.s.length
  | f + 1, v => 1 + v.s.length + (v.arr.map fun x => sizJ f x + 1).sum + (v.obj.map fun p => p.1.length + 1 + sizJ f p.2).sum
theorem siz_ge : ∀ (f : Nat) (v : JV), 1 + v.s.length ≤ sizJ f v
  | 0, _ => Nat.le_refl _
  | f + 1, v => by rw [sizJ]; omega
theorem comma_len (g : List UInt8 → Nat) (hg : ∀ x, x.length + 1 ≤ g x) : ∀ l : List (List UInt8), (commaL l).length ≤ (l.map g).sum
  | [] => by simp [commaL]
  | [x] => by have := hg x; simp [commaL]; omega
  | x :: y :: l => by
    have h1 := comma_len g hg (y :: l)
    have h2 := hg x
    rw [commaL, List.length_append, List.length_cons, List.map_cons, List.sum_cons]
    · omega
    · intro h; cases h
theorem sum_le_of {α : Type} (f g : α → Nat) : ∀ l : List α, (∀ x ∈ l, f x ≤ g x) → (l.map f).sum ≤ (l.map g).sum
  | [], _ => Nat.le_refl _
  | x :: l, h => by
    have h1 := h x (by simp)
    have h2 := sum_le_of f g l (fun y hy => h y (by simp [hy]))
    rw [List.map_cons, List.map_cons, List.sum_cons, List.sum_cons]
    omega
theorem sum_mul (k : Nat) : ∀ l : List Nat, (l.map fun x => k * x).sum = k * l.sum
  | [] => by simp
  | x :: l => by rw [List.map_cons, List.sum_cons, List.sum_cons, sum_mul k l, Nat.mul_add]
theorem num_len {v : JV} {f : Nat} (h : mayJ f v = true) (hk : v.kind = 3) : (textL (dOf v)).length ≤ 1000 := by
  obtain ⟨h1, h2⟩ := may_taken h hk
  obtain ⟨_, h3, h4⟩ := taken_zero h1
  rw [h2] at h3
  rw [← h3] at h4
  refine (text_parse ?_ h4).2
  rw [h3]
  exact plainD_plain _ _ _
/-- A value's text is not longer than its size tells. -/
theorem json_len : ∀ (f : Nat) (v : JV), mayJ f v = true → (jsonJ f v).length ≤ 1000 * sizJ f v := by
  intro f
  induction f with
  | zero =>
    intro v h
    have h0 := siz_ge 0 v
    unfold jsonJ
    split
    · simp [nullT]; omega
    split
    · simp [falseT]; omega
    split
    · simp [trueT]; omega
    split
    · have := num_len h ‹_›; omega
    split
    · have := quoteA_len false v.s; omega
    show (if v.kind = 5 then [91, 93] else [123, 125] : List UInt8).length ≤ _
    split <;> (simp; omega)
  | succ f ih =>
    intro v h
    have h0 := siz_ge (f + 1) v
    unfold jsonJ
    split
    · simp [nullT]; omega
    split
    · simp [falseT]; omega
    split
    · simp [trueT]; omega
    split
    · have := num_len h ‹_›; omega
    split
    · have := quoteA_len false v.s; omega
    have hm : (∀ x ∈ v.arr, mayJ f x = true) ∧ ∀ p ∈ v.obj, mayJ f p.2 = true := by
      rw [mayJ] at h
      simp only [Bool.and_eq_true, List.all_eq_true] at h
      exact ⟨h.1.1.2, fun p hp => (h.1.2 p hp).2⟩
    have hs : sizJ (f + 1) v = 1 + v.s.length + (v.arr.map fun x => sizJ f x + 1).sum + (v.obj.map fun p => p.1.length + 1 + sizJ f p.2).sum := rfl
    show (if v.kind = 5 then 91 :: (commaL (v.arr.map (jsonJ f)) ++ [93]) else 123 :: (commaL (v.obj.map fun p => quoteA false p.1 ++ 58 :: jsonJ f p.2) ++ [125])).length ≤ _
    split
    · have h1 := comma_len (fun x => x.length + 1) (fun x => Nat.le_refl _) (v.arr.map (jsonJ f))
      rw [List.map_map] at h1
      have h2 := sum_le_of ((fun x : List UInt8 => x.length + 1) ∘ jsonJ f) (fun x => 1000 * (sizJ f x + 1)) v.arr (fun x hx => by
        have := ih x (hm.1 x hx)
        show (jsonJ f x).length + 1 ≤ _
        omega)
      have h3 := sum_mul 1000 (v.arr.map fun x => sizJ f x + 1)
      rw [List.map_map] at h3
      rw [List.length_cons, List.length_append, List.length_singleton]
      have h4 : (v.arr.map ((fun x => 1000 * x) ∘ fun x => sizJ f x + 1)).sum = (v.arr.map fun x => 1000 * (sizJ f x + 1)).sum := rfl
      omega
    · have h1 := comma_len (fun x => x.length + 1) (fun x => Nat.le_refl _) (v.obj.map fun p => quoteA false p.1 ++ 58 :: jsonJ f p.2)
      rw [List.map_map] at h1
      have h2 := sum_le_of ((fun x : List UInt8 => x.length + 1) ∘ fun p : List UInt8 × JV => quoteA false p.1 ++ 58 :: jsonJ f p.2) (fun p => 1000 * (p.1.length + 1 + sizJ f p.2)) v.obj (fun p hp => by
        have := ih p.2 (hm.2 p hp)
        have h5 := quoteA_len false p.1
        show (quoteA false p.1 ++ 58 :: jsonJ f p.2).length + 1 ≤ _
        rw [List.length_append, List.length_cons]
        omega)
      have h3 := sum_mul 1000 (v.obj.map fun p => p.1.length + 1 + sizJ f p.2)
      rw [List.map_map] at h3
      rw [List.length_cons, List.length_append, List.length_singleton]
      have h4 : (v.obj.map ((fun x => 1000 * x) ∘ fun p : List UInt8 × JV => p.1.length + 1 + sizJ f p.2)).sum = (v.obj.map fun p => 1000 * (p.1.length + 1 + sizJ f p.2)).sum := rfl
      omega

end Go.Proofs.YtldhebpkplglcaaGreatDoor
