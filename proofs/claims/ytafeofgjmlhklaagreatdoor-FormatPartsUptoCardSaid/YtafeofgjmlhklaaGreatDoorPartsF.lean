/- What FormatParts asks of cut texts: plain laws. -/
import Derived.Test.YtafeofgjmlhklaaGreatDoorFg
import Derived.Test.YtafeofgjmlhklaaGreatDoorFe
namespace Go.Proofs.YtafeofgjmlhklaaGreatDoor

theorem join_snoc (y p : List UInt8) : ∀ l : List (List UInt8), joinL y (l ++ [p]) = if l = [] then p else joinL y l ++ y ++ p
  | [] => by simp [joinL]
  | [a] => by simp [joinL]
  | a :: b :: l => by
    have h := join_snoc y p (b :: l)
    rw [if_neg (by simp)] at h
    rw [if_neg (by simp)]
    show a ++ y ++ joinL y (b :: l ++ [p]) = _
    rw [h]
    simp [joinL, List.append_assoc]
theorem join_part (y : List UInt8) : ∀ (l : List (List UInt8)), ∀ p ∈ l, p.length ≤ (joinL y l).length
  | [a], p, h => by
    rw [List.mem_singleton.1 h]
    exact Nat.le_refl _
  | a :: b :: l, p, h => by
    show _ ≤ (a ++ y ++ joinL y (b :: l)).length
    rw [List.length_append, List.length_append]
    rcases List.mem_cons.1 h with rfl | h
    · omega
    · have := join_part y (b :: l) p h
      omega
theorem join_take (y : List UInt8) : ∀ (l : List (List UInt8)) (k : Nat), (joinL y (l.take k)).length ≤ (joinL y l).length
  | [], k => by simp [joinL]
  | [a], 0 => by simp [joinL]
  | [a], k + 1 => by simp [joinL]
  | a :: b :: l, 0 => by simp [joinL]
  | a :: b :: l, 1 => by
    show (joinL y [a]).length ≤ (a ++ y ++ joinL y (b :: l)).length
    rw [List.length_append, List.length_append]
    show a.length ≤ _
    omega
  | a :: b :: l, k + 2 => by
    have h := join_take y (b :: l) (k + 1)
    show (a ++ y ++ joinL y (b :: l.take k)).length ≤ (a ++ y ++ joinL y (b :: l)).length
    rw [List.length_append, List.length_append, List.length_append, List.length_append]
    have h2 : (joinL y (b :: l.take k)).length ≤ (joinL y (b :: l)).length := h
    omega
theorem join_nil : ∀ l : List (List UInt8), joinL [] l = l.flatten
  | [] => rfl
  | [a] => by simp [joinL]
  | a :: b :: l => by
    show a ++ [] ++ joinL [] (b :: l) = _
    rw [join_nil (b :: l)]
    simp
theorem flat_enc : ∀ ps : List Nat, (ps.map encU).flatten = u8L (encs ps)
  | [] => rfl
  | p :: ps => by
    rw [List.map_cons, List.flatten_cons, flat_enc ps, encs_cons]
    unfold u8L encU
    rw [List.map_append]
    rfl
/-- What the parts are together. -/
theorem join_splitP (s y : List UInt8) : joinL y (splitP s y) = if y = [] then cleanL s else s := by
  unfold splitP
  by_cases h : s = []
  · subst h
    rw [if_pos rfl]
    by_cases hy : y = []
    · rw [if_pos hy]; rfl
    · rw [if_neg hy]; rfl
  · rw [if_neg h]
    by_cases hy : y = []
    · subst hy
      rw [if_pos rfl, if_pos rfl, join_nil, flat_enc]
      rfl
    · rw [if_neg hy, if_neg hy]
      exact join_split y s.length s
theorem part_one {s y : List UInt8} (hy : y ≠ []) : ∀ p ∈ splitP s y, (splitP p y).length ≤ 1 := by
  intro p hp
  unfold splitP at hp
  by_cases h : s = []
  · rw [if_pos h] at hp; cases hp
  · rw [if_neg h, if_neg hy] at hp
    have h1 := split_none hy s.length s (Nat.le_refl _) p hp
    unfold splitP
    by_cases h2 : p = []
    · rw [if_pos h2]; simp
    · rw [if_neg h2, if_neg hy, split_miss h1]
      simp
theorem case_back (s : List UInt8) : caseL false (caseL true (caseL false s)) = caseL false s := by
  unfold caseL
  rw [List.map_map, List.map_map]
  refine List.map_congr_left fun c _ => ?_
  exact caseB_back c
theorem bytes_app (a b : List UInt8) : (⟨a.toArray⟩ : ByteArray) ++ ⟨b.toArray⟩ = ⟨(a ++ b).toArray⟩ := by
  refine ByteArray.ext (Array.toList_inj.1 ?_)
  simp

end Go.Proofs.YtafeofgjmlhklaaGreatDoor
