/- base64, %-signs, letters turned: plain laws for chapter 20. Nothing is walked here. Texts cut by others: plain laws for chapter 20, over the library's Index and Cut. Nothing is walked here. base64 read back: the program's way and the document's are one; bytes replaced one by one. Plain laws for chapter 20. Bytes replaced one by one; %-signs. Plain laws for chapter 20. Where a text stands in another one: code points and bytes tell the same places. Plain laws for chapter 20. A text at either end of another one. Plain laws for chapter 20. -/
import Derived.Test.YtldhebpkplglcaaGreatDoorNB
import Derived.Test.YtldhebpkplglcaaGreatDoorMj
import Derived.Lib.IndexMore
import Derived.Lib.TrimByte
import Derived.Lib.Replace
namespace Go.Proofs.YtldhebpkplglcaaGreatDoor

/-- The signs of base64. -/
def signL : List UInt8 := [65, 66, 67, 68, 69, 70, 71, 72, 73, 74, 75, 76, 77, 78, 79, 80, 81, 82, 83, 84, 85, 86, 87, 88, 89, 90, 97, 98, 99, 100, 101, 102, 103, 104, 105, 106, 107, 108, 109, 110, 111, 112, 113, 114, 115, 116, 117, 118, 119, 120, 121, 122, 48, 49, 50, 51, 52, 53, 54, 55, 56, 57, 43, 47]
def sgnB (n : Nat) : UInt8 := signL.getD n 0
/-- What a sign is worth. -/
def signIx (c : UInt8) : Option Nat := signL.findIdx? (· == c)
theorem signIx_sgnB : ∀ n, n < 64 → signIx (sgnB n) = some n := by decide +kernel
theorem sgnB_not_eq : ∀ n, n < 64 → sgnB n ≠ 61 := by decide +kernel
theorem sgnB_range : ∀ n, n < 64 → 43 ≤ (sgnB n).toNat ∧ (sgnB n).toNat ≤ 122 := by decide +kernel
/-- Bytes as signs of six bits. -/
def b64 : List UInt8 → List UInt8
  | [] => []
  | [a] => [sgnB (a.toNat / 4), sgnB (a.toNat % 4 * 16), 61, 61]
  | [a, b] => [sgnB (a.toNat / 4), sgnB (a.toNat % 4 * 16 + b.toNat / 16), sgnB (b.toNat % 16 * 4), 61]
  | a :: b :: c :: r => sgnB (a.toNat / 4) :: sgnB (a.toNat % 4 * 16 + b.toNat / 16) :: sgnB (b.toNat % 16 * 4 + c.toNat / 64) :: sgnB (c.toNat % 64) :: b64 r
theorem b64_len : ∀ s : List UInt8, (b64 s).length = (s.length + 2) / 3 * 4
  | [] => by simp [b64]
  | [a] => by simp [b64]
  | [a, b] => by simp [b64]
  | a :: b :: c :: r => by
    simp only [b64, List.length_cons]
    rw [b64_len r]
    omega
theorem u8_lt (a : UInt8) : a.toNat < 256 := a.toNat_lt
theorem b64_range : ∀ (s : List UInt8), ∀ c ∈ b64 s, 43 ≤ c.toNat ∧ c.toNat ≤ 122
  | [], c, h => by cases h
  | [a], c, h => by
    have := u8_lt a
    simp only [b64, List.mem_cons, List.not_mem_nil, or_false] at h
    rcases h with rfl | rfl | rfl | rfl
    · exact sgnB_range _ (by omega)
    · exact sgnB_range _ (by omega)
    · decide
    · decide
  | [a, b], c, h => by
    have := u8_lt a
    have := u8_lt b
    simp only [b64, List.mem_cons, List.not_mem_nil, or_false] at h
    rcases h with rfl | rfl | rfl | rfl
    · exact sgnB_range _ (by omega)
    · exact sgnB_range _ (by omega)
    · exact sgnB_range _ (by omega)
    · decide
  | a :: b :: d :: r, c, h => by
    have := u8_lt a
    have := u8_lt b
    have := u8_lt d
    simp only [b64, List.mem_cons] at h
    rcases h with rfl | rfl | rfl | rfl | h
    · exact sgnB_range _ (by omega)
    · exact sgnB_range _ (by omega)
    · exact sgnB_range _ (by omega)
    · exact sgnB_range _ (by omega)
    · exact b64_range r c h
/-- Signs read: what is left of bits (fewer than 8), the signs. none: a sign is none. -/
def debL : Nat → Nat → List UInt8 → Option (List UInt8)
  | _, _, [] => some []
  | n, h, c :: s =>
    match signIx c with
    | none => none
    | some w => if 8 ≤ h + 6 then (debL ((n * 64 + w) % 2 ^ (h - 2)) (h - 2) s).map (UInt8.ofNat ((n * 64 + w) / 2 ^ (h - 2)) :: ·) else debL (n * 64 + w) (h + 6) s
/-- Without the = at its end. -/
def bareL (s : List UInt8) : List UInt8 := (s.reverse.dropWhile (· == 61)).reverse
theorem u8_back (a : UInt8) (n : Nat) (h : n = a.toNat) : UInt8.ofNat n = a := by rw [h]; exact UInt8.ofNat_toNat
theorem deb_one (a : UInt8) : debL 0 0 [sgnB (a.toNat / 4), sgnB (a.toNat % 4 * 16)] = some [a] := by
  have := u8_lt a
  simp only [debL]
  rw [signIx_sgnB _ (by omega), signIx_sgnB _ (by omega)]
  simp only [Nat.reduceAdd, Nat.reduceLeDiff, if_false, if_true, Nat.reduceSub, Option.map_some]
  rw [u8_back a _ (by omega)]
theorem deb_two (a b : UInt8) : debL 0 0 [sgnB (a.toNat / 4), sgnB (a.toNat % 4 * 16 + b.toNat / 16), sgnB (b.toNat % 16 * 4)] = some [a, b] := by
  have := u8_lt a
  have := u8_lt b
  simp only [debL]
  rw [signIx_sgnB _ (by omega), signIx_sgnB _ (by omega), signIx_sgnB _ (by omega)]
  simp only [Nat.reduceAdd, Nat.reduceLeDiff, if_false, if_true, Nat.reduceSub, Option.map_some]
  rw [u8_back a _ (by omega), u8_back b _ (by omega)]
theorem deb_three (a b c : UInt8) (r : List UInt8) : debL 0 0 (sgnB (a.toNat / 4) :: sgnB (a.toNat % 4 * 16 + b.toNat / 16) :: sgnB (b.toNat % 16 * 4 + c.toNat / 64) :: sgnB (c.toNat % 64) :: r) = (debL 0 0 r).map (fun t => a :: b :: c :: t) := by
  have := u8_lt a
  have := u8_lt b
  have := u8_lt c
  simp only [debL]
  rw [signIx_sgnB _ (by omega), signIx_sgnB _ (by omega), signIx_sgnB _ (by omega), signIx_sgnB _ (by omega)]
  simp only [Nat.reduceAdd, Nat.reduceLeDiff, if_false, if_true, Nat.reduceSub, Option.map_map, Nat.pow_zero, Nat.mod_one, Nat.div_one]
  rw [u8_back a _ (by omega), u8_back b _ (by omega), u8_back c _ (by omega)]
  rfl
/-- The signs alone, without the = at their end. -/
def b64B : List UInt8 → List UInt8
  | [] => []
  | [a] => [sgnB (a.toNat / 4), sgnB (a.toNat % 4 * 16)]
  | [a, b] => [sgnB (a.toNat / 4), sgnB (a.toNat % 4 * 16 + b.toNat / 16), sgnB (b.toNat % 16 * 4)]
  | a :: b :: c :: r => sgnB (a.toNat / 4) :: sgnB (a.toNat % 4 * 16 + b.toNat / 16) :: sgnB (b.toNat % 16 * 4 + c.toNat / 64) :: sgnB (c.toNat % 64) :: b64B r
theorem deb_b64 : ∀ s : List UInt8, debL 0 0 (b64B s) = some s
  | [] => rfl
  | [a] => deb_one a
  | [a, b] => deb_two a b
  | a :: b :: c :: r => by
    rw [b64B, deb_three, deb_b64 r]
    rfl

/-- Letters turned. -/
def caseB (up : Bool) (c : UInt8) : UInt8 := if up = true ∧ 97 ≤ c.toNat ∧ c.toNat ≤ 122 then c - 32 else if up = false ∧ 65 ≤ c.toNat ∧ c.toNat ≤ 90 then c + 32 else c
theorem caseB_xor : ∀ (up : Bool) (c : UInt8), caseB up c = if (up = true ∧ 97 ≤ c.toNat ∧ c.toNat ≤ 122) ∨ (up = false ∧ 65 ≤ c.toNat ∧ c.toNat ≤ 90) then c ^^^ 32 else c := by
  have h : ∀ (up : Bool) (n : Nat), n < 256 → caseB up (UInt8.ofNat n) = if (up = true ∧ 97 ≤ (UInt8.ofNat n).toNat ∧ (UInt8.ofNat n).toNat ≤ 122) ∨ (up = false ∧ 65 ≤ (UInt8.ofNat n).toNat ∧ (UInt8.ofNat n).toNat ≤ 90) then UInt8.ofNat n ^^^ 32 else UInt8.ofNat n := by decide +kernel
  intro up c
  have := h up c.toNat (u8_lt c)
  rwa [UInt8.ofNat_toNat] at this
/-- Turned down, up and down again. -/
theorem caseB_back : ∀ c : UInt8, caseB false (caseB true (caseB false c)) = caseB false c := by
  have h : ∀ n : Nat, n < 256 → caseB false (caseB true (caseB false (UInt8.ofNat n))) = caseB false (UInt8.ofNat n) := by decide +kernel
  intro c
  have := h c.toNat (u8_lt c)
  rwa [UInt8.ofNat_toNat] at this

end Go.Proofs.YtldhebpkplglcaaGreatDoor

namespace Go.Proofs.YtldhebpkplglcaaGreatDoor
open Go.Lib

/-- The parts of a text, cut by one that is not empty; so many cuts at most. -/
def splitF (y : List UInt8) : Nat → List UInt8 → List (List UInt8)
  | 0, s => [s]
  | f + 1, s => if index s y = -1 then [s] else s.take (index s y).toNat :: splitF y f (s.drop ((index s y).toNat + y.length))
def splitL (y s : List UInt8) : List (List UInt8) := splitF y s.length s
theorem splitF_fuel {y : List UInt8} (hy : y ≠ []) : ∀ (f g : Nat) (s : List UInt8), s.length ≤ f → s.length ≤ g → splitF y f s = splitF y g s
  | 0, 0, s, _, _ => rfl
  | 0, g + 1, s, hf, _ => by
    obtain rfl := List.length_eq_zero_iff.1 (Nat.le_zero.1 hf)
    have : index [] y = -1 := by
      unfold index
      rw [if_neg (by simpa using hy)]
    simp only [splitF]
    rw [if_pos this]
  | f + 1, 0, s, _, hg => by
    obtain rfl := List.length_eq_zero_iff.1 (Nat.le_zero.1 hg)
    have : index [] y = -1 := by
      unfold index
      rw [if_neg (by simpa using hy)]
    simp only [splitF]
    rw [if_pos this]
  | f + 1, g + 1, s, hf, hg => by
    simp only [splitF]
    by_cases h : index s y = -1
    · rw [if_pos h, if_pos h]
    · rw [if_neg h, if_neg h]
      congr 1
      have h1 := index_ge s y
      have h2 := index_room s y (by omega)
      have h3 : 0 < y.length := List.length_pos_iff.2 hy
      exact splitF_fuel hy f g _ (by rw [List.length_drop]; omega) (by rw [List.length_drop]; omega)
/-- One cut. -/
theorem split_hit {y s : List UInt8} (hy : y ≠ []) {i : Nat} (h : index s y = i) : splitL y s = s.take i :: splitL y (s.drop (i + y.length)) := by
  have h2 := index_room s y (by omega)
  have h3 : 0 < y.length := List.length_pos_iff.2 hy
  obtain ⟨n, hn⟩ : ∃ n, s.length = n + 1 := ⟨s.length - 1, by omega⟩
  unfold splitL
  rw [hn]
  simp only [splitF]
  rw [if_neg (by omega), h]
  simp only [Int.toNat_natCast]
  congr 1
  exact splitF_fuel hy _ _ _ (by rw [List.length_drop]; omega) (Nat.le_refl _)
theorem split_miss {y s : List UInt8} (h : index s y = -1) : splitL y s = [s] := by
  unfold splitL
  cases hs : s.length with
  | zero => rfl
  | succ n => simp only [splitF]; rw [if_pos h]
/-- What the document's scan is told: from where the last part began, nowhere before this place. -/
theorem occ_drop (s y : List UInt8) (a j : Nat) : occAt (s.drop a) y j = occAt s y (a + j) := by
  unfold occAt
  rw [List.drop_drop]
theorem scan_hit {y s : List UInt8} (hy : y ≠ []) {a k : Nat} (hak : a ≤ k) (hk : k ≤ s.length) (ho : occAt s y k = true) (hn : ∀ j, a ≤ j → j < k → occAt s y j = false) :
    splitL y (s.drop a) = (s.drop a).take (k - a) :: splitL y (s.drop (k + y.length)) := by
  have h : index (s.drop a) y = ((k - a : Nat) : Int) := index_first (by rw [List.length_drop]; omega) (by rw [occ_drop, show a + (k - a) = k by omega]; exact ho) (fun j hj => by rw [occ_drop]; exact hn _ (by omega) (by omega))
  rw [split_hit hy h, List.drop_drop, show a + (k - a + y.length) = k + y.length by omega]
theorem occ_room {s y : List UInt8} {k : Nat} (h : occAt s y k = true) : y = [] ∨ k + y.length ≤ s.length := by
  unfold occAt at h
  have h1 := (List.isPrefixOf_iff_prefix.1 h).length_le
  rw [List.length_drop] at h1
  cases y with
  | nil => exact Or.inl rfl
  | cons c y => right; simp only [List.length_cons] at h1 ⊢; omega
theorem scan_miss {y s : List UInt8} (hy : y ≠ []) {a : Nat} (hn : ∀ j, a ≤ j → j + y.length ≤ s.length → occAt s y j = false) : splitL y (s.drop a) = [s.drop a] := by
  refine split_miss (index_none fun j hj => ?_)
  rw [occ_drop]
  cases h : occAt s y (a + j) with
  | false => rfl
  | true =>
    rcases occ_room h with e | e
    · exact absurd e hy
    · rw [hn _ (by omega) e] at h
      cases h
/-- Parts with what was between them. -/
def joinL (y : List UInt8) : List (List UInt8) → List UInt8
  | [] => []
  | [p] => p
  | p :: q :: l => p ++ y ++ joinL y (q :: l)
theorem split_ne (y : List UInt8) : ∀ (f : Nat) (s : List UInt8), splitF y f s ≠ []
  | 0, s => by simp [splitF]
  | f + 1, s => by
    simp only [splitF]
    split <;> simp
theorem occ_take {s y : List UInt8} {i : Nat} (h : occAt s y i = true) : s = s.take i ++ y ++ s.drop (i + y.length) := by
  unfold occAt at h
  obtain ⟨t, ht⟩ := List.isPrefixOf_iff_prefix.1 h
  rw [← List.drop_drop, ← ht, List.drop_left, List.append_assoc, ht, List.take_append_drop]
theorem join_split (y : List UInt8) : ∀ (f : Nat) (s : List UInt8), joinL y (splitF y f s) = s
  | 0, s => rfl
  | f + 1, s => by
    simp only [splitF]
    by_cases h : index s y = -1
    · rw [if_pos h]; rfl
    · rw [if_neg h]
      rcases index_spec s y with ⟨h1, _⟩ | ⟨i, h1, h2, h3, h4⟩
      · exact absurd h1 h
      · rw [h1, Int.toNat_natCast]
        obtain ⟨p, l, e⟩ : ∃ p l, splitF y f (s.drop (i + y.length)) = p :: l := by
          cases hh : splitF y f (s.drop (i + y.length)) with
          | nil => exact absurd hh (split_ne y f _)
          | cons p l => exact ⟨p, l, rfl⟩
        have ih := join_split y f (s.drop (i + y.length))
        rw [e] at ih ⊢
        simp only [joinL]
        rw [ih]
        first | exact (occ_take h3).symm | (have := occ_take h3; rw [← this])
/-- No part has it. -/
theorem take_miss {s y : List UInt8} (hy : y ≠ []) {i : Nat} (hn : ∀ j, j < i → occAt s y j = false) : index (s.take i) y = -1 := by
  refine index_none fun j hj => ?_
  cases h : occAt (s.take i) y j with
  | false => rfl
  | true =>
    have h3 : 0 < y.length := List.length_pos_iff.2 hy
    rcases occ_room h with e | e
    · exact absurd e hy
    · rw [List.length_take] at e
      have hj2 : j < i := by omega
      have := hn j hj2
      unfold occAt at h this
      have h1 := List.isPrefixOf_iff_prefix.1 h
      have h2 : y <+: s.drop j := by
        refine h1.trans ?_
        rw [List.drop_take]
        exact List.take_prefix _ _
      rw [List.isPrefixOf_iff_prefix.2 h2] at this
      cases this
theorem split_none {y : List UInt8} (hy : y ≠ []) : ∀ (f : Nat) (s : List UInt8), s.length ≤ f → ∀ p ∈ splitF y f s, index p y = -1
  | 0, s, hf, p, hp => by
    obtain rfl := List.length_eq_zero_iff.1 (Nat.le_zero.1 hf)
    simp only [splitF, List.mem_singleton] at hp
    subst hp
    unfold index
    rw [if_neg (by simpa using hy)]
  | f + 1, s, hf, p, hp => by
    simp only [splitF] at hp
    have h3 : 0 < y.length := List.length_pos_iff.2 hy
    rcases index_spec s y with ⟨h1, _⟩ | ⟨i, h1, h2, h4, h5⟩
    · rw [if_pos h1, List.mem_singleton] at hp
      rw [hp]; exact h1
    · rw [if_neg (by omega), h1, Int.toNat_natCast] at hp
      have h6 := index_room s y (by omega)
      rcases List.mem_cons.1 hp with e | e
      · rw [e]
        exact take_miss hy h5
      · exact split_none hy f _ (by rw [List.length_drop]; omega) p e

end Go.Proofs.YtldhebpkplglcaaGreatDoor

namespace Go.Proofs.YtldhebpkplglcaaGreatDoor
open Go.Lib

theorem b64_split : ∀ s : List UInt8, ∃ k, k ≤ 2 ∧ b64 s = b64B s ++ List.replicate k 61
  | [] => ⟨0, by omega, by simp [b64, b64B]⟩
  | [a] => ⟨2, by omega, by simp [b64, b64B, List.replicate]⟩
  | [a, b] => ⟨1, by omega, by simp [b64, b64B, List.replicate]⟩
  | a :: b :: c :: r => by
    obtain ⟨k, h1, h2⟩ := b64_split r
    exact ⟨k, h1, by simp only [b64, b64B]; rw [h2]; simp⟩
theorem b64B_no : ∀ s : List UInt8, ∀ c ∈ b64B s, c ≠ 61
  | [], c, h => by cases h
  | [a], c, h => by
    have := u8_lt a
    simp only [b64B, List.mem_cons, List.not_mem_nil, or_false] at h
    rcases h with rfl | rfl
    · exact sgnB_not_eq _ (by omega)
    · exact sgnB_not_eq _ (by omega)
  | [a, b], c, h => by
    have := u8_lt a
    have := u8_lt b
    simp only [b64B, List.mem_cons, List.not_mem_nil, or_false] at h
    rcases h with rfl | rfl | rfl
    · exact sgnB_not_eq _ (by omega)
    · exact sgnB_not_eq _ (by omega)
    · exact sgnB_not_eq _ (by omega)
  | a :: b :: d :: r, c, h => by
    have := u8_lt a
    have := u8_lt b
    have := u8_lt d
    simp only [b64B, List.mem_cons] at h
    rcases h with rfl | rfl | rfl | rfl | h
    · exact sgnB_not_eq _ (by omega)
    · exact sgnB_not_eq _ (by omega)
    · exact sgnB_not_eq _ (by omega)
    · exact sgnB_not_eq _ (by omega)
    · exact b64B_no r c h
/-- All = at the end, taken away. -/
theorem trim_rep (l : List UInt8) (k : Nat) (h : ∀ c ∈ l, c ≠ 61) : trimRightB (l ++ List.replicate k 61) 61 = l := by
  unfold trimRightB
  rw [List.reverse_append, List.reverse_replicate]
  have : ∀ k : Nat, (List.replicate k (61 : UInt8) ++ l.reverse).dropWhile (· == 61) = l.reverse := by
    intro k
    induction k with
    | zero =>
      rw [List.replicate_zero, List.nil_append]
      cases hl : l.reverse with
      | nil => rfl
      | cons c r =>
        have hc : c ∈ l := by
          have : c ∈ l.reverse := by rw [hl]; simp
          exact List.mem_reverse.1 this
        rw [List.dropWhile_cons_of_neg (by simpa using h c hc)]
    | succ k ih =>
      rw [List.replicate_succ, List.cons_append, List.dropWhile_cons_of_pos (by rfl)]
      exact ih
  rw [this, List.reverse_reverse]
/-- A text is what is left of it, and = behind. -/
theorem trim_parts (s : List UInt8) : ∃ k, s = trimRightB s 61 ++ List.replicate k 61 := by
  unfold trimRightB
  have : ∀ r : List UInt8, ∃ k, r = List.replicate k 61 ++ r.dropWhile (· == 61) := by
    intro r
    induction r with
    | nil => exact ⟨0, rfl⟩
    | cons c r ih =>
      by_cases h : c = 61
      · obtain ⟨k, hk⟩ := ih
        refine ⟨k + 1, ?_⟩
        rw [List.dropWhile_cons_of_pos (by simpa using h), List.replicate_succ, List.cons_append, ← hk, h]
      · exact ⟨0, by rw [List.dropWhile_cons_of_neg (by simpa using h)]; rfl⟩
  obtain ⟨k, hk⟩ := this s.reverse
  refine ⟨k, ?_⟩
  have h2 := congrArg List.reverse hk
  rw [List.reverse_reverse, List.reverse_append, List.reverse_replicate] at h2
  exact h2
theorem trim_last (s : List UInt8) : ∀ c ∈ (trimRightB s 61).getLast?, c ≠ 61 := by
  unfold trimRightB
  rw [List.getLast?_reverse]
  intro c hc
  cases h : s.reverse.dropWhile (· == 61) with
  | nil => rw [h] at hc; cases hc
  | cons d r =>
    rw [h] at hc
    injection hc with hc
    subst hc
    have := List.head?_dropWhile_not (p := fun c : UInt8 => c == 61) (l := s.reverse)
    rw [h] at this
    simpa using this
/-- Up to two = at the end, taken away. -/
def bare1 (s : List UInt8) : List UInt8 := if s.getLast? = some 61 then s.dropLast else s
def bare2 (s : List UInt8) : List UInt8 := bare1 (bare1 s)
theorem bare1_rep (l : List UInt8) (k : Nat) : bare1 (l ++ List.replicate (k + 1) 61) = l ++ List.replicate k 61 := by
  unfold bare1
  rw [List.replicate_succ', ← List.append_assoc, if_pos (by simp), List.dropLast_concat]
theorem bare1_none (l : List UInt8) (h : ∀ c ∈ l.getLast?, c ≠ 61) : bare1 l = l := by
  unfold bare1
  rw [if_neg (fun e : l.getLast? = some 61 => h 61 e rfl)]
theorem bare2_rep (l : List UInt8) (h : ∀ c ∈ l.getLast?, c ≠ 61) (k : Nat) : bare2 (l ++ List.replicate k 61) = l ++ List.replicate (k - 2) 61 := by
  unfold bare2
  match k with
  | 0 => simp only [List.replicate_zero, List.append_nil, Nat.zero_sub]; rw [bare1_none l h, bare1_none l h]
  | 1 => rw [bare1_rep]; simp only [List.replicate_zero, List.append_nil, show 1 - 2 = 0 by decide]; rw [bare1_none l h]
  | k + 2 => rw [bare1_rep, bare1_rep]; rfl
theorem last_mem {l : List UInt8} (h : ∀ c ∈ l, c ≠ 61) : ∀ c ∈ l.getLast?, c ≠ 61 := fun c hc => h c (List.mem_of_getLast? hc)
theorem bare2_b64 (s : List UInt8) : bare2 (b64 s) = b64B s := by
  obtain ⟨k, h1, h2⟩ := b64_split s
  rw [h2, bare2_rep _ (last_mem (b64B_no s)), show k - 2 = 0 by omega]
  simp
theorem trim_b64 (s : List UInt8) : trimRightB (b64 s) 61 = b64B s := by
  obtain ⟨k, _, h2⟩ := b64_split s
  rw [h2]
  exact trim_rep _ _ (b64B_no s)
theorem deb_eq : ∀ (l : List UInt8) (n h : Nat), 61 ∈ l → debL n h l = none
  | [], _, _, h => by cases h
  | c :: l, n, h, hm => by
    simp only [debL]
    by_cases hc : c = 61
    · subst hc
      rw [show signIx 61 = none by decide +kernel]
    · have hl : 61 ∈ l := by
        rcases List.mem_cons.1 hm with e | e
        · exact absurd e.symm hc
        · exact e
      cases signIx c with
      | none => rfl
      | some w =>
        dsimp only
        split
        · rw [deb_eq l _ _ hl]; rfl
        · exact deb_eq l _ _ hl
/-- What the program tells of signs, what the document does. -/
def debP (s : List UInt8) : Option (List UInt8) := (debL 0 0 (trimRightB s 61)).bind fun out => if s = b64 out ∨ s = trimRightB (b64 out) 61 then some out else none
def debR (s : List UInt8) : Option (List UInt8) := (debL 0 0 (bare2 s)).bind fun out => if b64 out = s ∨ bare2 (b64 out) = s then some out else none
theorem deb_same (s : List UInt8) : debP s = debR s := by
  obtain ⟨k, hk⟩ := trim_parts s
  have hl := trim_last s
  generalize trimRightB s 61 = l at hk hl
  have hT : trimRightB s 61 = l ∨ True := Or.inr trivial
  by_cases h2 : k ≤ 2
  · have e : bare2 s = trimRightB s 61 := by
      rw [hk, bare2_rep l hl, show k - 2 = 0 by omega, List.replicate_zero, List.append_nil]
      unfold trimRightB
      rw [List.reverse_append, List.reverse_replicate]
      have : ∀ k : Nat, (List.replicate k (61 : UInt8) ++ l.reverse).dropWhile (· == 61) = l.reverse := by
        intro k
        induction k with
        | zero =>
          rw [List.replicate_zero, List.nil_append]
          cases hr : l.reverse with
          | nil => rfl
          | cons c r =>
            have hc : c ∈ l.getLast? := by
              rw [← List.head?_reverse, hr]; rfl
            rw [List.dropWhile_cons_of_neg (by simpa using hl c hc)]
        | succ k ih =>
          rw [List.replicate_succ, List.cons_append, List.dropWhile_cons_of_pos (by rfl)]
          exact ih
      rw [this, List.reverse_reverse]
    unfold debP debR
    rw [e]
    congr 1
    funext out
    rw [trim_b64, bare2_b64]
    by_cases h : s = b64 out ∨ s = b64B out
    · rw [if_pos h, if_pos (h.imp Eq.symm Eq.symm)]
    · rw [if_neg h, if_neg fun hh => h (hh.imp Eq.symm Eq.symm)]
  · have e1 : debR s = none := by
      unfold debR
      rw [hk, bare2_rep l hl, deb_eq _ _ _ (by
        rw [show k - 2 = (k - 3) + 1 by omega, List.replicate_succ]
        simp)]
      rfl
    have e2 : debP s = none := by
      unfold debP
      cases debL 0 0 (trimRightB s 61) with
      | none => rfl
      | some out =>
        show (if s = b64 out ∨ s = trimRightB (b64 out) 61 then some out else none) = none
        rw [if_neg]
        rw [trim_b64]
        obtain ⟨j, h3, h4⟩ := b64_split out
        have key : ∀ i, i ≤ 2 → l ++ List.replicate k (61 : UInt8) ≠ b64B out ++ List.replicate i 61 := by
          intro i hi he
          have h5 : bare2 (l ++ List.replicate k 61) = bare2 (b64B out ++ List.replicate i 61) := by rw [he]
          rw [bare2_rep l hl, bare2_rep _ (last_mem (b64B_no out)), show i - 2 = 0 by omega, List.replicate_zero, List.append_nil, show k - 2 = (k - 3) + 1 by omega, List.replicate_succ'] at h5
          have h6 : (61 : UInt8) ∈ b64B out := by rw [← h5]; simp
          exact b64B_no out 61 h6 rfl
        rintro (h | h)
        · rw [hk, h4] at h
          exact key j h3 h
        · rw [hk] at h
          exact key 0 (by omega) (by simpa using h)
    rw [e1, e2]

end Go.Proofs.YtldhebpkplglcaaGreatDoor

namespace Go.Proofs.YtldhebpkplglcaaGreatDoor
open Go.Lib

/-- Each of some bytes as something else. -/
def swapL (f : UInt8 → List UInt8) (s : List UInt8) : List UInt8 := s.flatMap f
def swap1 (c : UInt8) (new : List UInt8) (b : UInt8) : List UInt8 := if b = c then new else [b]
theorem index_one_hit (c : UInt8) : ∀ (l r : List UInt8), c ∉ l → index (l ++ c :: r) [c] = l.length
  | [], r, _ => by
    rw [List.nil_append]
    unfold index
    rw [if_pos (by simp)]
    rfl
  | b :: l, r, h => by
    have hb : b ≠ c := fun e => h (by simp [e])
    have ih := index_one_hit c l r (fun hh => h (by simp [hh]))
    rw [List.cons_append]
    unfold index
    rw [if_neg (by simp [hb.symm]), ih]
    rw [if_neg (by simp)]
    simp
theorem index_one_miss (c : UInt8) : ∀ (l : List UInt8), c ∉ l → index l [c] = -1
  | [], _ => rfl
  | b :: l, h => by
    have hb : b ≠ c := fun e => h (by simp [e])
    have ih := index_one_miss c l (fun hh => h (by simp [hh]))
    unfold index
    rw [if_neg (by simp [hb.symm]), ih]
    rfl
theorem swap_none (c : UInt8) (new : List UInt8) : ∀ l : List UInt8, c ∉ l → swapL (swap1 c new) l = l
  | [], _ => rfl
  | b :: l, h => by
    have hb : b ≠ c := fun e => h (by simp [e])
    unfold swapL
    rw [List.flatMap_cons]
    have := swap_none c new l (fun hh => h (by simp [hh]))
    unfold swapL at this
    rw [this]
    unfold swap1
    rw [if_neg hb]
    rfl
theorem first_of (c : UInt8) : ∀ l : List UInt8, c ∉ l ∨ ∃ a r, l = a ++ c :: r ∧ c ∉ a
  | [] => Or.inl (by simp)
  | b :: l => by
    by_cases hb : b = c
    · exact Or.inr ⟨[], l, by rw [hb]; rfl, by simp⟩
    · rcases first_of c l with h | ⟨a, r, h1, h2⟩
      · exact Or.inl (by simp [h, Ne.symm hb])
      · exact Or.inr ⟨b :: a, r, by rw [h1]; rfl, by simp [h2, Ne.symm hb]⟩
theorem count_one (c : UInt8) : ∀ (f : Nat) (l : List UInt8), l.length < f → countFrom [c] f l = l.count c
  | 0, l, h => by omega
  | f + 1, l, h => by
    simp only [countFrom]
    rcases first_of c l with h1 | ⟨a, r, rfl, h1⟩
    · rw [index_one_miss c l h1, if_pos (by rfl), List.count_eq_zero_of_not_mem h1]
    · rw [index_one_hit c a r h1, if_neg (by simp)]
      rw [List.length_append, List.length_cons] at h
      have e : (a ++ c :: r).drop ((a.length : Int).toNat + [c].length) = r := by
        rw [Int.toNat_natCast, ← List.drop_drop, List.drop_left]
        rfl
      rw [e, count_one c f r (by omega), List.count_append, List.count_eq_zero_of_not_mem h1, List.count_cons_self]
      omega
theorem replaceK_one (c : UInt8) (new : List UInt8) : ∀ (k : Nat) (l : List UInt8), k = l.count c → replaceK [c] new k l = swapL (swap1 c new) l
  | 0, l, h => by
    simp only [replaceK]
    exact (swap_none c new l (fun hm => by have := List.count_pos_iff.2 hm; omega)).symm
  | k + 1, l, h => by
    rcases first_of c l with h1 | ⟨a, r, rfl, h1⟩
    · rw [List.count_eq_zero_of_not_mem h1] at h
      omega
    · rw [replaceK_hit [c] new k _ a.length (index_one_hit c a r h1)]
      have e : (a ++ c :: r).drop (a.length + [c].length) = r := by
        rw [← List.drop_drop, List.drop_left]
        rfl
      rw [e, List.take_left]
      rw [List.count_append, List.count_eq_zero_of_not_mem h1, List.count_cons_self] at h
      rw [replaceK_one c new k r (by omega)]
      have ha := swap_none c new a h1
      unfold swapL at ha ⊢
      rw [List.flatMap_append, ha, List.flatMap_cons]
      unfold swap1
      rw [if_pos rfl, List.append_assoc]
/-- The library's way at one byte. -/
theorem replaceAll_one (c : UInt8) (new : List UInt8) (s : List UInt8) : replaceAll s [c] new = swapL (swap1 c new) s := by
  unfold replaceAll replace
  by_cases h : ([c] == new) = true
  · rw [if_pos h]
    have := beq_iff_eq.1 h
    subst this
    unfold swapL swap1
    induction s with
    | nil => rfl
    | cons b s ih =>
      rw [List.flatMap_cons, ← ih]
      split
      · rename_i e; rw [e]; rfl
      · rfl
  · rw [if_neg h]
    unfold replaceNum
    rw [if_pos (Or.inl (by decide))]
    refine replaceK_one c new _ s ?_
    unfold Lib.count
    exact count_one c _ s (Nat.lt_succ_self _)

/-- Digits to 16, written. -/
def hexU (n : Nat) : UInt8 := if n < 10 then UInt8.ofNat (48 + n) else UInt8.ofNat (55 + n)
/-- Does a byte stand for itself? -/
def freeB (c : UInt8) : Bool := decide (97 ≤ c.toNat ∧ c.toNat ≤ 122) || decide (65 ≤ c.toNat ∧ c.toNat ≤ 90) || decide (48 ≤ c.toNat ∧ c.toNat ≤ 57) || c == 45 || c == 95 || c == 46 || c == 126
def uriB (c : UInt8) : List UInt8 := if freeB c then [c] else [37, hexU (c.toNat / 16), hexU (c.toNat % 16)]
def uriL (s : List UInt8) : List UInt8 := s.flatMap uriB
/-- The program's test. -/
theorem freeB_or : ∀ c : UInt8, freeB c = (decide (97 ≤ (c ||| 32).toNat ∧ (c ||| 32).toNat ≤ 122) || decide (48 ≤ c.toNat ∧ c.toNat ≤ 57) || ([45, 95, 46, 126] : List UInt8).contains c) := by
  have h : ∀ n : Nat, n < 256 → freeB (UInt8.ofNat n) = (decide (97 ≤ (UInt8.ofNat n ||| 32).toNat ∧ (UInt8.ofNat n ||| 32).toNat ≤ 122) || decide (48 ≤ (UInt8.ofNat n).toNat ∧ (UInt8.ofNat n).toNat ≤ 57) || ([45, 95, 46, 126] : List UInt8).contains (UInt8.ofNat n)) := by decide +kernel
  intro c
  have := h c.toNat (u8_lt c)
  rwa [UInt8.ofNat_toNat] at this
theorem uriB_range : ∀ c : UInt8, ∀ d ∈ uriB c, 37 ≤ d.toNat ∧ d.toNat ≤ 126 := by
  have h : ∀ n : Nat, n < 256 → (uriB (UInt8.ofNat n)).all (fun d => decide (37 ≤ d.toNat ∧ d.toNat ≤ 126)) = true := by decide +kernel
  intro c d hd
  have := h c.toNat (u8_lt c)
  rw [UInt8.ofNat_toNat] at this
  have := List.all_eq_true.1 this d hd
  simpa using this
theorem uriL_len (s : List UInt8) : s.length ≤ (uriL s).length := by
  unfold uriL
  induction s with
  | nil => exact Nat.le_refl _
  | cons c s ih =>
    rw [List.flatMap_cons, List.length_append, List.length_cons]
    have : 1 ≤ (uriB c).length := by
      unfold uriB
      split <;> simp
    omega

end Go.Proofs.YtldhebpkplglcaaGreatDoor

namespace Go.Proofs.YtldhebpkplglcaaGreatDoor

theorem encs_prefix : ∀ (ys xs : List Nat), (∀ p ∈ ys, isPt p) → (∀ p ∈ xs, isPt p) → (encs ys <+: encs xs ↔ ys <+: xs)
  | [], xs, _, _ => ⟨fun _ => List.nil_prefix, fun _ => List.nil_prefix⟩
  | y :: ys, [], hy, _ => by
    constructor
    · intro h
      have h1 := h.length_le
      rw [encs_cons, List.length_append] at h1
      have h2 := (encN_pos y).1
      have : (encs []).length = 0 := rfl
      omega
    · intro h
      have := h.length_le
      simp at this
  | y :: ys, x :: xs, hy, hx => by
    have hy1 := hy y (by simp)
    have hx1 := hx x (by simp)
    have ih := encs_prefix ys xs (fun p hp => hy p (by simp [hp])) (fun p hp => hx p (by simp [hp]))
    rw [encs_cons, encs_cons]
    constructor
    · rintro ⟨t, ht⟩
      have e1 := (dec_enc y hy1 (encs ys ++ t)).1
      have e2 := (dec_enc x hx1 (encs xs)).1
      rw [← List.append_assoc, ht, e2] at e1
      injection e1 with e3 _
      subst e3
      rw [List.append_assoc] at ht
      have := List.append_cancel_left ht
      obtain ⟨u, hu⟩ := ih.1 ⟨t, this⟩
      exact ⟨u, by rw [List.cons_append, hu]⟩
    · rintro ⟨t, ht⟩
      rw [List.cons_append] at ht
      injection ht with e1 e2
      subst e1
      obtain ⟨u, hu⟩ := ih.2 ⟨t, e2⟩
      exact ⟨u, by rw [List.append_assoc, hu]⟩
/-- The places where a row of code points stands in another one. -/
def idxL (xs ys : List Nat) : List Nat := (List.range xs.length).filter fun i => ys.isPrefixOf (xs.drop i)
/-- .. up to a place. -/
def idxT (xs ys : List Nat) (k : Nat) : List Nat := (List.range k).filter fun i => ys.isPrefixOf (xs.drop i)
theorem idxT_step (xs ys : List Nat) (k : Nat) : idxT xs ys (k + 1) = idxT xs ys k ++ (if ys.isPrefixOf (xs.drop k) = true then [k] else []) := by
  unfold idxT
  rw [List.range_succ, List.filter_append]
  congr 1
  by_cases h : ys.isPrefixOf (xs.drop k) = true
  · rw [if_pos h]; simp [h]
  · rw [if_neg h]; simp [h]
theorem idxT_end (xs ys : List Nat) : idxT xs ys xs.length = idxL xs ys := rfl
/-- Behind the last place where it has room there is none. -/
theorem idxT_room (xs ys : List Nat) (_hy : ys ≠ []) (k : Nat) (hk : xs.length < k + ys.length) (hkl : k ≤ xs.length) : idxT xs ys k = idxL xs ys := by
  rw [← idxT_end]
  have key : ∀ d, k + d ≤ xs.length → idxT xs ys (k + d) = idxT xs ys k := by
    intro d
    induction d with
    | zero => intro _; rfl
    | succ d ih =>
      intro h
      rw [show k + (d + 1) = k + d + 1 by omega, idxT_step, ih (by omega), if_neg, List.append_nil]
      intro h1
      have h2 := (List.isPrefixOf_iff_prefix.1 h1).length_le
      rw [List.length_drop] at h2
      omega
  rw [show xs.length = k + (xs.length - k) by omega]
  exact (key _ (by omega)).symm
/-- The document's way: bytes at the head of a code point. -/
theorem idx_bytes {xs ys : List Nat} (hx : ∀ p ∈ xs, isPt p) (hy : ∀ p ∈ ys, isPt p) (k : Nat) : ys.isPrefixOf (xs.drop k) = (encs ys).isPrefixOf ((encs xs).drop (encs (xs.take k)).length) := by
  have e : (encs xs).drop (encs (xs.take k)).length = encs (xs.drop k) := by
    have h : encs xs = encs (xs.take k) ++ encs (xs.drop k) := by
      unfold encs
      rw [← List.flatMap_append, List.take_append_drop]
    rw [h, List.drop_left]
  rw [e]
  have h := encs_prefix ys (xs.drop k) hy (fun p hp => hx p (List.mem_of_mem_drop hp))
  rw [Bool.eq_iff_iff, List.isPrefixOf_iff_prefix, List.isPrefixOf_iff_prefix]
  exact h.symm

end Go.Proofs.YtldhebpkplglcaaGreatDoor

namespace Go.Proofs.YtldhebpkplglcaaGreatDoor

theorem pre_take (s t : List UInt8) : t.isPrefixOf s = (decide (t.length ≤ s.length) && decide (s.take t.length = t)) := by
  rw [Bool.eq_iff_iff, List.isPrefixOf_iff_prefix, Bool.and_eq_true, decide_eq_true_iff, decide_eq_true_iff]
  constructor
  · intro h
    exact ⟨h.length_le, (List.prefix_iff_eq_take.1 h).symm⟩
  · rintro ⟨_, h⟩
    exact List.prefix_iff_eq_take.2 h.symm
theorem suf_drop (s t : List UInt8) : t.isSuffixOf s = (decide (t.length ≤ s.length) && decide (s.drop (s.length - t.length) = t)) := by
  rw [Bool.eq_iff_iff, List.isSuffixOf_iff_suffix, Bool.and_eq_true, decide_eq_true_iff, decide_eq_true_iff]
  constructor
  · intro h
    exact ⟨h.length_le, (List.suffix_iff_eq_drop.1 h).symm⟩
  · rintro ⟨_, h⟩
    exact List.suffix_iff_eq_drop.2 h.symm
/-- What Trim tells. -/
def trimL (s t : List UInt8) (ahead behind : Bool) : List UInt8 :=
  let s1 := if ahead && t.isPrefixOf s then s.drop t.length else s
  if behind && t.isSuffixOf s1 then s1.take (s1.length - t.length) else s1
theorem trim_ahead (s t : List UInt8) : trimL (t ++ s) t true false = s := by
  unfold trimL
  have : t.isPrefixOf (t ++ s) = true := List.isPrefixOf_iff_prefix.2 (List.prefix_append t s)
  simp [this]
theorem trim_behind (s t : List UInt8) : trimL (s ++ t) t false true = s := by
  unfold trimL
  have : t.isSuffixOf (s ++ t) = true := List.isSuffixOf_iff_suffix.2 (List.suffix_append s t)
  simp [this]

end Go.Proofs.YtldhebpkplglcaaGreatDoor
