/- Layer 2, ninth part: scan told whole; Parse. -/
import Derived.Test.YtmdgciolnpkccaaGreatDoorDecH
namespace Go.Proofs.YtmdgciolnpkccaaGreatDoor
open Go.RowKit

/-- The power that stands behind the figures; none: it is none. -/
def tailL (l : List UInt8) : Option Int :=
  match l with
  | [] => some 0
  | c :: r =>
    if c.toNat = 101 ∨ c.toNat = 69 then
      let q := if Lib.hasPrefix r [45] = true then Lib.trimPrefix r [45] else Lib.trimPrefix r [43]
      if q.takeWhile isD = [] ∨ q.dropWhile isD ≠ [] then none
      else some ((if Lib.hasPrefix r [45] = true then -1 else 1) * (smallN (q.takeWhile isD) : Int))
    else none
/-- A literal's parts. -/
def scanL (l : List UInt8) : Option (Bool × List UInt8 × List UInt8 × Int) :=
  let r0 := Lib.trimPrefix l [45]
  let wh := r0.takeWhile isD
  let r1 := r0.dropWhile isD
  if wh = [] ∨ (1 < wh.length ∧ wh.head? = some 48) then none
  else if Lib.hasPrefix r1 [46] = true then
    let r := Lib.trimPrefix r1 [46]
    if r.takeWhile isD = [] then none
    else (tailL (r.dropWhile isD)).map fun x => (Lib.hasPrefix l [45], wh, r.takeWhile isD, x)
  else (tailL r1).map fun x => (Lib.hasPrefix l [45], wh, [], x)

theorem empty_iff {s : ByteArray} {l : List UInt8} (h : s.data.toList = l) : s.toList.isEmpty = l.isEmpty := by rw [ByteArray.toList_eq, h]
theorem trimPrefix_le (l p : List UInt8) : (Lib.trimPrefix l p).length ≤ l.length := by
  unfold Lib.trimPrefix
  split
  · simp
  · exact Nat.le_refl _
theorem takeWhile_le (l : List UInt8) (p : UInt8 → Bool) : (l.takeWhile p).length ≤ l.length := (List.takeWhile_prefix _).length_le
theorem dropWhile_le (l : List UInt8) (p : UInt8 → Bool) : (l.dropWhile p).length ≤ l.length := (List.dropWhile_suffix _).length_le
theorem take_digs (l : List UInt8) : Digs (l.takeWhile isD) := fun c hc => isD_iff.1 (by
  have := List.all_takeWhile (l := l) (p := isD)
  exact (List.all_eq_true.1 this) c hc)
theorem smallN_le (l : List UInt8) (h : Digs l) : smallN l ≤ 999999 := by
  unfold smallN
  split
  · exact Nat.le_refl _
  · have h1 : Digs (Lib.trimLeftB l 48) := fun c hc => h c ((List.dropWhile_suffix _).subset hc)
    have h2 := num10_lt _ h1
    have h3 : 10 ^ (Lib.trimLeftB l 48).length ≤ 10 ^ 6 := Nat.pow_le_pow_right (by decide) (by omega)
    omega
theorem head_byte {s : ByteArray} {c : UInt8} {l : List UInt8} (h : s.data.toList = c :: l) (hlt : 0 < s.size) : s[0] = c := by
  have : s.data.toList[0]'(by rw [h]; simp) = c := by simp [h]
  exact this
theorem size_eq {s : ByteArray} {l : List UInt8} (h : s.data.toList = l) : s.size = l.length := by rw [← h]; rfl

theorem cut_c (l p : List UInt8) (W : World) :
    Calls Tryz.prog 119 #[.string ⟨l.toArray⟩, .string ⟨p.toArray⟩] W fun e w' => e = .returned (.tuple #[.string ⟨(Lib.trimPrefix l p).toArray⟩, .bool (Lib.hasPrefix l p)]) ∧ w' = W :=
  Tryz.strings_CutPrefix ⟨l.toArray⟩ ⟨p.toArray⟩ W
theorem trim_c (l p : List UInt8) (W : World) :
    Calls Tryz.prog 121 #[.string ⟨l.toArray⟩, .string ⟨p.toArray⟩] W fun e w' => e = .returned (.string ⟨(Lib.trimPrefix l p).toArray⟩) ∧ w' = W :=
  Tryz.strings_TrimPrefix ⟨l.toArray⟩ ⟨p.toArray⟩ W
theorem digits_c (l : List UInt8) (hl : l.length ≤ 9223372036854775807) (W : World) :
    Calls Tryz.prog 120 #[.string ⟨l.toArray⟩] W fun en w' => en = .returned (.tuple #[.string ⟨(l.takeWhile isD).toArray⟩, .string ⟨(l.dropWhile isD).toArray⟩]) ∧ Below W.heap.size W w' :=
  dec_digits ⟨l.toArray⟩ W (by simp [ByteArray.size]; omega)

theorem tail_of (l : List UInt8) (hl : l.length ≤ 9223372036854775807) : Tail ⟨l.toArray⟩ (tailL l) := by
  cases l with
  | nil => exact .done (empty_iff rfl)
  | cons c r =>
    have hlt : 0 < (⟨(c :: r).toArray⟩ : ByteArray).size := by simp [ByteArray.size]
    have hr : r.length ≤ 9223372036854775806 := by simp at hl; omega
    by_cases hc : c.toNat = 101 ∨ c.toNat = 69
    · obtain ⟨q, hq⟩ : ∃ q, q = if Lib.hasPrefix r [45] = true then Lib.trimPrefix r [45] else Lib.trimPrefix r [43] := ⟨_, rfl⟩
      have hql6 : q.length ≤ 9223372036854775806 := by
        rw [hq]; split
        · exact Nat.le_trans (trimPrefix_le _ _) hr
        · exact Nat.le_trans (trimPrefix_le _ _) hr
      have hql : q.length ≤ 9223372036854775807 := by omega
      have hpl := takeWhile_le q isD
      have ht : tailL (c :: r) = if q.takeWhile isD = [] ∨ q.dropWhile isD ≠ [] then none else some ((if Lib.hasPrefix r [45] = true then -1 else 1) * (smallN (q.takeWhile isD) : Int)) := by
        unfold tailL; simp only [if_pos hc]; rw [hq]
      refine .pow c ⟨r.toArray⟩ _ _ ⟨q.toArray⟩ _ _ _ (if Lib.hasPrefix r [45] = true then -1 else 1) (smallN (q.takeWhile isD)) _ (empty_iff rfl) hlt (head_byte rfl _) hc ?_ (by simp [ByteArray.size]; simp at hl; omega) (cut_c r [45]) (trim_c r [43]) ?_ (digits_c q hql) (dec_small ⟨(q.takeWhile isD).toArray⟩ · (take_digs q) (by simp [ByteArray.size]; omega)) ⟨by omega, by have := smallN_le _ (take_digs q); omega⟩ ?_
      · apply bytes_ext2
        rw [Lib.extract_data]
        simp [ByteArray.size]
      · by_cases h : Lib.hasPrefix r [45] = true
        · left; exact ⟨h, by rw [hq, if_pos h], if_pos h⟩
        · right; exact ⟨by simpa using h, by rw [hq, if_neg h], if_neg h⟩
      · rw [ht]
        by_cases h1 : q.takeWhile isD = []
        · left; exact ⟨by rw [empty_iff (l := q.takeWhile isD) rfl, h1]; rfl, if_pos (.inl h1)⟩
        · have e1 : ((⟨(q.takeWhile isD).toArray⟩ : ByteArray)).toList.isEmpty = false := by
            rw [empty_iff (l := q.takeWhile isD) rfl]; simpa using h1
          by_cases h2 : q.dropWhile isD = []
          · right; right; exact ⟨e1, by rw [empty_iff (l := q.dropWhile isD) rfl, h2]; rfl, if_neg (by simp [h1, h2])⟩
          · right; left; exact ⟨e1, by rw [empty_iff (l := q.dropWhile isD) rfl]; simpa using h2, if_pos (.inr h2)⟩
    · have ht : tailL (c :: r) = none := by unfold tailL; simp only [if_neg hc]
      rw [ht]
      exact .no c (empty_iff rfl) hlt (head_byte rfl _) (fun h => hc (.inl h)) (fun h => hc (.inr h))

/-- What scan tells. -/
def ScanPost (w : World) : Option (Bool × List UInt8 × List UInt8 × Int) → Ending → World → Prop
  | some (n, wh, be, ex) => OutSc w n ⟨wh.toArray⟩ ⟨be.toArray⟩ ex true
  | none => OutSc w false ⟨#[]⟩ ⟨#[]⟩ 0 false

theorem tail_x : Tail ⟨#[120]⟩ none := .no 120 (empty_iff (l := [120]) rfl) (by decide) rfl (by decide) (by decide)

theorem dec_scan (l : List UInt8) (hl : l.length ≤ 9223372036854775807) (w : World) :
    Calls Tryz.prog 59 #[.string ⟨l.toArray⟩] w (ScanPost w (scanL l)) := by
  obtain ⟨r0, hr0⟩ : ∃ r0, r0 = Lib.trimPrefix l [45] := ⟨_, rfl⟩
  have l0 : r0.length ≤ 9223372036854775807 := by rw [hr0]; exact Nat.le_trans (trimPrefix_le _ _) hl
  have C1 := hid fun W => cut_c l [45] W
  rw [← hr0] at C1
  have C2 := hid fun W => digits_c r0 l0 W
  obtain ⟨wh, hwh⟩ : ∃ wh, wh = r0.takeWhile isD := ⟨_, rfl⟩
  obtain ⟨r1, hr1⟩ : ∃ r1, r1 = r0.dropWhile isD := ⟨_, rfl⟩
  rw [← hwh, ← hr1] at C2
  have l1 : r1.length ≤ 9223372036854775807 := by rw [hr1]; exact Nat.le_trans (dropWhile_le _ _) l0
  have hS : scanL l = if wh = [] ∨ (1 < wh.length ∧ wh.head? = some 48) then none
      else if Lib.hasPrefix r1 [46] = true then
        if (Lib.trimPrefix r1 [46]).takeWhile isD = [] then none
        else (tailL ((Lib.trimPrefix r1 [46]).dropWhile isD)).map fun x => (Lib.hasPrefix l [45], wh, (Lib.trimPrefix r1 [46]).takeWhile isD, x)
      else (tailL r1).map fun x => (Lib.hasPrefix l [45], wh, [], x) := by
    unfold scanL; simp only; rw [← hr0, ← hwh, ← hr1]
  rw [hS]
  clear hS
  cases wh with
  | nil =>
    rw [if_pos (.inl rfl)]
    exact scan_whole_bad _ w _ _ _ _ C1 C2 (empty_iff (l := []) rfl)
  | cons c wt =>
    have hne := empty_iff (s := ⟨(c :: wt).toArray⟩) (l := c :: wt) rfl
    have hlt : 0 < (⟨(c :: wt).toArray⟩ : ByteArray).size := by simp [ByteArray.size]
    have hc : (⟨(c :: wt).toArray⟩ : ByteArray)[0] = c := head_byte rfl hlt
    have hsz : (⟨(c :: wt).toArray⟩ : ByteArray).size = (c :: wt).length := rfl
    by_cases hbad : 1 < (c :: wt).length ∧ (c :: wt).head? = some 48
    · rw [if_pos (.inr hbad)]
      refine scan_whole_nought _ w _ _ _ _ C1 C2 hne (by rw [hsz]; have := hbad.1; omega) hlt ?_
      rw [hc]; simpa using hbad.2
    · rw [if_neg (fun h => h.elim (by simp) hbad)]
      have hgood : Hid ((⟨(c :: wt).toArray⟩ : ByteArray).size ≤ 1 ∨ (1 < (⟨(c :: wt).toArray⟩ : ByteArray).size ∧ c.toNat ≠ 48)) := by
        rw [hsz]
        by_cases h : (c :: wt).length ≤ 1
        · exact .inl h
        · refine .inr ⟨by omega, fun e => hbad ⟨by omega, ?_⟩⟩
          have : c = 48 := UInt8.toNat.inj e
          simp [this]
      have C3 := hid fun W => cut_c r1 [46] W
      have l2 : (Lib.trimPrefix r1 [46]).length ≤ 9223372036854775807 := Nat.le_trans (trimPrefix_le _ _) l1
      have C4 := hid fun W => digits_c (Lib.trimPrefix r1 [46]) l2 W
      by_cases hp : Lib.hasPrefix r1 [46] = true
      · rw [if_pos hp]
        rw [hp] at C3
        by_cases hb : (Lib.trimPrefix r1 [46]).takeWhile isD = []
        · rw [if_pos hb]
          exact scan_walk _ w _ _ _ _ _ _ _ ⟨#[]⟩ ⟨#[120]⟩ _ c none C1 C2 hne hlt hc hgood C3 C4 (hid (.inr (.inr ⟨rfl, by rw [empty_iff (l := (Lib.trimPrefix r1 [46]).takeWhile isD) rfl, hb]; rfl, rfl⟩))) (hid tail_x)
        · rw [if_neg hb]
          have l3 := Nat.le_trans (dropWhile_le (Lib.trimPrefix r1 [46]) isD) l2
          have W := scan_walk _ w _ _ _ _ _ _ _ _ _ _ c _ C1 C2 hne hlt hc hgood C3 C4 (hid (.inr (.inl ⟨rfl, by rw [empty_iff (l := (Lib.trimPrefix r1 [46]).takeWhile isD) rfl]; simpa using hb, rfl, rfl⟩))) (hid (tail_of _ l3))
          refine W.mono ?_
          intro e w' h
          cases ht : tailL ((Lib.trimPrefix r1 [46]).dropWhile isD) with
          | none => rw [ht] at h; exact h
          | some x => rw [ht] at h; exact h
      · have hp : Lib.hasPrefix r1 [46] = false := by simpa using hp
        rw [if_neg (by simp [hp])]
        rw [hp] at C3
        have W := scan_walk _ w _ _ _ _ _ _ _ _ _ _ c _ C1 C2 hne hlt hc hgood C3 C4 (hid (.inl ⟨rfl, rfl, rfl⟩)) (hid (tail_of _ l1))
        refine W.mono ?_
        intro e w' h
        cases ht : tailL r1 with
        | none => rw [ht] at h; exact h
        | some x => rw [ht] at h; exact h

end Go.Proofs.YtmdgciolnpkccaaGreatDoor
