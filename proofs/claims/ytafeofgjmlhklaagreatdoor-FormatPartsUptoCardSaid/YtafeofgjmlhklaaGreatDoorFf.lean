/- format.Trim. lorgnetteref20.Trim. -/
import Derived.Test.YtafeofgjmlhklaaGreatDoorFa
import Derived.Test.YtafeofgjmlhklaaGreatDoorBase
import Derived.Test.YtafeofgjmlhklaaGreatDoorShelf
import Derived.Test.YtafeofgjmlhklaaGreatDoorMk
import Derived.Deep.CutBlock
namespace Go.Proofs.YtafeofgjmlhklaaGreatDoor
open Go.RowKit

theorem trim_pre (s t : List UInt8) : Lib.trimPrefix s t = if t.isPrefixOf s = true then s.drop t.length else s := rfl
theorem trim_suf (s t : List UInt8) : Lib.trimSuffix s t = if t.isSuffixOf s = true then s.take (s.length - t.length) else s := rfl

set_option maxRecDepth 100000 in
theorem format_Trim (s t : List UInt8) (ahead behind : Bool) (w : World) (hs : s.length ≤ 9223372036854775807) :
    Calls Tryz.prog 24 #[.string ⟨s.toArray⟩, .string ⟨t.toArray⟩, .bool ahead, .bool behind] w fun e w' => e = .returned (.string ⟨(trimL s t ahead behind).toArray⟩) ∧ w' = w := by
  obtain ⟨s1, hs1⟩ : ∃ s1, s1 = if ahead && t.isPrefixOf s then s.drop t.length else s := ⟨_, rfl⟩
  have hl1 : s1.length ≤ 9223372036854775807 := by
    rw [hs1]
    split
    · rw [List.length_drop]; omega
    · exact hs
  have P := fun W => Tryz.strings_TrimPrefix ⟨s.toArray⟩ ⟨t.toArray⟩ W
  have Q := fun W => Tryz.strings_TrimSuffix ⟨s1.toArray⟩ ⟨t.toArray⟩ W (by show s1.toArray.size ≤ _; simpa using hl1)
  dsimp only at P Q
  obtain ⟨r, hr⟩ : ∃ r, r = trimL s t ahead behind := ⟨_, rfl⟩
  have hT : r = if behind = true then Lib.trimSuffix s1 t else s1 := by
    rw [hr, trim_suf]
    unfold trimL
    rw [← hs1]
    cases behind <;> simp
  have hP : ahead = true → Lib.trimPrefix s t = s1 := by
    intro h
    rw [hs1, trim_pre, h]
    simp
  have hN : ahead = false → s1 = s := by
    intro h
    rw [hs1, h]
    simp
  rw [← hr]
  clear hs1 hr hs hl1
  cases ahead with
  | true =>
    rw [hP rfl] at P
    clear hP hN
    cases behind with
    | true =>
      rw [if_pos rfl] at hT
      rw [← hT] at Q
      clear hT
      replace P := hid P
      replace Q := hid Q
      generalize (⟨s.toArray⟩ : ByteArray) = sb at *
      generalize (⟨t.toArray⟩ : ByteArray) = tb at *
      generalize (⟨s1.toArray⟩ : ByteArray) = sb1 at *
      generalize (⟨r.toArray⟩ : ByteArray) = rb at *
      go_enter Tryz.func24, Tryz.ntmps24
      go_wp2_with fail
      refine (P.out _).mono ?_
      rintro en w1 ⟨rfl, hw⟩
      rw [hw]
      clear hw w1
      go_wp2_with fail
      refine (Q.out _).mono ?_
      rintro en w1 ⟨rfl, hw⟩
      rw [hw]
      clear hw w1
      go_wp2_with fail
      go_ret
      exact ⟨rfl, rfl⟩
    | false =>
      rw [if_neg (by simp)] at hT
      subst hT
      clear Q
      replace P := hid P
      generalize (⟨s.toArray⟩ : ByteArray) = sb at *
      generalize (⟨t.toArray⟩ : ByteArray) = tb at *
      generalize (⟨r.toArray⟩ : ByteArray) = rb at *
      go_enter Tryz.func24, Tryz.ntmps24
      go_wp2_with fail
      refine (P.out _).mono ?_
      rintro en w1 ⟨rfl, hw⟩
      rw [hw]
      clear hw w1
      go_wp2_with fail
      go_ret
      exact ⟨rfl, rfl⟩
  | false =>
    obtain rfl := hN rfl
    clear hP hN P
    cases behind with
    | true =>
      rw [if_pos rfl] at hT
      rw [← hT] at Q
      clear hT
      replace Q := hid Q
      generalize (⟨s1.toArray⟩ : ByteArray) = sb1 at *
      generalize (⟨t.toArray⟩ : ByteArray) = tb at *
      generalize (⟨r.toArray⟩ : ByteArray) = rb at *
      go_enter Tryz.func24, Tryz.ntmps24
      go_wp2_with fail
      refine (Q.out _).mono ?_
      rintro en w1 ⟨rfl, hw⟩
      rw [hw]
      clear hw w1
      go_wp2_with fail
      go_ret
      exact ⟨rfl, rfl⟩
    | false =>
      rw [if_neg (by simp)] at hT
      subst hT
      clear Q
      generalize (⟨r.toArray⟩ : ByteArray) = rb at *
      generalize (⟨t.toArray⟩ : ByteArray) = tb at *
      go_enter Tryz.func24, Tryz.ntmps24
      go_wp2_with fail
      go_ret
      exact ⟨rfl, rfl⟩

end Go.Proofs.YtafeofgjmlhklaaGreatDoor

namespace Go.Proofs.YtafeofgjmlhklaaGreatDoor
open Go.RowKit

theorem extract_take (l : List UInt8) (k : Nat) : (⟨l.toArray⟩ : ByteArray).extract 0 k = ⟨(l.take k).toArray⟩ := by
  refine ByteArray.ext (Array.toList_inj.1 ?_)
  rw [Lib.extract_data]
  simp

theorem extract_gen (l : List UInt8) (a b : Nat) : (⟨l.toArray⟩ : ByteArray).extract a b = ⟨((l.drop a).take (b - a)).toArray⟩ := by
  refine ByteArray.ext (Array.toList_inj.1 ?_)
  rw [Lib.extract_data]
theorem bytes_beq (a b : List UInt8) : ((⟨a.toArray⟩ : ByteArray).toList == (⟨b.toArray⟩ : ByteArray).toList) = decide (a = b) := by
  rw [ByteArray.toList_eq, ByteArray.toList_eq]
  show (a == b) = _
  rw [Bool.eq_iff_iff, beq_iff_eq, decide_eq_true_eq]
theorem take_all (l : List UInt8) (a : Nat) : (l.drop a).take (l.length - a) = l.drop a := List.take_of_length_le (by rw [List.length_drop]; exact Nat.le_refl _)
theorem take_all2 (l : List UInt8) (a b : Nat) : ((l.drop a).drop b).take (l.length - a - b) = (l.drop a).drop b := List.take_of_length_le (by rw [List.length_drop, List.length_drop]; exact Nat.le_refl _)
theorem trim_parts2 (s t : List UInt8) (ahead behind : Bool) (s1 : List UInt8) (h1 : s1 = if ahead = true ∧ t.length ≤ s.length ∧ s.take t.length = t then s.drop t.length else s) :
    trimL s t ahead behind = if behind = true ∧ t.length ≤ s1.length ∧ s1.drop (s1.length - t.length) = t then s1.take (s1.length - t.length) else s1 := by
  subst h1
  unfold trimL
  simp only [pre_take, suf_drop, Bool.and_eq_true, decide_eq_true_eq]

set_option maxRecDepth 100000 in
set_option maxHeartbeats 3200000 in
theorem ref20_Trim (s t : List UInt8) (ahead behind : Bool) (w : World) (hs : s.length ≤ 9223372036854775807) (ht : t.length ≤ 9223372036854775807) :
    Calls Tryz.prog 25 #[.string ⟨s.toArray⟩, .string ⟨t.toArray⟩, .bool ahead, .bool behind] w fun e w' => e = .returned (.string ⟨(trimL s t ahead behind).toArray⟩) ∧ w' = w := by
  obtain ⟨sb, hsb⟩ : ∃ sb : ByteArray, sb = ⟨s.toArray⟩ := ⟨_, rfl⟩
  obtain ⟨tb, htb⟩ : ∃ tb : ByteArray, tb = ⟨t.toArray⟩ := ⟨_, rfl⟩
  rw [← hsb, ← htb]
  have hz1 : sb.size = s.length := by rw [hsb]; rfl
  have hz2 : tb.size = t.length := by rw [htb]; rfl
  replace hsb := hid hsb
  replace htb := hid htb
  go_enter Tryz.func25, Tryz.ntmps25
  go_wp2_with fail
  all_goals
    go_ret
    refine ⟨?_, rfl⟩
    obtain rfl := hsb.out
    obtain rfl := htb.out
    clear hsb htb hz1 hz2 hs ht
    simp only [extract_gen, bytes_beq, decide_eq_true_eq, decide_eq_false_iff_not, List.drop_zero, Nat.sub_zero, take_all, take_all2] at *
    rw [trim_parts2 s t ahead behind _ rfl]
    simp only [*, List.length_drop, true_and, and_self, if_true, if_false, false_and, and_false, Bool.false_eq_true]
    rfl

end Go.Proofs.YtafeofgjmlhklaaGreatDoor
