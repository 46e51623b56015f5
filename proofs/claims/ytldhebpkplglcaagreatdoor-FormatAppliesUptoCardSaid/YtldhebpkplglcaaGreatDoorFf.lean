/- format.Trim. lorgnetteref20.Trim. -/
import Derived.Test.YtldhebpkplglcaaGreatDoorFa
import Derived.Test.YtldhebpkplglcaaGreatDoorNB
import Derived.Test.YtldhebpkplglcaaGreatDoorShelf
import Derived.Test.YtldhebpkplglcaaGreatDoorMk
import Derived.Deep.CutBlock
namespace Go.Proofs.YtldhebpkplglcaaGreatDoor
open Go.RowKit

theorem trim_pre (s t : List UInt8) : Lib.trimPrefix s t = if t.isPrefixOf s = true then s.drop t.length else s := rfl
theorem trim_suf (s t : List UInt8) : Lib.trimSuffix s t = if t.isSuffixOf s = true then s.take (s.length - t.length) else s := rfl

end Go.Proofs.YtldhebpkplglcaaGreatDoor

namespace Go.Proofs.YtldhebpkplglcaaGreatDoor
open Go.RowKit

theorem extract_take (l : List UInt8) (k : Nat) : (⟨l.toArray⟩ : ByteArray).extract 0 k = ⟨(l.take k).toArray⟩ := by
  refine ByteArray.ext (Array.toList_inj.1 ?_)
  rw [Lib.extract_data]
  simp

theorem extract_gen (l : List UInt8) (a b : Nat) : (⟨l.toArray⟩ : ByteArray).extract a b = ⟨((l.drop a).take (b - a)).toArray⟩ := by
  refine ByteArray.ext (Array.toList_inj.1 ?_)
  rw [Lib.extract_data]
theorem bytes_beq (a b : List UInt8) : ((⟨a.toArray⟩ : ByteArray).toList == (⟨b.toArray⟩ : ByteArray).toList) = decide (a = b) := by
  rw [ByteArray.toList_eq, ByteArray.toList_eq]
  show (a == b) = _
  rw [Bool.eq_iff_iff, beq_iff_eq, decide_eq_true_eq]
theorem take_all (l : List UInt8) (a : Nat) : (l.drop a).take (l.length - a) = l.drop a := List.take_of_length_le (by rw [List.length_drop]; exact Nat.le_refl _)
theorem take_all2 (l : List UInt8) (a b : Nat) : ((l.drop a).drop b).take (l.length - a - b) = (l.drop a).drop b := List.take_of_length_le (by rw [List.length_drop, List.length_drop]; exact Nat.le_refl _)
theorem trim_parts2 (s t : List UInt8) (ahead behind : Bool) (s1 : List UInt8) (h1 : s1 = if ahead = true ∧ t.length ≤ s.length ∧ s.take t.length = t then s.drop t.length else s) :
    trimL s t ahead behind = if behind = true ∧ t.length ≤ s1.length ∧ s1.drop (s1.length - t.length) = t then s1.take (s1.length - t.length) else s1 := by
  subst h1
  unfold trimL
  simp only [pre_take, suf_drop, Bool.and_eq_true, decide_eq_true_eq]

end Go.Proofs.YtldhebpkplglcaaGreatDoor
