/- What FormatBack asks of base64 and %-signs: plain laws. -/
import Derived.Test.YtafeofgjmlhklaaGreatDoorFmtW
namespace Go.Proofs.YtafeofgjmlhklaaGreatDoor

theorem ascii_encs : ∀ ps : List Nat, (∀ p ∈ ps, p < 128) → encs ps = ps
  | [], _ => rfl
  | p :: ps, h => by
    rw [encs_cons, ascii_encs ps (fun q hq => h q (by simp [hq]))]
    unfold encN
    rw [if_pos (h p (by simp))]
    rfl
theorem ascii_sound (l : List UInt8) (h : ∀ c ∈ l, c.toNat < 128) : soundB l = true := by
  have hp : ∀ p ∈ nats l, p < 128 := by
    intro p hp
    obtain ⟨c, hc, rfl⟩ := List.mem_map.1 hp
    exact h c hc
  unfold soundB
  rw [decide_eq_true_eq, ← ascii_encs (nats l) hp, valid_encs _ (fun p hp2 => by have := hp p hp2; unfold isPt; omega), ascii_encs (nats l) hp, nats_length]
theorem b64_sound (c : List UInt8) : soundB (b64 c) = true := ascii_sound _ fun x hx => by have := b64_range c x hx; omega
theorem b64B_mem (c : List UInt8) : ∀ x ∈ b64B c, x ∈ b64 c := by
  obtain ⟨k, _, e⟩ := b64_split c
  intro x hx
  rw [e]
  exact List.mem_append_left _ hx
theorem b64B_sound (c : List UInt8) : soundB (b64B c) = true := ascii_sound _ fun x hx => by have := b64_range c x (b64B_mem c x hx); omega
theorem b64B_len (c : List UInt8) : (b64B c).length ≤ (b64 c).length := by
  obtain ⟨k, _, e⟩ := b64_split c
  rw [e, List.length_append]
  omega
theorem coded_b64 (c : List UInt8) : codedR (b64 c) = (c, true) := by
  unfold codedR
  rw [trim_b64, deb_b64]
  simp
theorem coded_b64B (c : List UInt8) : codedR (b64B c) = (c, true) := by
  have h : Lib.trimRightB (b64B c) 61 = b64B c := by
    have := trim_rep (b64B c) 0 (b64B_no c)
    rwa [List.replicate_zero, List.append_nil] at this
  unfold codedR
  rw [h, deb_b64]
  simp [trim_b64]
theorem uri_range (s : List UInt8) : ∀ x ∈ uriL s, 37 ≤ x.toNat ∧ x.toNat ≤ 126 := by
  intro x hx
  unfold uriL at hx
  obtain ⟨c, _, hc⟩ := List.mem_flatMap.1 hx
  exact uriB_range c x hc

end Go.Proofs.YtafeofgjmlhklaaGreatDoor
