/- Decimal digits as text: plain laws. Nothing of the program. -/
import Derived.Test.YtmdgciolnpkccaaGreatDoorNum
import Derived.Lib.ItoaNum
import Derived.Lib.Repeat
namespace Go.Proofs.YtmdgciolnpkccaaGreatDoor.Num
open Go Go.Lib

theorem digs_last {b : Nat} (hb : 2 ≤ b) (n : Nat) (hn : n ≠ 0) : ∃ zs y, digs b n = zs ++ [y] ∧ y ≠ 0 := by
  induction n using digs_ind hb with
  | h0 => exact absurd rfl hn
  | h1 n hn ih =>
    rw [digs_pos hb hn]
    by_cases h0 : n / b = 0
    · refine ⟨[], n % b, by rw [h0, digs_zero]; rfl, ?_⟩
      have := Nat.mod_add_div n b
      rw [h0] at this; omega
    · obtain ⟨zs, y, e, hy⟩ := ih h0
      exact ⟨n % b :: zs, y, by rw [e]; rfl, hy⟩
theorem digs_append {b : Nat} (hb : 2 ≤ b) (xs : List Nat) (hx : ∀ x ∈ xs, x < b) {h : Nat} (hh : h ≠ 0) : digs b (val b xs + b ^ xs.length * h) = xs ++ digs b h := by
  obtain ⟨zs, y, e, hy⟩ := digs_last hb h hh
  have hy9 : y < b := digs_lt hb h y (by rw [e]; simp)
  have hz : ∀ x ∈ xs ++ zs, x < b := fun x hx' => by
    rcases List.mem_append.1 hx' with h1 | h1
    · exact hx x h1
    · exact digs_lt hb h x (by rw [e]; simp [h1])
  have k := digs_snoc hb (xs ++ zs) y hz hy9 hy
  rw [List.append_assoc, ← e, val_append, val_digs hb] at k
  exact k

/-- The sign of a digit. -/
def chr (d : Nat) : UInt8 := UInt8.ofNat (48 + d)
theorem decDigits_digs (n : Nat) (hn : n ≠ 0) : decDigits n = ((digs 10 n).map chr).reverse := by
  induction n using digs_ind (b := 10) (by decide) with
  | h0 => exact absurd rfl hn
  | h1 n hn ih =>
    rw [decDigits, digs_pos (by decide) hn]
    by_cases h : n < 10
    · rw [dif_pos h, Nat.div_eq_of_lt h, Nat.mod_eq_of_lt h, digs_zero]; rfl
    · rw [dif_neg h, ih (by omega)]; simp [chr]
theorem decDigits_zero : decDigits 0 = [48] := by rw [decDigits]; rfl
/-- Digits filled up with noughts to k places. -/
def padT (k n : Nat) : List UInt8 := List.replicate (k - (decDigits n).length) 48 ++ decDigits n
def padL (k n : Nat) : List Nat := digs 10 n ++ List.replicate (k - (digs 10 n).length) 0
theorem decDigits_len (n : Nat) (hn : n ≠ 0) : (decDigits n).length = (digs 10 n).length := by rw [decDigits_digs n hn]; simp
theorem padT_eq (k n : Nat) (hk : 1 ≤ k) : padT k n = ((padL k n).map chr).reverse := by
  unfold padT padL
  by_cases hn : n = 0
  · subst hn
    rw [decDigits_zero, digs_zero]
    simp [chr]
    rw [← List.replicate_succ', show k - 1 + 1 = k by omega]
  · rw [decDigits_len n hn, decDigits_digs n hn]
    simp [chr]
theorem padL_length (k n : Nat) (h : n < 10 ^ k) : (padL k n).length = k := by
  have := (digs_length_le (b := 10) (by decide)).2 h
  simp [padL]; omega
theorem val_padL (k n : Nat) : val 10 (padL k n) = n := by
  unfold padL; rw [val_append, val_replicate, val_digs (by decide)]; simp
theorem padL_lt (k n : Nat) : ∀ x ∈ padL k n, x < 10 := fun x hx => by
  rcases List.mem_append.1 hx with h | h
  · exact digs_lt (by decide) n x h
  · have := List.eq_of_mem_replicate h; omega
/-- A number in front of k more digits. -/
theorem digs_join (h l k : Nat) (hh : h ≠ 0) (hl : l < 10 ^ k) : digs 10 (l + 10 ^ k * h) = padL k l ++ digs 10 h := by
  have := digs_append (b := 10) (by decide) (padL k l) (padL_lt k l) hh
  rwa [val_padL, padL_length k l hl] at this
theorem decDigits_join (h l k : Nat) (hh : h ≠ 0) (hl : l < 10 ^ k) (hk : 1 ≤ k) : decDigits (l + 10 ^ k * h) = decDigits h ++ padT k l := by
  have h0 : l + 10 ^ k * h ≠ 0 := by
    have := Nat.mul_pos (Nat.pow_pos (n := k) (show 0 < 10 by decide)) (Nat.pos_of_ne_zero hh); omega
  rw [decDigits_digs _ h0, digs_join h l k hh hl, decDigits_digs h hh, padT_eq k l hk]
  simp
theorem digs_length_join (h l k : Nat) (hh : h ≠ 0) (hl : l < 10 ^ k) : (digs 10 (l + 10 ^ k * h)).length = k + (digs 10 h).length := by
  rw [digs_join h l k hh hl, List.length_append, padL_length k l hl]
theorem decDigits_le (n k : Nat) (hk : 1 ≤ k) (h : n < 10 ^ k) : (decDigits n).length ≤ k := by
  by_cases hn : n = 0
  · subst hn; rw [decDigits_zero]; simpa using hk
  · rw [decDigits_len n hn]; exact (digs_length_le (by decide)).2 h
theorem decDigits_pos (n : Nat) : 1 ≤ (decDigits n).length := by
  by_cases hn : n = 0
  · subst hn; rw [decDigits_zero]; simp
  · rw [decDigits_len n hn]; exact length_pos (by decide) hn
theorem repeatL_one (c : UInt8) (n : Nat) : repeatL [c] n = List.replicate n c := by
  induction n with
  | zero => rfl
  | succ n ih => rw [repeatL, ih, List.replicate_succ]; rfl

end Go.Proofs.YtmdgciolnpkccaaGreatDoor.Num
