/- Signs of a text in quotes. Plain. -/
import Derived.Test.YtldhebpkplglcaaGreatDoorFd
namespace Go.Proofs.YtldhebpkplglcaaGreatDoor

/-- The letter behind a backslash; 0: there is none. -/
def shortN (p : Nat) : Nat := if p = 34 ∨ p = 92 then p else if p = 8 then 98 else if p = 9 then 116 else if p = 10 then 110 else if p = 12 then 102 else if p = 13 then 114 else 0
def hexL (n : Nat) : UInt8 := UInt8.ofNat (if n < 10 then 48 + n else 87 + n)
def hex4 (p : Nat) : List UInt8 := [hexL (p / 4096 % 16), hexL (p / 256 % 16), hexL (p / 16 % 16), hexL (p % 16)]
/-- A code point in a text in quotes; all: signs above 127 as numbers. -/
def escA (all : Bool) (p : Nat) : List UInt8 :=
  if shortN p ≠ 0 then [92, UInt8.ofNat (shortN p)] else if p < 32 ∨ p = 127 ∨ (all = true ∧ 127 < p ∧ p < 65536) then 92 :: 117 :: hex4 p
  else if all = true ∧ 65536 ≤ p then (92 :: 117 :: hex4 (55296 + (p - 65536) / 1024)) ++ 92 :: 117 :: hex4 (56320 + (p - 65536) % 1024) else u8L (encN p)
def bodyA (all : Bool) (ps : List Nat) : List UInt8 := ps.flatMap (escA all)
/-- A text in quotes. -/
def quoteA (all : Bool) (s : List UInt8) : List UInt8 := 34 :: (bodyA all (pts s) ++ [34])
theorem bodyA_snoc (all : Bool) (ps : List Nat) (p : Nat) : bodyA all (ps ++ [p]) = bodyA all ps ++ escA all p := by simp [bodyA]
theorem encN8_len (p : Nat) : (u8L (encN p)).length ≤ 4 := by
  unfold u8L encN
  rw [List.length_map]
  repeat' split
  all_goals simp
theorem escA_len (all : Bool) (p : Nat) : (escA all p).length ≤ 12 := by
  unfold escA
  split
  · simp
  · split
    · simp [hex4]
    · split
      · simp [hex4]
      · have := encN8_len p; omega
theorem bodyA_len (all : Bool) : ∀ ps : List Nat, (bodyA all ps).length ≤ 12 * ps.length
  | [] => by simp [bodyA]
  | p :: ps => by
    have h1 := escA_len all p
    have h2 := bodyA_len all ps
    unfold bodyA at h2 ⊢
    rw [List.flatMap_cons, List.length_append, List.length_cons]
    omega
theorem quoteA_len (all : Bool) (s : List UInt8) : (quoteA all s).length ≤ 12 * s.length + 2 := by
  have h1 := bodyA_len all (pts s)
  have h2 := pts_len _ s (Nat.le_refl _)
  unfold quoteA
  rw [List.length_cons, List.length_append, List.length_singleton]
  omega

end Go.Proofs.YtldhebpkplglcaaGreatDoor
