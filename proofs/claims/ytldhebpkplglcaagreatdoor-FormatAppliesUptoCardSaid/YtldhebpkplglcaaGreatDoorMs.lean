/- The document's answer on texts: a code point's bytes, the first code point. The document's answer on a text's first code point: plain laws. Nothing is walked here. The document's answer on a text's first code point, and how far it is sound: the walks. How far a text is sound, by the document. The document's answer on texts: the code points of a sound one. The document's answer on texts: sound ones held against each other. -/
import Derived.Test.YtldhebpkplglcaaGreatDoorMk
import Derived.Test.YtldhebpkplglcaaGreatDoorMf
import Derived.Laws.IdiomStrings
import Derived.Deep.CutBlock
namespace Go.Proofs.YtldhebpkplglcaaGreatDoor
open Go.RowKit

/-- How many bytes a first byte asks for. -/
def sizeN (c : Nat) : Nat := if c < 128 then 1 else if c < 192 then 0 else if c < 224 then 2 else if c < 240 then 3 else if c < 248 then 4 else 0
theorem ref4_size (c : Nat) (w : World) (hc : c < 256) : Calls Tryz.prog 130 #[.int .u8 (c : Int)] w fun e w' => e = .returned (.int .i64 ((sizeN c : Nat) : Int)) ∧ w' = w := by
  by_cases h1 : c < 128
  · have k1 : (c : Int) < 128 := by omega
    have e : sizeN c = 1 := by unfold sizeN; rw [if_pos h1]
    rw [e]
    go_enter Tryz.func130, Tryz.ntmps130
    go_wp2
    go_ret
    exact ⟨rfl, rfl⟩
  have k1 : ¬ (c : Int) < 128 := by omega
  by_cases h2 : c < 192
  · have k2 : (c : Int) < 192 := by omega
    have e : sizeN c = 0 := by unfold sizeN; rw [if_neg h1, if_pos h2]
    rw [e]
    go_enter Tryz.func130, Tryz.ntmps130
    go_wp2
    go_ret
    exact ⟨rfl, rfl⟩
  have k2 : ¬ (c : Int) < 192 := by omega
  by_cases h3 : c < 224
  · have k3 : (c : Int) < 224 := by omega
    have e : sizeN c = 2 := by unfold sizeN; rw [if_neg h1, if_neg h2, if_pos h3]
    rw [e]
    go_enter Tryz.func130, Tryz.ntmps130
    go_wp2
    go_ret
    exact ⟨rfl, rfl⟩
  have k3 : ¬ (c : Int) < 224 := by omega
  by_cases h4 : c < 240
  · have k4 : (c : Int) < 240 := by omega
    have e : sizeN c = 3 := by unfold sizeN; rw [if_neg h1, if_neg h2, if_neg h3, if_pos h4]
    rw [e]
    go_enter Tryz.func130, Tryz.ntmps130
    go_wp2
    go_ret
    exact ⟨rfl, rfl⟩
  have k4 : ¬ (c : Int) < 240 := by omega
  by_cases h5 : c < 248
  · have k5 : (c : Int) < 248 := by omega
    have e : sizeN c = 4 := by unfold sizeN; rw [if_neg h1, if_neg h2, if_neg h3, if_neg h4, if_pos h5]
    rw [e]
    go_enter Tryz.func130, Tryz.ntmps130
    go_wp2
    go_ret
    exact ⟨rfl, rfl⟩
  have k5 : ¬ (c : Int) < 248 := by omega
  have e : sizeN c = 0 := by unfold sizeN; rw [if_neg h1, if_neg h2, if_neg h3, if_neg h4, if_neg h5]
  rw [e]
  go_enter Tryz.func130, Tryz.ntmps130
  go_wp2
  go_ret
  exact ⟨rfl, rfl⟩

def isPtB (p : Nat) : Bool := decide (p < 55296 ∨ (57344 ≤ p ∧ p ≤ 1114111))
theorem isPtB_iff {p : Nat} : isPtB p = true ↔ isPt p := by simp [isPtB, isPt]
theorem ref4_Is (p : Nat) (w : World) : Calls Tryz.prog 131 #[.int .i64 (p : Int)] w fun e w' => e = .returned (.bool (isPtB p)) ∧ w' = w := by
  have k0 : (0 : Int) ≤ p := by omega
  obtain ⟨B, hB⟩ : ∃ B, B = isPtB p := ⟨_, rfl⟩
  rw [← hB]
  by_cases h1 : p < 55296
  · have k1 : (p : Int) < 55296 := by omega
    have k2 : (p : Int) ≤ 1114111 := by omega
    have : B = true := by rw [hB]; simp [isPtB, h1]
    clear hB; subst this
    go_enter Tryz.func131, Tryz.ntmps131
    go_wp2
    go_ret
    exact ⟨rfl, rfl⟩
  have k1 : ¬ (p : Int) < 55296 := by omega
  by_cases h2 : p ≤ 1114111
  · have k2 : (p : Int) ≤ 1114111 := by omega
    by_cases h3 : 57344 ≤ p
    · have k3 : (57343 : Int) < p := by omega
      have : B = true := by rw [hB]; simp [isPtB, h2, h3]
      clear hB; subst this
      go_enter Tryz.func131, Tryz.ntmps131
      go_wp2
      go_ret
      exact ⟨rfl, rfl⟩
    · have k3 : ¬ (57343 : Int) < p := by omega
      have : B = false := by rw [hB]; simp [isPtB]; omega
      clear hB; subst this
      go_enter Tryz.func131, Tryz.ntmps131
      go_wp2
      go_ret
      exact ⟨rfl, rfl⟩
  · have k2 : ¬ (p : Int) ≤ 1114111 := by omega
    have : B = false := by rw [hB]; simp [isPtB]; omega
    clear hB; subst this
    go_enter Tryz.func131, Tryz.ntmps131
    go_wp2
    go_ret
    exact ⟨rfl, rfl⟩

/-- Bytes laid in a new block, made a text. -/
theorem new_text (xs : List Nat) (hx : ∀ x ∈ xs, x < 256) (w : World) :
    (convert 77 9 (.slice (some ⟨w.heap.size, 0, none⟩) xs.length xs.length)).run Tryz.prog (w.alloc (.cells (xs.map fun (x : Nat) => Value.int .u8 (x : Int)).toArray 5)) = .ok (.string ⟨(xs.map UInt8.ofNat).toArray⟩) (w.alloc (.cells (xs.map fun (x : Nat) => Value.int .u8 (x : Int)).toArray 5)) := by
  have := run_convert_bytes_back (P := Tryz.prog) (w.alloc (.cells (xs.map fun (x : Nat) => Value.int .u8 (x : Int)).toArray 5)) 77 9 5 ⟨w.heap.size, 0, none⟩ xs.length (xs.map UInt8.ofNat) Tryz.underlying77 Tryz.underlying5 Tryz.underlying9 (fun j hj => by
    rw [Addr.add_lit, Nat.zero_add]
    have hj' : j < xs.length := by simpa using hj
    have hv := hx _ (List.getElem_mem hj')
    have : (UInt8.ofNat xs[j]).toNat = xs[j] := by rw [UInt8.toNat_ofNat']; omega
    simp only [List.getElem_map, this]
    rw [World.cell?_alloc_at (hn := rfl)]
    simp [hj'])
  simpa using this

def bysN (xs : List Nat) : List UInt8 := xs.map UInt8.ofNat
theorem nats_bys (xs : List Nat) (h : ∀ x ∈ xs, x < 256) : nats (bysN xs) = xs := by
  simp only [nats, bysN, List.map_map]
  conv => rhs; rw [← List.map_id xs]
  refine List.map_congr_left fun x hx => ?_
  have := h x hx
  simp only [Function.comp, id, UInt8.toNat_ofNat']
  omega
set_option maxRecDepth 100000 in
theorem ref4_Bytes (p : Nat) (w : World) (hp : p ≤ 1114111) : Calls Tryz.prog 85 #[.int .i64 (p : Int)] w fun e w' => e = .returned (.string ⟨(bysN (encN p)).toArray⟩) ∧ Below w.heap.size w w' := by
  by_cases h1 : p < 128
  · have k1 : (p : Int) < 128 := by omega
    have e : encN p = [p] := by unfold encN; rw [if_pos h1]
    rw [e]
    have hc := new_text [p] (by simp; omega) w
    simp only [List.length_cons, List.length_nil, List.map_cons, List.map_nil] at hc
    obtain ⟨s, hs⟩ : ∃ s : ByteArray, s = ⟨(bysN [p]).toArray⟩ := ⟨_, rfl⟩
    have hc2 : (convert 77 9 (.slice (some ⟨w.heap.size, 0, none⟩) 1 1)).run Tryz.prog (w.alloc (.cells #[.int .u8 (p : Int)] 5)) = .ok (.string s) (w.alloc (.cells #[.int .u8 (p : Int)] 5)) := by rw [hs]; have := hc; push_cast at this; exact this
    rw [← hs]
    clear hc hs e
    have w1 : IntKind.u8.wrap ((p : Int)) = ((p : Nat) : Int) := by rw [IntKind.wrap_u8]; omega
    go_enter Tryz.func85, Tryz.ntmps85
    go_wp2
    go_ret
    exact ⟨rfl, (Below.refl _ _).alloc (Nat.le_refl _) _⟩
  have k1 : ¬ (p : Int) < 128 := by omega
  by_cases h2 : p < 2048
  · have k2 : (p : Int) < 2048 := by omega
    have e : encN p = [192 + p / 64, 128 + p % 64] := by unfold encN; rw [if_neg h1, if_pos h2]
    rw [e]
    have hc := new_text [192 + p / 64, 128 + p % 64] (by simp; omega) w
    simp only [List.length_cons, List.length_nil, List.map_cons, List.map_nil] at hc
    obtain ⟨s, hs⟩ : ∃ s : ByteArray, s = ⟨(bysN [192 + p / 64, 128 + p % 64]).toArray⟩ := ⟨_, rfl⟩
    have hc2 : (convert 77 9 (.slice (some ⟨w.heap.size, 0, none⟩) 2 2)).run Tryz.prog (w.alloc (.cells #[.int .u8 (192 + (p : Int) / 64), .int .u8 (128 + (p : Int) % 64)] 5)) = .ok (.string s) (w.alloc (.cells #[.int .u8 (192 + (p : Int) / 64), .int .u8 (128 + (p : Int) % 64)] 5)) := by rw [hs]; have := hc; push_cast at this; exact this
    rw [← hs]
    clear hc hs e
    go_enter Tryz.func85, Tryz.ntmps85
    go_wp2
    go_ret
    exact ⟨rfl, (Below.refl _ _).alloc (Nat.le_refl _) _⟩
  have k2 : ¬ (p : Int) < 2048 := by omega
  by_cases h3 : p < 65536
  · have k3 : (p : Int) < 65536 := by omega
    have e : encN p = [224 + p / 4096, 128 + p / 64 % 64, 128 + p % 64] := by unfold encN; rw [if_neg h1, if_neg h2, if_pos h3]
    rw [e]
    have hc := new_text [224 + p / 4096, 128 + p / 64 % 64, 128 + p % 64] (by simp; omega) w
    simp only [List.length_cons, List.length_nil, List.map_cons, List.map_nil] at hc
    obtain ⟨s, hs⟩ : ∃ s : ByteArray, s = ⟨(bysN [224 + p / 4096, 128 + p / 64 % 64, 128 + p % 64]).toArray⟩ := ⟨_, rfl⟩
    have hc2 : (convert 77 9 (.slice (some ⟨w.heap.size, 0, none⟩) 3 3)).run Tryz.prog (w.alloc (.cells #[.int .u8 (224 + (p : Int) / 4096), .int .u8 (128 + (p : Int) / 64 % 64), .int .u8 (128 + (p : Int) % 64)] 5)) = .ok (.string s) (w.alloc (.cells #[.int .u8 (224 + (p : Int) / 4096), .int .u8 (128 + (p : Int) / 64 % 64), .int .u8 (128 + (p : Int) % 64)] 5)) := by rw [hs]; have := hc; push_cast at this; exact this
    rw [← hs]
    clear hc hs e
    go_enter Tryz.func85, Tryz.ntmps85
    go_wp2
    go_ret
    exact ⟨rfl, (Below.refl _ _).alloc (Nat.le_refl _) _⟩
  have k3 : ¬ (p : Int) < 65536 := by omega
  have e : encN p = [240 + p / 262144, 128 + p / 4096 % 64, 128 + p / 64 % 64, 128 + p % 64] := by unfold encN; rw [if_neg h1, if_neg h2, if_neg h3]
  rw [e]
  have hc := new_text [240 + p / 262144, 128 + p / 4096 % 64, 128 + p / 64 % 64, 128 + p % 64] (by simp; omega) w
  simp only [List.length_cons, List.length_nil, List.map_cons, List.map_nil] at hc
  obtain ⟨s, hs⟩ : ∃ s : ByteArray, s = ⟨(bysN [240 + p / 262144, 128 + p / 4096 % 64, 128 + p / 64 % 64, 128 + p % 64]).toArray⟩ := ⟨_, rfl⟩
  have q0 : ((240 + p / 262144 : Nat) : Int) = 240 + (p : Int) / 262144 := by omega
  have q1 : ((128 + p / 4096 % 64 : Nat) : Int) = 128 + (p : Int) / 4096 % 64 := by omega
  have q2 : ((128 + p / 64 % 64 : Nat) : Int) = 128 + (p : Int) / 64 % 64 := by omega
  have q3 : ((128 + p % 64 : Nat) : Int) = 128 + (p : Int) % 64 := by omega
  rw [q0, q1, q2, q3] at hc
  have hc2 : (convert 77 9 (.slice (some ⟨w.heap.size, 0, none⟩) 4 4)).run Tryz.prog (w.alloc (.cells #[.int .u8 (240 + (p : Int) / 262144), .int .u8 (128 + (p : Int) / 4096 % 64), .int .u8 (128 + (p : Int) / 64 % 64), .int .u8 (128 + (p : Int) % 64)] 5)) = .ok (.string s) (w.alloc (.cells #[.int .u8 (240 + (p : Int) / 262144), .int .u8 (128 + (p : Int) / 4096 % 64), .int .u8 (128 + (p : Int) / 64 % 64), .int .u8 (128 + (p : Int) % 64)] 5)) := by rw [hs]; exact hc
  clear q0 q1 q2 q3
  rw [← hs]
  clear hc hs e
  go_enter Tryz.func85, Tryz.ntmps85
  go_wp2
  go_ret
  exact ⟨rfl, (Below.refl _ _).alloc (Nat.le_refl _) _⟩

end Go.Proofs.YtldhebpkplglcaaGreatDoor

namespace Go.Proofs.YtldhebpkplglcaaGreatDoor

/-- A first byte's share. -/
def headN (n c : Nat) : Nat := if n = 2 then c - 192 else if n = 3 then c - 224 else c - 240
def raw (h : Nat) (l : List Nat) : Nat → Nat
  | 0 => h
  | k + 1 => 64 * raw h l k + l.getD (k + 1) 0 % 64
theorem raw_le (h : Nat) (l : List Nat) (hh : h < 64) : ∀ k, k ≤ 3 → raw h l k ≤ 16777215 := by
  intro k hk
  have h0 : raw h l 0 < 64 := hh
  have h1 : raw h l 1 < 4096 := by have := Nat.mod_lt (l.getD 1 0) (show 0 < 64 by decide); simp only [raw] at *; omega
  have h2 : raw h l 2 < 262144 := by have := Nat.mod_lt (l.getD 2 0) (show 0 < 64 by decide); rw [raw]; omega
  have h3 : raw h l 3 < 16777216 := by have := Nat.mod_lt (l.getD 3 0) (show 0 < 64 by decide); rw [raw]; omega
  obtain rfl | rfl | rfl | rfl : k = 0 ∨ k = 1 ∨ k = 2 ∨ k = 3 := by omega
  all_goals omega
theorem size_2 {c : Nat} (h1 : 192 ≤ c) (h2 : c < 224) : sizeN c = 2 := by unfold sizeN; rw [if_neg (by omega), if_neg (by omega), if_pos h2]
theorem size_3 {c : Nat} (h1 : 224 ≤ c) (h2 : c < 240) : sizeN c = 3 := by unfold sizeN; rw [if_neg (by omega), if_neg (by omega), if_neg (by omega), if_pos h2]
theorem size_4 {c : Nat} (h1 : 240 ≤ c) (h2 : c < 248) : sizeN c = 4 := by unfold sizeN; rw [if_neg (by omega), if_neg (by omega), if_neg (by omega), if_neg (by omega), if_pos h2]
theorem size_0 {c : Nat} (h1 : 128 ≤ c) (h2 : c < 192 ∨ 248 ≤ c) : sizeN c = 0 := by
  unfold sizeN
  rw [if_neg (by omega)]
  rcases h2 with h2 | h2
  · rw [if_pos h2]
  · rw [if_neg (by omega), if_neg (by omega), if_neg (by omega), if_neg (by omega)]
theorem size_1 {c : Nat} (h1 : c < 128) : sizeN c = 1 := by unfold sizeN; rw [if_pos h1]
theorem head_lt {c : Nat} (h : 2 ≤ sizeN c) : headN (sizeN c) c < 64 ∧ (sizeN c = 2 → 192 ≤ c) ∧ (sizeN c = 3 → 224 ≤ c) ∧ (sizeN c = 4 → 240 ≤ c) ∧ sizeN c ≤ 4 := by
  by_cases a0 : c < 128
  · rw [size_1 a0] at h; omega
  by_cases a1 : c < 192
  · rw [size_0 (by omega) (.inl a1)] at h; omega
  by_cases a2 : c < 224
  · rw [size_2 (by omega) a2]; unfold headN; simp; omega
  by_cases a3 : c < 240
  · rw [size_3 (by omega) a3]; unfold headN; simp; omega
  by_cases a4 : c < 248
  · rw [size_4 (by omega) a4]; unfold headN; simp; omega
  · rw [size_0 (by omega) (.inr (by omega))] at h; omega
theorem dec_kinds (n b0 b1 b2 b3 : Nat) : Lib.decodeN n b0 b1 b2 b3 = (65533, 1) ∨ 1 < (Lib.decodeN n b0 b1 b2 b3).2 ∨ ((Lib.decodeN n b0 b1 b2 b3).2 = 1 ∧ (Lib.decodeN n b0 b1 b2 b3).1 < 128) := by
  unfold Lib.decodeN
  repeat' split
  all_goals (first | exact .inl rfl | (refine .inr (.inl ?_); dsimp only; omega) | (exact .inr (.inr ⟨rfl, by assumption⟩)))
theorem dec_bad {l : List Nat} (h : ¬ okB l = true) (hne : l ≠ []) : decB l = (65533, 1) := by
  unfold okB at h
  simp only [hne, ne_eq, not_false_eq_true, decide_true, Bool.true_and, Bool.or_eq_true, Bool.and_eq_true, decide_eq_true_eq, not_or, not_and] at h
  unfold decB at h ⊢
  rcases dec_kinds l.length (l.getD 0 0) (l.getD 1 0) (l.getD 2 0) (l.getD 3 0) with e | e | e
  · exact e
  · omega
  · exact absurd e.2 (by have := h.2 e.1; omega)
theorem enc_size (p : Nat) (r : List Nat) (hp : isPt p) : sizeN ((encN p ++ r).getD 0 0) = (encN p).length ∧ (2 ≤ (encN p).length → raw (headN (encN p).length ((encN p ++ r).getD 0 0)) (encN p ++ r) ((encN p).length - 1) = p) ∧ ((encN p).length = 1 → p = (encN p ++ r).getD 0 0) := by
  unfold isPt at hp
  unfold encN
  by_cases h1 : p < 128
  · simp only [h1, if_true]
    simp [size_1 h1]
  by_cases h2 : p < 2048
  · simp only [h1, h2, if_true, if_false]
    refine ⟨?_, ?_, by simp⟩
    · simp; exact size_2 (by omega) (by omega)
    · intro _; simp [raw, headN]; omega
  by_cases h3 : p < 65536
  · simp only [h1, h2, h3, if_true, if_false]
    refine ⟨?_, ?_, by simp⟩
    · simp; exact size_3 (by omega) (by omega)
    · intro _; simp [raw, headN]; omega
  · simp only [h1, h2, h3, if_false]
    refine ⟨?_, ?_, by simp⟩
    · simp; exact size_4 (by omega) (by omega)
    · intro _; simp [raw, headN]; omega
/-- No code point: too short, or no first byte. -/
theorem ref_none {l : List Nat} (hb : ∀ x ∈ l, x < 256) (h : sizeN (l.getD 0 0) = 0 ∨ l.length < sizeN (l.getD 0 0)) : ¬ okB l = true := fun hok => by
  obtain ⟨p, r, hp, he, hd⟩ := enc_dec l hok hb
  have := (enc_size p r hp).1
  have h1 := encN_pos p
  rw [← he] at this
  have h2 : l.length = (encN p).length + r.length := by rw [he]; simp
  omega
theorem ref_one {l : List Nat} (hne : l ≠ []) (h : sizeN (l.getD 0 0) = 1) : okB l = true ∧ decB l = (l.getD 0 0, 1) := by
  have h0 : l.getD 0 0 < 128 := by
    unfold sizeN at h
    repeat' split at h
    all_goals omega
  have e : decB l = (l.getD 0 0, 1) := by unfold decB Lib.decodeN; rw [if_pos h0]
  refine ⟨?_, e⟩
  unfold okB
  rw [e]
  simp only [hne, h0, ne_eq, not_false_eq_true, decide_true, Bool.and_true, Bool.or_true]
theorem ref_yes {l : List Nat} {P n : Nat} (hP : isPt P) (h : encN P = l.take n) (hn : n ≤ l.length) : okB l = true ∧ decB l = (P, n) := by
  have hl : (encN P).length = n := by rw [h]; simp; omega
  have := dec_enc P hP (l.drop n)
  rw [h, List.take_append_drop] at this
  rw [h] at hl
  exact ⟨this.2, by rw [this.1, hl]⟩
theorem ref_no {l : List Nat} {n : Nat} (hb : ∀ x ∈ l, x < 256) (hn : n = sizeN (l.getD 0 0)) (h2 : 2 ≤ n) (h : ¬ (isPt (raw (headN n (l.getD 0 0)) l (n - 1)) ∧ encN (raw (headN n (l.getD 0 0)) l (n - 1)) = l.take n)) : ¬ okB l = true := fun hok => by
  obtain ⟨p, r, hp, he, hd⟩ := enc_dec l hok hb
  have E := enc_size p r hp
  rw [← he] at E
  rw [E.1] at hn
  have := E.2.1 (by omega)
  rw [← hn] at this
  rw [this] at h
  refine h ⟨hp, ?_⟩
  rw [he, hn]; simp

end Go.Proofs.YtldhebpkplglcaaGreatDoor

namespace Go.Proofs.YtldhebpkplglcaaGreatDoor
open Go.RowKit

theorem byte_ix (l : List UInt8) (i : Nat) (hi : i < l.length) (W : World) :
    (Instr.index 9 (.string ⟨l.toArray⟩) (.int .i64 (i : Int))).run Tryz.prog W = .ok (.int .u8 (((nats l).getD i 0 : Nat) : Int)) W := by
  have hs : (⟨l.toArray⟩ : ByteArray).size = l.length := rfl
  rw [run_index_string W 9 _ .i64 (i : Int) Tryz.underlying9, dif_pos ⟨by omega, by omega⟩]
  have e : (nats l).getD i 0 = (l[i]'hi).toNat := by
    unfold nats
    rw [nat_getD, List.getD_eq_getElem?_getD, List.getElem?_eq_getElem hi]; rfl
  rw [e]
  rfl

set_option maxRecDepth 100000 in
set_option maxHeartbeats 1600000 in
theorem ref4_Decode (l : List UInt8) (w : World) (hl : l.length ≤ 9223372036854775807) :
    Calls Tryz.prog 86 #[.string ⟨l.toArray⟩] w fun e w' => e = .returned (.tuple #[.int .i64 ((decG l).1 : Int), .int .i64 ((decG l).2 : Int), .bool (okB (nats l))]) ∧ Below w.heap.size w w' := by
  have hsz : (⟨l.toArray⟩ : ByteArray).size = l.length := rfl
  by_cases hne : l = []
  · subst hne
    have e1 : decG [] = (65533, 0) := rfl
    have e2 : okB (nats []) = false := rfl
    rw [e1, e2]
    go_enter Tryz.func86, Tryz.ntmps86
    go_wp2
    refine bodyPost_ret (v := .tuple #[.int .i64 65533, .int .i64 0, .bool false]) (by simp [results, Tryz.results86, go_sem]) rfl ⟨rfl, Below.refl _ _⟩
  have hpos : 0 < l.length := List.length_pos_iff.2 hne
  have hnn : nats l ≠ [] := fun e => hne (by simpa [nats] using e)
  have hD : decG l = decB (nats l) := by unfold decG; rw [if_neg hne]
  rw [hD]
  have H1 := @ref_none (nats l) (nats_lt l)
  have H2 := @ref_one (nats l) hnn
  have H3 := @ref_yes (nats l)
  have H4 := @ref_no (nats l) (sizeN ((nats l).getD 0 0)) (nats_lt l) rfl
  have H5 := @dec_bad (nats l)
  have hz : ((l.length : Int) == 0) = false := by rw [beq_eq_false_iff_ne]; omega
  have hix := fun i hi => byte_ix l i hi
  have hG : ∀ i, (nats l).getD i 0 < 256 := fun i => by
    by_cases hi : i < (nats l).length
    · rw [List.getD_eq_getElem?_getD, List.getElem?_eq_getElem hi]; exact nats_lt l _ (List.getElem_mem hi)
    · rw [List.getD_eq_getElem?_getD, List.getElem?_eq_none (by omega)]; decide
  have hc := hG 0
  have hix0 : ∀ W, (Instr.index 9 (.string ⟨l.toArray⟩) (.int .i64 0)).run Tryz.prog W = .ok (.int .u8 (((nats l).getD 0 0 : Nat) : Int)) W := fun W => hix 0 hpos W
  have hHL := @head_lt ((nats l).getD 0 0)
  have hRL := fun n h => raw_le (headN n ((nats l).getD 0 0)) (nats l) h
  have hSZ := fun w1 => ref4_size ((nats l).getD 0 0) w1 hc
  rw [nats_length] at H1 H3
  have hT1 : ∀ k : Nat, k ≤ l.length → ∀ W, (Instr.slice 9 (.string ⟨l.toArray⟩) none (some (.int .i64 (k : Int))) none).run Tryz.prog W = .ok (.string ⟨(l.take k).toArray⟩) W := fun k hk W => by
    rw [run_slice_string_h (h0 := by omega) (h2 := by omega) (ht := Tryz.underlying9), Int.toNat_natCast]
    congr 2
    apply ByteArray.ext
    simp
  have hT2 : ∀ (P k : Nat), isPt P → (((⟨(bysN (encN P)).toArray⟩ : ByteArray).toList == (⟨(l.take k).toArray⟩ : ByteArray).toList) = true ↔ encN P = (nats l).take k) := fun P k hP => by
    rw [ByteArray.toList_eq, ByteArray.toList_eq, beq_iff_eq]
    show bysN (encN P) = l.take k ↔ _
    constructor
    · intro h
      have := congrArg nats h
      rw [nats_bys _ (encN_lt P hP)] at this
      rw [this]; simp [nats, List.map_take]
    · intro h
      refine nats_inj ?_
      rw [nats_bys _ (encN_lt P hP), h]; simp [nats, List.map_take]
  replace H5 := fun h => H5 h hnn
  clear hD hne hnn
  generalize nats l = N at *
  generalize (⟨l.toArray⟩ : ByteArray) = s at *
  generalize okB N = B at *
  generalize decB N = q at *
  generalize hcN : N.getD 0 0 = c at *
  generalize hn : sizeN c = n at *
  by_cases hA : n = 0 ∨ l.length < n
  · have hB : B = false := by simpa using H1 hA
    subst hB
    have hq := H5 (by simp)
    subst hq
    clear H1 H2 H3 H4 H5
    have HSZ := hid hSZ
    clear hSZ hT2 hT1 hRL hHL
    by_cases h0 : n = 0
    · subst h0
      go_enter Tryz.func86, Tryz.ntmps86
      go_wp2_with fail
      refine (HSZ.out _).mono ?_
      rintro e w' ⟨rfl, rfl⟩
      go_wp2
      refine bodyPost_ret (v := .tuple #[.int .i64 65533, .int .i64 1, .bool false]) (by simp [results, Tryz.results86, go_sem]) rfl ⟨rfl, Below.refl _ _⟩
    · have hz2 : ((n : Int) == 0) = false := by rw [beq_eq_false_iff_ne]; omega
      have hz3 : (s.size : Int) < (n : Int) := by omega
      go_enter Tryz.func86, Tryz.ntmps86
      go_wp2_with fail
      refine (HSZ.out _).mono ?_
      rintro e w' ⟨rfl, rfl⟩
      go_wp2
      refine bodyPost_ret (v := .tuple #[.int .i64 65533, .int .i64 1, .bool false]) (by simp [results, Tryz.results86, go_sem]) rfl ⟨rfl, Below.refl _ _⟩
  have hz2 : ((n : Int) == 0) = false := by rw [beq_eq_false_iff_ne]; omega
  have hz3 : ¬ (s.size : Int) < (n : Int) := by omega
  by_cases h1 : n = 1
  · subst h1
    obtain ⟨rfl, rfl⟩ := H2 rfl
    have HSZ := hid hSZ
    clear hSZ hT2 hT1 hRL hHL H1 H3 H4 H5
    have hw : IntKind.i64.wrap (c : Int) = c := IntWalk.i64_in _ (by omega)
    go_enter Tryz.func86, Tryz.ntmps86
    go_wp2_with fail
    refine (HSZ.out _).mono ?_
    rintro e w' ⟨rfl, rfl⟩
    go_wp2
    refine bodyPost_ret (v := .tuple #[.int .i64 (c : Int), .int .i64 1, .bool true]) (by simp [results, Tryz.results86, go_sem]) rfl ⟨rfl, Below.refl _ _⟩
  obtain ⟨d1, d2, d3, d4, d5⟩ := hHL (by omega)
  have hR := fun k h => hRL n d1 k h
  generalize hH : headN n c = H at *
  obtain ⟨P, hP⟩ : ∃ P, P = raw H N (n - 1) := ⟨_, rfl⟩
  have hPle : P ≤ 16777215 := by rw [hP]; exact hR _ (by omega)
  have hCI := ref4_Is P
  have hCB := fun w1 h => ref4_Bytes P w1 h
  have hQ : (isPtB P = true ∧ encN P = N.take n ∧ B = true ∧ q = (P, n)) ∨ (isPtB P = true ∧ encN P ≠ N.take n ∧ B = false ∧ q = (65533, 1)) ∨ (isPtB P = false ∧ B = false ∧ q = (65533, 1)) := by
    by_cases hp : isPt P
    · have hp2 := isPtB_iff.2 hp
      by_cases he : encN P = N.take n
      · obtain ⟨e1, e2⟩ := H3 hp he (by omega)
        exact .inl ⟨hp2, he, e1, e2⟩
      · have := H4 (by omega) (by rw [← hP]; exact fun h => he h.2)
        exact .inr (.inl ⟨hp2, he, by simpa using this, H5 this⟩)
    · have := H4 (by omega) (by rw [← hP]; exact fun h => hp h.1)
      exact .inr (.inr ⟨by rw [Bool.eq_false_iff]; exact fun h => hp (isPtB_iff.1 h), by simpa using this, H5 this⟩)
  have hTk := hT1 n (by omega)
  have hE := fun h => hT2 P n h
  have H0 : (H : Int) = if n = 2 then (c : Int) - 192 else if n = 3 then (c : Int) - 224 else (c : Int) - 240 := by
    rw [← hH]; unfold headN
    repeat' split
    all_goals omega
  generalize (⟨(l.take n).toArray⟩ : ByteArray) = tk at *
  generalize (⟨(bysN (encN P)).toArray⟩ : ByteArray) = bs at *
  have HSZ := hid hSZ
  have HIX := hid hix
  have HR := hid hR
  have HCI := hid hCI
  have HCB := hid hCB
  have HTk := hid hTk
  have HE := hid hE
  have HQ := hid hQ
  have HP := hid hP
  clear hSZ hix hR hCI hCB hTk hE hQ hP hRL hHL hT1 hT2 H1 H2 H3 H4 H5 hH hn
  have h2 : 2 ≤ n := by omega
  have h4 : n ≤ 4 := d5
  have hnl : n ≤ l.length := by omega
  clear d2 d3 d4 d5
  have hw : IntKind.i64.wrap (c : Int) = c := IntWalk.i64_in _ (by omega)
  go_enter Tryz.func86, Tryz.ntmps86
  go_wp2_with fail
  refine (HSZ.out _).mono ?_
  rintro e w' ⟨rfl, hw1⟩
  rw [hw1]
  clear hw1 w'
  have hk1 : ((n : Int) == 1) = false := by rw [beq_eq_false_iff_ne]; omega
  go_upto_block 0 with fail
  go_cut [6] from 7 (fun v6 w' => v6 = .int .i64 (H : Int) ∧ w' = w)
  case first =>
    as_aux_lemma =>
      obtain rfl | rfl | rfl : n = 2 ∨ n = 3 ∨ n = 4 := by omega
      all_goals
        simp at H0
        go_wp2_with fail
        go_meet
        case rel => exact ⟨by rw [H0], rfl⟩
  case rest =>
    obtain ⟨rfl, hw1⟩ := hcut
    rw [hw1]
    clear hw1
    clear H0 hix0 hw hk1
    replace hG := hid hG
    go_wp2_with fail
    go_loopw [6, 7] (fun v i wr => ∃ j : Nat, 1 ≤ j ∧ j ≤ n ∧ i = .int .i64 j ∧ v = .int .i64 ((raw H N (j - 1) : Nat) : Int) ∧ wr = w) (fun _ i _ => n - (intOf i).toNat)
    case atStart => exact ⟨1, Nat.le_refl _, by omega, rfl, rfl, rfl⟩
    case round =>
      obtain ⟨j, hj1, hj2, rfl, rfl, hw1⟩ := hrel
      rw [hw1]
      clear hw1
      by_cases hlt : j < n
      · have hlt2 : (j : Int) < n := by omega
        have hb := HR.out (j - 1) (by omega)
        have hix := HIX.out j (by omega)
        have hst : raw H N (j + 1 - 1) = 64 * raw H N (j - 1) + N.getD j 0 % 64 := by
          obtain ⟨i, rfl⟩ : ∃ i, j = i + 1 := ⟨j - 1, by omega⟩
          rfl
        generalize raw H N (j - 1) = R at *
        obtain ⟨c2, hc2⟩ : ∃ c2, c2 = N.getD j 0 := ⟨_, rfl⟩
        rw [← hc2] at hix hst
        have hcb : c2 < 256 := by rw [hc2]; exact hG.out j
        have hw2 : IntKind.i64.wrap (c2 : Int) = c2 := IntWalk.i64_in _ (by omega)
        clear hc2 hG
        have hR2 : ((raw H N (j + 1 - 1) : Nat) : Int) = 64 * (R : Int) + (c2 : Int) % 64 := by omega
        replace hR2 := hid hR2
        clear hst
        go_wp2_with fail
        go_roundw
        case rel => exact ⟨j + 1, by omega, by omega, by go_num, by rw [hR2.out], by trivial⟩
        case measure => simp [intOf]; omega
      · obtain rfl : j = n := by omega
        rw [← HP.out]
        clear HP HR HIX hG
        have hlt2 : ¬ (j : Int) < j := by omega
        rcases HQ.out with ⟨p1, p2, rfl, rfl⟩ | ⟨p1, p2, rfl, rfl⟩ | ⟨p1, rfl, rfl⟩
        · rw [p1] at HCI
          have hle : P ≤ 1114111 := by have := isPtB_iff.1 p1; unfold isPt at this; omega
          have heq : (bs.toList == tk.toList) = true := by exact (HE.out (isPtB_iff.1 p1)).2 p2
          replace heq := hid heq
          clear p2 HQ HE
          replace HCB := hid fun w1 => HCB.out w1 hle
          have htk := HTk.out
          clear HTk
          go_wp2_with fail
          have heq2 := heq.out
          go_region_law (first | (go_simp; go_at_call 131; refine (HCI.out _).mono ?_; rintro e3 w3 ⟨rfl, hw3⟩; rw [hw3]; clear hw3 w3) | (go_simp; go_at_call 85; refine (HCB.out _).mono ?_; rintro e4 w4 ⟨rfl, hb4⟩))
          all_goals
            go_wp2
            refine bodyPost_ret (v := .tuple #[.int .i64 (P : Int), .int .i64 (j : Int), .bool true]) (by simp [results, Tryz.results86, go_sem]) rfl ⟨rfl, ?_⟩
            first | exact hb4 | exact below_drewN hb4 _ | exact below_trans (below_drewN (Below.refl _ _) _) hb4 | exact below_drewN (below_trans (below_drewN (Below.refl _ _) _) hb4) _
        · rw [p1] at HCI
          have hle : P ≤ 1114111 := by have := isPtB_iff.1 p1; unfold isPt at this; omega
          have heq : (bs.toList == tk.toList) = false := by rw [Bool.eq_false_iff]; exact fun h => p2 ((HE.out (isPtB_iff.1 p1)).1 h)
          replace heq := hid heq
          clear p2 HQ HE
          replace HCB := hid fun w1 => HCB.out w1 hle
          have htk := HTk.out
          clear HTk
          go_wp2_with fail
          have heq2 := heq.out
          go_region_law (first | (go_simp; go_at_call 131; refine (HCI.out _).mono ?_; rintro e3 w3 ⟨rfl, hw3⟩; rw [hw3]; clear hw3 w3) | (go_simp; go_at_call 85; refine (HCB.out _).mono ?_; rintro e4 w4 ⟨rfl, hb4⟩))
          all_goals
            go_wp2
            refine bodyPost_ret (v := .tuple #[.int .i64 65533, .int .i64 1, .bool false]) (by simp [results, Tryz.results86, go_sem]) rfl ⟨rfl, ?_⟩
            first | exact hb4 | exact below_drewN hb4 _ | exact below_trans (below_drewN (Below.refl _ _) _) hb4 | exact below_drewN (below_trans (below_drewN (Below.refl _ _) _) hb4) _
        · rw [p1] at HCI
          clear HQ HE HCB HTk
          go_wp2_with fail
          have hCIs : ∀ n, Calls Tryz.prog 131 #[.int .i64 (P : Int)] (w.drewN n) fun e w' => e = .returned (.bool false) ∧ w.drewN n = w' := fun n => (HCI.out _).mono fun _ _ h => ⟨h.1, h.2.symm⟩
          replace hCIs := hid hCIs
          go_quiet (exact quiet_same (hCIs.out _))
          all_goals
            go_wp2
            refine bodyPost_ret (v := .tuple #[.int .i64 65533, .int .i64 1, .bool false]) (by simp [results, Tryz.results86, go_sem]) rfl ⟨rfl, by first | exact below_drewN (Below.refl _ _) _ | exact Below.refl _ _⟩

end Go.Proofs.YtldhebpkplglcaaGreatDoor

namespace Go.Proofs.YtldhebpkplglcaaGreatDoor
open Go.RowKit

set_option maxRecDepth 100000 in
theorem ref4_Valid (l : List UInt8) (w : World) (hl : l.length ≤ 9223372036854775807) :
    Calls Tryz.prog 120 #[.string ⟨l.toArray⟩] w fun e w' => e = .returned (.int .i64 ((validN (nats l) : Nat) : Int)) ∧ Below w.heap.size w w' := by
  obtain ⟨V, hV⟩ : ∃ V, V = validN (nats l) := ⟨_, rfl⟩
  rw [← hV]
  replace hV := hid hV
  have hsz : (⟨l.toArray⟩ : ByteArray).size = l.length := rfl
  obtain ⟨s, hs⟩ : ∃ s : ByteArray, s = ⟨l.toArray⟩ := ⟨_, rfl⟩
  rw [← hs] at hsz ⊢
  have hSL : ∀ k : Nat, k ≤ l.length → ∀ W, (Instr.slice 9 (.string s) (some (.int .i64 (k : Int))) none none).run Tryz.prog W = .ok (.string ⟨(l.drop k).toArray⟩) W := fun k hk W => by rw [hs]; exact slice_rest l k hk W
  replace hSL := hid hSL
  clear hs
  go_enter Tryz.func120, Tryz.ntmps120
  go_wp2
  go_loopw [3] (fun v wr => ∃ n : Nat, n ≤ l.length ∧ V = n + validN (nats (l.drop n)) ∧ v = .int .i64 n ∧ Below w.heap.size w wr) (fun v _ => l.length - (intOf v).toNat)
  case atStart => exact ⟨0, Nat.zero_le _, by rw [List.drop_zero, hV.out, Nat.zero_add], rfl, Below.refl _ _⟩
  case round =>
    obtain ⟨n, hn, hVn, rfl, hb⟩ := hrel
    have HVN := hid hVn
    clear hVn
    by_cases hlt : n < l.length
    · have hlt2 : (n : Int) < s.size := by omega
      have hsl := hSL.out n (by omega)
      have C := ref4_Decode (l.drop n) wr (by rw [List.length_drop]; omega)
      have hDR : nats (l.drop n) ≠ [] := fun e => by
        have := congrArg List.length e
        rw [nats_length, List.length_drop] at this; simp at this; omega
      have hOK := @ok_pos (l.drop n)
      have hST := @validN_step (nats (l.drop n)) (nats_lt _)
      have hSP := @validN_stop (nats (l.drop n))
      rw [List.length_drop] at hOK
      generalize okB (nats (l.drop n)) = B at *
      cases B with
      | true =>
        obtain ⟨o1, o2, o3⟩ := hOK rfl
        have hST' := hST rfl
        rw [nats_drop, List.drop_drop, ← o3] at hST'
        obtain ⟨k, hk⟩ : ∃ k, k = (decG (l.drop n)).2 := ⟨_, rfl⟩
        rw [← hk] at o1 o2 hST' C
        obtain ⟨p, hp⟩ : ∃ p, p = (decG (l.drop n)).1 := ⟨_, rfl⟩
        rw [← hp] at C
        replace C := hid C
        have HSS := hid hST'
        clear hST' hST hSP hOK o3 hk hp hDR
        have hw : IntKind.i64.wrap ((n : Int) + (k : Int)) = ((n + k : Nat) : Int) := by rw [IntWalk.i64_in _ (by omega)]; omega
        go_wp2_with fail
        refine C.out.mono ?_
        rintro e w' ⟨rfl, hb2⟩
        go_wp2
        go_roundw
        case rel => exact ⟨n + k, by omega, by rw [HVN.out, HSS.out]; omega, by first | rfl | (rw [hw]) | go_num, below_trans hb hb2⟩
        case measure => simp [intOf]; omega
      | false =>
        have hSP' := hSP (by simp)
        have HSS := hid hSP'
        generalize decG (l.drop n) = q at *
        obtain ⟨p, k⟩ := q
        replace C := hid C
        clear hSP' hST hSP hOK hDR
        go_wp2_with fail
        refine C.out.mono ?_
        rintro e w' ⟨rfl, hb2⟩
        go_wp2
        go_ret
        exact ⟨by rw [HVN.out, HSS.out]; rfl, below_trans hb hb2⟩
    · obtain rfl : n = l.length := by omega
      have hlt2 : ¬ ((l.length : Nat) : Int) < s.size := by omega
      have hv0 : V = l.length := by rw [HVN.out, List.drop_of_length_le (Nat.le_refl _)]; rfl
      subst hv0
      go_wp2
      go_ret
      exact ⟨rfl, hb⟩

end Go.Proofs.YtldhebpkplglcaaGreatDoor

namespace Go.Proofs.YtldhebpkplglcaaGreatDoor
open Go.RowKit

theorem intSlice : SliceOf Tryz.prog 38 3 (.int .i64 0) 8 := ⟨Tryz.underlying38, by kernel_rfl, rfl⟩
def i64s (ps : List Nat) : List Value := ps.map fun (p : Nat) => Value.int .i64 (p : Int)
theorem decG_enc {l : List UInt8} {p : Nat} {r : List Nat} (hp : isPt p) (h : nats l = encN p ++ r) : decG l = (p, (encN p).length) := by
  have hne : l ≠ [] := fun e => by
    have := congrArg List.length h
    have h1 := encN_pos p
    subst e
    simp [nats] at this
    omega
  unfold decG
  rw [if_neg hne, h, (dec_enc p hp r).1]
theorem encs_app (a b : List Nat) : encs (a ++ b) = encs a ++ encs b := by simp [encs]
theorem encs_len : ∀ (ps : List Nat), ps.length ≤ (encs ps).length
  | [] => Nat.zero_le _
  | p :: ps => by
    have := encs_len ps
    have := encN_pos p
    rw [encs_cons, List.length_append, List.length_cons]; omega

set_option maxRecDepth 100000 in
theorem ref4_Explode (l : List UInt8) (ps : List Nat) (w : World) (hl : l.length ≤ 17592186044415) (hp : ∀ p ∈ ps, isPt p) (hs : nats l = encs ps) :
    Calls Tryz.prog 56 #[.string ⟨l.toArray⟩] w fun e w' => ∃ a cap, e = .returned (.slice a ps.length cap) ∧ Below w.heap.size w w' ∧ w'.ownsRow w.heap.size 3 1 (.slice a ps.length cap) ps.length (i64s ps) := by
  have hlen : (encs ps).length = l.length := by rw [← hs, nats_length]
  have hpl : ps.length ≤ l.length := by rw [← hlen]; exact encs_len ps
  have hsz : (⟨l.toArray⟩ : ByteArray).size = l.length := rfl
  obtain ⟨s, hse⟩ : ∃ s : ByteArray, s = ⟨l.toArray⟩ := ⟨_, rfl⟩
  rw [← hse] at hsz ⊢
  have hSL : ∀ k : Nat, k ≤ l.length → ∀ W, (Instr.slice 9 (.string s) (some (.int .i64 (k : Int))) none none).run Tryz.prog W = .ok (.string ⟨(l.drop k).toArray⟩) W := fun k hk W => by rw [hse]; exact slice_rest l k hk W
  replace hSL := hid hSL
  clear hse
  have HS := hid hs
  have HL := hid hlen
  have HP := hid hp
  clear hs hlen hp
  go_enter Tryz.func56, Tryz.ntmps56
  go_wp2
  go_loopw [3, 4] (fun v i wr => ∃ done todo : List Nat, ps = done ++ todo ∧ i = .int .i64 ((encs done).length : Nat) ∧ wr.ownsRow w.heap.size 3 1 v done.length (i64s done) ∧ Below w.heap.size w wr) (fun _ i _ => l.length - (intOf i).toNat)
  case atStart => exact ⟨[], ps, rfl, rfl, World.ownsRow_nil _ _ _ _, Below.refl _ _⟩
  case round =>
    obtain ⟨done, todo, he, rfl, hown, hb⟩ := hrel
    have HE := hid he
    have hn : (encs done).length + (encs todo).length = l.length := by rw [← HL.out, HE.out, encs_app, List.length_append]
    have hdl : done.length + todo.length = ps.length := by rw [HE.out, List.length_append]
    have HB := hid hb
    clear he
    cases todo with
    | nil =>
      have e1 : (encs done).length = l.length := by simpa [encs] using hn
      have HD := hid (show ps = done by rw [HE.out, List.append_nil])
      have HO := hid hown
      clear hown hb hn
      rw [e1]
      have hlt2 : ¬ ((l.length : Nat) : Int) < s.size := by omega
      go_wp2
      go_ret
      obtain ⟨a, cap, rfl, _, _⟩ := owns_row HO.out
      refine ⟨a, cap, by rw [HD.out]; rfl, HB.out, ?_⟩
      rw [HD.out]; exact HO.out
    | cons p todo =>
      have hpp := HP.out p (by rw [HE.out]; simp)
      have h1 := encN_pos p
      rw [encs_cons, List.length_append] at hn
      have hd : nats (l.drop (encs done).length) = encN p ++ encs todo := by
        rw [← nats_drop, HS.out, HE.out, encs_app, encs_cons]; simp
      have C := fun w1 => ref4_Decode (l.drop (encs done).length) w1 (by rw [List.length_drop]; omega)
      rw [decG_enc hpp hd] at C
      generalize okB (nats (l.drop (encs done).length)) = bb at C
      have hsl := hSL.out (encs done).length (by omega)
      have HE2 := hid (show ps = (done ++ [p]) ++ todo by rw [HE.out]; simp)
      have hlen2 : (encs (done ++ [p])).length = (encs done).length + (encN p).length := by rw [encs_app, List.length_append]; simp [encs]
      have HL2 := hid hlen2
      clear hlen2 hd
      generalize (encs done).length = n at *
      generalize (encN p).length = k at *
      replace C := hid C
      have hlt2 : (n : Int) < s.size := by omega
      have hw : IntKind.i64.wrap ((n : Int) + (k : Int)) = ((n + k : Nat) : Int) := by rw [IntWalk.i64_in _ (by omega)]; omega
      rw [List.length_cons] at hdl
      go_wp2_with fail
      refine (C.out _).mono ?_
      rintro e w2 ⟨rfl, hb2⟩
      have hown2 := owns_below hown hb2
      have hbw := below_trans hb hb2
      have hsz2 := hbw.size
      have HBW := hid hbw
      clear hb hbw hown
      go_wp2_with (at_builtin; refine wpList_push intSlice rfl _ _ rfl w.heap.size (w0 := w2) hown2 rfl rfl rfl (by unfold maxLen; omega) (by omega) hsz2 ?_; intro v' w3 hown' hb')
      have HOW := hid (show w3.ownsRow w.heap.size 3 1 v' (done ++ [p]).length (i64s (done ++ [p])) by simpa [i64s] using hown')
      have HB3 := hid (HBW.out.trans hb')
      clear hown' hb' hown2 HBW
      go_wp2
      go_roundw
      case rel => exact ⟨done ++ [p], todo, HE2.out, by rw [HL2.out]; go_num, HOW.out, HB3.out⟩
      case measure => simp [intOf]; omega

end Go.Proofs.YtldhebpkplglcaaGreatDoor

namespace Go.Proofs.YtldhebpkplglcaaGreatDoor
open Go.RowKit

theorem row_i64 {w : World} {a : Option Addr} {ps : List Nat} (h : Row w a (i64s ps)) {j : Nat} (hj : j < ps.length) : ∃ b off, a = some ⟨b, off, none⟩ ∧ w.cell? ⟨b, off + j, none⟩ = some (.int .i64 ((ps.getD j 0 : Nat) : Int)) :=
  h j _ (by simp [i64s, List.getElem?_eq_getElem hj])
theorem cmp_step {ps qs : List Nat} {k : Nat} (h1 : k < ps.length) (h2 : k < qs.length) : cmpL (ps.drop k) (qs.drop k) = if ps.getD k 0 < qs.getD k 0 then -1 else if qs.getD k 0 < ps.getD k 0 then 1 else cmpL (ps.drop (k + 1)) (qs.drop (k + 1)) := by
  rw [List.drop_eq_getElem_cons h1, List.drop_eq_getElem_cons h2, cmpL]
  simp [List.getElem?_eq_getElem h1, List.getElem?_eq_getElem h2]
theorem cmp_end {ps qs : List Nat} {k : Nat} (hk1 : k ≤ ps.length) (hk2 : k ≤ qs.length) (h : k = ps.length ∨ k = qs.length) : cmpL (ps.drop k) (qs.drop k) = if ps.length < qs.length then -1 else if qs.length < ps.length then 1 else 0 := by
  rcases h with rfl | rfl
  · rw [List.drop_of_length_le (Nat.le_refl _)]
    by_cases hl : ps.length < qs.length
    · rw [if_pos hl, List.drop_eq_getElem_cons hl, cmpL]
    · rw [if_neg hl, if_neg (by omega), List.drop_of_length_le (by omega), cmpL]
  · rw [List.drop_of_length_le (Nat.le_refl qs.length)]
    by_cases hl : qs.length < ps.length
    · rw [if_neg (by omega), if_pos hl, List.drop_eq_getElem_cons hl, cmpL]
    · rw [if_neg (by omega), if_neg hl, List.drop_of_length_le (by omega), cmpL]

set_option maxRecDepth 100000 in
set_option maxHeartbeats 1600000 in
theorem ref4_Cmp (a b : List UInt8) (w : World) (ha : a.length ≤ 17592186044415) (hb : b.length ≤ 17592186044415) (sa : soundB a = true) (sb : soundB b = true) :
    Calls Tryz.prog 168 #[.string ⟨a.toArray⟩, .string ⟨b.toArray⟩] w fun e w' => e = .returned (.int .i64 (keyC a b)) ∧ Below w.heap.size w w' := by
  simp only [soundB, decide_eq_true_eq] at sa sb
  obtain ⟨ps, hp, ea⟩ := encs_of_valid (nats a).length (nats a) (Nat.le_refl _) (nats_lt a) (by rw [sa, nats_length])
  obtain ⟨qs, hq, eb⟩ := encs_of_valid (nats b).length (nats b) (Nat.le_refl _) (nats_lt b) (by rw [sb, nats_length])
  have C1 := fun w1 => ref4_Explode a ps w1 ha hp ea
  have C2 := fun w1 => ref4_Explode b qs w1 hb hq eb
  have hK : keyC a b = cmpL ps qs := by unfold keyC; rw [ea, eb, cmp_encs ps qs hp hq]
  have l1 : ps.length ≤ 17592186044415 := by
    have := encs_len ps
    rw [← ea, nats_length] at this; omega
  have l2 : qs.length ≤ 17592186044415 := by
    have := encs_len qs
    rw [← eb, nats_length] at this; omega
  rw [hK]
  clear hK sa sb ea eb hp hq ha hb
  generalize (⟨a.toArray⟩ : ByteArray) = x at *
  generalize (⟨b.toArray⟩ : ByteArray) = y at *
  obtain ⟨R, hR⟩ : ∃ R, R = cmpL ps qs := ⟨_, rfl⟩
  rw [← hR]
  replace hR := hid hR
  replace C1 := hid C1
  replace C2 := hid C2
  go_enter Tryz.func168, Tryz.ntmps168
  go_wp2_with fail
  refine (C1.out _).mono ?_
  rintro e w1 ⟨a1, c1, rfl, hb1, ho1⟩
  have O1 := hid ho1
  clear ho1
  go_wp2_with fail
  refine (C2.out _).mono ?_
  rintro e w2 ⟨a2, c2, rfl, hb2, ho2⟩
  have ho1 := owns_below O1.out hb2
  obtain ⟨_, _, e1, r1, _⟩ := owns_row ho1
  injection e1 with e1a _ _
  obtain ⟨_, _, e2, r2, _⟩ := owns_row ho2
  injection e2 with e2a _ _
  rw [← e1a] at r1
  rw [← e2a] at r2
  have R1 := hid r1
  have R2 := hid r2
  have HB := hid (below_trans hb1 hb2)
  clear e1a e2a r1 r2 ho1 ho2 O1 hb1 hb2 C1 C2
  go_wp2
  go_loopw [7] (fun i wr => ∃ k : Nat, k ≤ ps.length ∧ k ≤ qs.length ∧ i = .int .i64 k ∧ R = cmpL (ps.drop k) (qs.drop k) ∧ ∃ q, wr = w2.drewN q) (fun i _ => ps.length - (intOf i).toNat)
  case atStart => exact ⟨0, Nat.zero_le _, Nat.zero_le _, rfl, hR.out, 0, rfl⟩
  case round =>
    obtain ⟨k, hk1, hk2, rfl, hc, hq⟩ := hrel
    have HC := hid hc
    have HQ := hid hq
    clear hc
    by_cases hin : k < ps.length ∧ k < qs.length
    · obtain ⟨i1, i2⟩ := hin
      obtain ⟨b1, off1, rfl, g1⟩ := row_i64 R1.out i1
      obtain ⟨b2, off2, rfl, g2⟩ := row_i64 R2.out i2
      have g1' : wr.cell? ⟨b1, off1 + k, none⟩ = some (.int .i64 ((ps.getD k 0 : Nat) : Int)) := by obtain ⟨q, rfl⟩ := hq; exact g1
      have g2' : wr.cell? ⟨b2, off2 + k, none⟩ = some (.int .i64 ((qs.getD k 0 : Nat) : Int)) := by obtain ⟨q, rfl⟩ := hq; exact g2
      have hs := cmp_step i1 i2
      clear hq g1 g2
      generalize ps.getD k 0 = x1 at *
      generalize qs.getD k 0 = y1 at *
      have HS := hid hs
      clear hs
      go_wp2_with fail
      go_quiet (fail)
      have h3 : x1 < y1 ∨ y1 < x1 ∨ x1 = y1 := by omega
      rcases h3 with h | h | h
      · have HR : Hid (R = -1) := hid (by rw [HC.out, HS.out, if_pos h])
        go_wp2_with fail
        go_ret
        exact ⟨ret_int HR.out.symm, by obtain ⟨q2, hq2⟩ := drewN_more HQ.out nq; rw [hq2]; exact below_drewN HB.out _⟩
      · have HR : Hid (R = 1) := hid (by rw [HC.out, HS.out, if_neg (by omega), if_pos h])
        go_wp2_with fail
        go_quiet (fail)
        go_wp2_with fail
        go_ret
        exact ⟨ret_int HR.out.symm, by obtain ⟨q2, hq2⟩ := HQ.out; rw [hq2]; repeat (first | exact HB.out | refine below_drewN ?_ _)⟩
      · have HR : Hid (R = cmpL (ps.drop (k + 1)) (qs.drop (k + 1))) := hid (by rw [HC.out, HS.out, if_neg (by omega), if_neg (by omega)])
        go_wp2_with fail
        go_quiet (fail)
        go_wp2_with fail
        go_roundw
        case rel => exact ⟨k + 1, by omega, by omega, by go_num, HR.out, drewN_more HQ.out _⟩
        case measure => simp [intOf]; omega
    · have hs := cmp_end hk1 hk2 (by omega)
      have HS := hid hs
      clear hs
      have hB : Below w.heap.size w wr := by obtain ⟨q, rfl⟩ := hq; exact below_drewN HB.out _
      have HBB := hid hB
      clear hB hq
      have h3 : ps.length < qs.length ∨ qs.length < ps.length ∨ ps.length = qs.length := by omega
      rcases h3 with h | h | h
      · have HR : Hid (R = -1) := hid (by rw [HC.out, HS.out, if_pos h])
        have hk : ¬ k < ps.length := by omega
        have hk' : ¬ (k : Int) < ps.length := by omega
        go_wp2_with fail
        go_ret
        exact ⟨ret_int HR.out.symm, HBB.out⟩
      · have HR : Hid (R = 1) := hid (by rw [HC.out, HS.out, if_neg (by omega), if_pos h])
        have hk1 : (k : Int) < ps.length := by omega
        have hk' : ¬ (k : Int) < qs.length := by omega
        go_wp2_with fail
        go_ret
        exact ⟨ret_int HR.out.symm, HBB.out⟩
      · have HR : Hid (R = 0) := hid (by rw [HC.out, HS.out, if_neg (by omega), if_neg (by omega)])
        have hk' : ¬ (k : Int) < ps.length := by omega
        have h4 : ¬ (ps.length : Int) < qs.length := by omega
        have h5 : ¬ (qs.length : Int) < ps.length := by omega
        go_wp2_with fail
        go_ret
        exact ⟨ret_int HR.out.symm, HBB.out⟩

end Go.Proofs.YtldhebpkplglcaaGreatDoor
