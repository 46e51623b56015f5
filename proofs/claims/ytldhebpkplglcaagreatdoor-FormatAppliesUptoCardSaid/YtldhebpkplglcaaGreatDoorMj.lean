/- Code points and their bytes: plain laws. Nothing is walked here. Code points of texts: the library's decoder over lists of bytes. Nothing is walked here. Orders: plain laws. Nothing is walked here. Values as trees: whether one may be, how deep it is, their order, keys. Plain laws; nothing is walked here. Values as trees: fields by their keys, depth. Plain laws; nothing is walked here. Fields in the order of their keys: there is one such order. Plain laws; nothing is walked here. Values as trees: fields and keys of the document's answer. Plain laws; nothing is walked here. Values in memory: a relation of cells to a tree. Values in slots, and where they lie in memory. -/
import Derived.Test.YtldhebpkplglcaaGreatDoorNB
import Derived.Test.YtldhebpkplglcaaGreatDoorMe
import Derived.Lib.DecodeN
import Derived.Shelf.Unicode.DecodeSlow
namespace Go.Proofs.YtldhebpkplglcaaGreatDoor

/-- Lists held against each other: -1, 0, 1. -/
def cmpL : List Nat → List Nat → Int
  | [], [] => 0
  | [], _ :: _ => -1
  | _ :: _, [] => 1
  | x :: xs, y :: ys => if x < y then -1 else if y < x then 1 else cmpL xs ys
theorem cmpL_refl : ∀ xs, cmpL xs xs = 0
  | [] => rfl
  | x :: xs => by simp [cmpL, cmpL_refl xs]
theorem cmpL_anti : ∀ xs ys, cmpL ys xs = -cmpL xs ys
  | [], [] => rfl
  | [], _ :: _ => rfl
  | _ :: _, [] => rfl
  | x :: xs, y :: ys => by
    simp only [cmpL]
    by_cases h1 : x < y
    · rw [if_neg (show ¬ y < x by omega), if_pos h1, if_pos h1]; rfl
    · by_cases h2 : y < x
      · rw [if_pos h2, if_neg h1, if_pos h2]
      · rw [if_neg h1, if_neg h2, if_neg h2, if_neg h1, cmpL_anti xs ys]
theorem cmpL_vals : ∀ xs ys, cmpL xs ys = -1 ∨ cmpL xs ys = 0 ∨ cmpL xs ys = 1
  | [], [] => by simp [cmpL]
  | [], _ :: _ => by simp [cmpL]
  | _ :: _, [] => by simp [cmpL]
  | x :: xs, y :: ys => by
    have := cmpL_vals xs ys
    simp only [cmpL]
    split
    · simp
    · split
      · simp
      · exact this
theorem cmpL_eq : ∀ xs ys, cmpL xs ys = 0 → xs = ys
  | [], [], _ => rfl
  | [], _ :: _, h => by simp [cmpL] at h
  | _ :: _, [], h => by simp [cmpL] at h
  | x :: xs, y :: ys, h => by
    simp only [cmpL] at h
    split at h
    · simp at h
    · split at h
      · simp at h
      · rw [cmpL_eq xs ys h, show x = y by omega]
theorem cmpL_trans : ∀ xs ys zs, cmpL xs ys ≤ 0 → cmpL ys zs ≤ 0 → cmpL xs zs ≤ 0
  | [], [], [], _, _ => by simp [cmpL]
  | [], _, _ :: _, _, _ => by simp [cmpL]
  | [], _ :: _, [], _, h => by simp [cmpL] at h
  | _ :: _, [], _, h, _ => by simp [cmpL] at h
  | _ :: _, _ :: _, [], _, h => by simp [cmpL] at h
  | x :: xs, y :: ys, z :: zs, h1, h2 => by
    simp only [cmpL] at h1 h2 ⊢
    by_cases a : x < y
    · by_cases b : y < z
      · rw [if_pos (by omega)]; decide
      · by_cases c : z < y
        · rw [if_neg b, if_pos c] at h2; simp at h2
        · rw [if_pos (by omega)]; decide
    · by_cases a2 : y < x
      · rw [if_neg a, if_pos a2] at h1; simp at h1
      · rw [if_neg a, if_neg a2] at h1
        by_cases b : y < z
        · rw [if_pos (by omega)]; decide
        · by_cases c : z < y
          · rw [if_neg b, if_pos c] at h2; simp at h2
          · rw [if_neg b, if_neg c] at h2
            rw [if_neg (by omega), if_neg (by omega)]
            exact cmpL_trans xs ys zs h1 h2

/-- Is a number a code point? -/
def isPt (p : Nat) : Prop := p < 55296 ∨ (57344 ≤ p ∧ p ≤ 1114111)
/-- A code point's bytes. -/
def encN (p : Nat) : List Nat :=
  if p < 128 then [p]
  else if p < 2048 then [192 + p / 64, 128 + p % 64]
  else if p < 65536 then [224 + p / 4096, 128 + p / 64 % 64, 128 + p % 64]
  else [240 + p / 262144, 128 + p / 4096 % 64, 128 + p / 64 % 64, 128 + p % 64]
theorem encN_pos (p : Nat) : 1 ≤ (encN p).length ∧ (encN p).length ≤ 4 := by
  unfold encN
  repeat' split
  all_goals simp
theorem encN_lt (p : Nat) (h : isPt p) : ∀ x ∈ encN p, x < 256 := by
  unfold isPt at h
  unfold encN
  repeat' split
  all_goals (intro x hx; simp at hx; omega)

/-- The first code point of bytes, and how many they are. -/
def decB (l : List Nat) : Nat × Nat := Lib.decodeN l.length (l.getD 0 0) (l.getD 1 0) (l.getD 2 0) (l.getD 3 0)
/-- Is it one? -/
def okB (l : List Nat) : Bool := decide (l ≠ []) && (decide (1 < (decB l).2) || (decide ((decB l).2 = 1) && decide ((decB l).1 < 128)))

set_option maxHeartbeats 1600000 in
theorem dec_enc (p : Nat) (hp : isPt p) (r : List Nat) : decB (encN p ++ r) = (p, (encN p).length) ∧ okB (encN p ++ r) = true := by
  unfold isPt at hp
  have key : decB (encN p ++ r) = (p, (encN p).length) := by
    unfold decB encN
    split
    · simp [Lib.decodeN]
      omega
    · split
      · simp [Lib.decodeN]
        rw [if_neg (by omega), if_pos (by omega), if_pos (by omega)]
        simp only [Prod.mk.injEq, and_true]
        omega
      · split
        · simp [Lib.decodeN]
          rw [if_neg (by omega), if_neg (by omega), if_pos (by omega), if_pos (by omega)]
          simp only [Prod.mk.injEq, and_true]
          omega
        · simp [Lib.decodeN]
          rw [if_neg (by omega), if_neg (by omega), if_neg (by omega), if_pos (by omega), if_pos (by omega)]
          simp only [Prod.mk.injEq, and_true]
          omega
  refine ⟨key, ?_⟩
  unfold okB
  rw [key]
  have h1 := encN_pos p
  have h2 : encN p ++ r ≠ [] := fun h => by
    have : (encN p ++ r).length = 0 := by rw [h]; rfl
    simp at this
    rw [this.1] at h1
    simp at h1
  simp only [decide_eq_true h2, Bool.true_and, Bool.or_eq_true, Bool.and_eq_true, decide_eq_true_eq]
  by_cases h3 : 1 < (encN p).length
  · exact Or.inl h3
  · right
    refine ⟨by omega, ?_⟩
    unfold encN at h3
    split at h3
    · assumption
    · split at h3
      · simp at h3
      · split at h3 <;> simp at h3

set_option maxHeartbeats 3200000 in
theorem enc_dec (l : List Nat) (h : okB l = true) (hb : ∀ x ∈ l, x < 256) : ∃ p r, isPt p ∧ l = encN p ++ r ∧ decB l = (p, (encN p).length) := by
  obtain ⟨a, t, rfl⟩ : ∃ a t, l = a :: t := by
    cases l with
    | nil => simp [okB] at h
    | cons a t => exact ⟨a, t, rfl⟩
  have ha := hb a (by simp)
  have key : ∃ p r, isPt p ∧ a :: t = encN p ++ r := by
    unfold okB decB Lib.decodeN at h
    simp only [List.getD_cons_zero, List.getD_cons_succ, List.length_cons] at h
    by_cases c1 : a < 128
    · exact ⟨a, t, Or.inl (by omega), by unfold encN; rw [if_pos c1]; rfl⟩
    rw [if_neg c1] at h
    cases t with
    | nil => simp at h
    | cons b t =>
      have hb1 := hb b (by simp)
      simp only [List.getD_cons_zero, List.getD_cons_succ, List.length_cons] at h
      by_cases c2 : a / 32 = 6 ∧ (1 < t.length + 1 + 1 ∧ b / 64 = 2)
      · rw [if_pos c2] at h
        by_cases c3 : a % 32 * 64 + b % 64 ≥ 128
        · refine ⟨a % 32 * 64 + b % 64, t, Or.inl (by omega), ?_⟩
          unfold encN
          rw [if_neg (by omega), if_pos (by omega)]
          simp only [List.cons_append, List.nil_append, List.cons.injEq, and_true]
          omega
        · rw [if_neg c3] at h; simp at h
      · rw [if_neg c2] at h
        cases t with
        | nil => simp at h
        | cons c t =>
          have hc1 := hb c (by simp)
          simp only [List.getD_cons_zero, List.getD_cons_succ, List.length_cons] at h
          by_cases c4 : a / 16 = 14 ∧ (1 < t.length + 1 + 1 + 1 ∧ b / 64 = 2) ∧ (2 < t.length + 1 + 1 + 1 ∧ c / 64 = 2)
          · rw [if_pos c4] at h
            by_cases c5 : a % 16 * 4096 + b % 64 * 64 + c % 64 ≥ 2048 ∧ (a % 16 * 4096 + b % 64 * 64 + c % 64 < 55296 ∨ (57344 ≤ a % 16 * 4096 + b % 64 * 64 + c % 64 ∧ a % 16 * 4096 + b % 64 * 64 + c % 64 ≤ 1114111))
            · refine ⟨a % 16 * 4096 + b % 64 * 64 + c % 64, t, c5.2, ?_⟩
              unfold encN
              rw [if_neg (by omega), if_neg (by omega), if_pos (by omega)]
              simp only [List.cons_append, List.nil_append, List.cons.injEq, and_true]
              omega
            · rw [if_neg c5] at h; simp at h
          · rw [if_neg c4] at h
            cases t with
            | nil => simp at h
            | cons e t =>
              have he1 := hb e (by simp)
              simp only [List.getD_cons_zero, List.length_cons] at h
              by_cases c6 : a / 8 = 30 ∧ (1 < t.length + 1 + 1 + 1 + 1 ∧ b / 64 = 2) ∧ (2 < t.length + 1 + 1 + 1 + 1 ∧ c / 64 = 2) ∧ (3 < t.length + 1 + 1 + 1 + 1 ∧ e / 64 = 2)
              · rw [if_pos c6] at h
                by_cases c7 : a % 8 * 262144 + b % 64 * 4096 + c % 64 * 64 + e % 64 ≥ 65536 ∧ (a % 8 * 262144 + b % 64 * 4096 + c % 64 * 64 + e % 64 < 55296 ∨ (57344 ≤ a % 8 * 262144 + b % 64 * 4096 + c % 64 * 64 + e % 64 ∧ a % 8 * 262144 + b % 64 * 4096 + c % 64 * 64 + e % 64 ≤ 1114111))
                · refine ⟨a % 8 * 262144 + b % 64 * 4096 + c % 64 * 64 + e % 64, t, c7.2, ?_⟩
                  unfold encN
                  rw [if_neg (by omega), if_neg (by omega), if_neg (by omega)]
                  simp only [List.cons_append, List.nil_append, List.cons.injEq, and_true]
                  omega
                · rw [if_neg c7] at h; simp at h
              · rw [if_neg c6] at h; simp at h
  obtain ⟨p, r, hp, e⟩ := key
  exact ⟨p, r, hp, e, by rw [e]; exact (dec_enc p hp r).1⟩

/-- How far bytes are sound, in so many steps at most. -/
def validF : Nat → List Nat → Nat
  | 0, _ => 0
  | f + 1, l => if okB l = true then (decB l).2 + validF f (l.drop (decB l).2) else 0
def validN (l : List Nat) : Nat := validF l.length l
theorem validF_fuel : ∀ (f g : Nat) (l : List Nat), (∀ x ∈ l, x < 256) → l.length ≤ f → l.length ≤ g → validF f l = validF g l
  | 0, 0, _, _, _, _ => rfl
  | 0, g + 1, l, _, h, _ => by
    have : l = [] := List.length_eq_zero_iff.1 (by omega)
    subst this
    simp [validF, okB]
  | f + 1, 0, l, _, _, h => by
    have : l = [] := List.length_eq_zero_iff.1 (by omega)
    subst this
    simp [validF, okB]
  | f + 1, g + 1, l, hb, h1, h2 => by
    simp only [validF]
    by_cases h : okB l = true
    · rw [if_pos h, if_pos h]
      obtain ⟨p, r, hp, e, hd⟩ := enc_dec l h hb
      have h3 := encN_pos p
      rw [hd, validF_fuel f g _ (fun x hx => hb x (List.mem_of_mem_drop hx)) (by simp; omega) (by simp; omega)]
    · rw [if_neg h, if_neg h]
theorem validN_step {l : List Nat} (hb : ∀ x ∈ l, x < 256) (h : okB l = true) : validN l = (decB l).2 + validN (l.drop (decB l).2) := by
  obtain ⟨p, r, hp, e, hd⟩ := enc_dec l h hb
  have h3 := encN_pos p
  have hl : l.length ≠ 0 := fun h0 => by rw [e] at h0; simp at h0; rw [h0.1] at h3; simp at h3
  obtain ⟨f, hf⟩ : ∃ f, l.length = f + 1 := ⟨l.length - 1, by omega⟩
  unfold validN
  rw [hf]
  simp only [validF]
  rw [if_pos h, hd]
  congr 1
  exact validF_fuel _ _ _ (fun x hx => hb x (List.mem_of_mem_drop hx)) (by simp; omega) (Nat.le_refl _)
theorem validN_stop {l : List Nat} (h : ¬ okB l = true) : validN l = 0 := by
  unfold validN
  cases hl : l.length with
  | zero => rfl
  | succ f => simp only [validF]; rw [if_neg h]
/-- Bytes of code points. -/
def encs (ps : List Nat) : List Nat := ps.flatMap encN
theorem encs_cons (p : Nat) (ps : List Nat) : encs (p :: ps) = encN p ++ encs ps := rfl
theorem drop_enc (p : Nat) (r : List Nat) : (encN p ++ r).drop (encN p).length = r := by simp
theorem encs_lt (ps : List Nat) (h : ∀ p ∈ ps, isPt p) : ∀ x ∈ encs ps, x < 256 := by
  intro x hx
  obtain ⟨p, hp, hx⟩ := List.mem_flatMap.1 hx
  exact encN_lt p (h p hp) x hx
theorem valid_encs : ∀ (ps : List Nat), (∀ p ∈ ps, isPt p) → validN (encs ps) = (encs ps).length
  | [], _ => rfl
  | p :: ps, h => by
    have hd := dec_enc p (h p (by simp)) (encs ps)
    have ih := valid_encs ps (fun q hq => h q (by simp [hq]))
    have hb := encs_lt (p :: ps) h
    rw [encs_cons] at hb ⊢
    rw [validN_step hb hd.2, hd.1, drop_enc, ih, List.length_append]
theorem encs_of_valid : ∀ (n : Nat) (l : List Nat), l.length ≤ n → (∀ x ∈ l, x < 256) → validN l = l.length → ∃ ps, (∀ p ∈ ps, isPt p) ∧ l = encs ps
  | 0, l, h, _, _ => ⟨[], by simp, List.length_eq_zero_iff.1 (by omega)⟩
  | n + 1, l, h, hb, hv => by
    by_cases h0 : l = []
    · exact ⟨[], by simp, h0⟩
    · by_cases hk : okB l = true
      · obtain ⟨p, r, hp, e, hd⟩ := enc_dec l hk hb
        rw [validN_step hb hk, hd] at hv
        have h3 := encN_pos p
        have hdr : l.drop (encN p).length = r := by rw [e]; exact drop_enc p r
        rw [hdr] at hv
        have hlen : l.length = (encN p).length + r.length := by rw [e, List.length_append]
        obtain ⟨ps, h4, h5⟩ := encs_of_valid n r (by omega) (fun x hx => hb x (by rw [e]; simp [hx])) (by omega)
        refine ⟨p :: ps, ?_, by rw [encs_cons, ← h5]; exact e⟩
        intro q hq
        rcases List.mem_cons.1 hq with h | h
        · rw [h]; exact hp
        · exact h4 q h
      · rw [validN_stop hk] at hv
        exact absurd (List.length_eq_zero_iff.1 hv.symm) h0

set_option maxHeartbeats 3200000 in
/-- The order of bytes is that of code points. -/
theorem cmp_enc (p q : Nat) (r s : List Nat) (h : p < q) : cmpL (encN p ++ r) (encN q ++ s) = -1 := by
  unfold encN
  split
  · split
    · simp only [List.cons_append, List.nil_append, cmpL]; rw [if_pos h]
    · split
      · simp only [List.cons_append, List.nil_append, cmpL]; rw [if_pos (by omega)]
      · split <;> (simp only [List.cons_append, List.nil_append, cmpL]; rw [if_pos (by omega)])
  · rw [if_neg (show ¬ q < 128 by omega)]
    split
    · split
      · simp only [List.cons_append, List.nil_append, cmpL]
        by_cases c : 192 + p / 64 < 192 + q / 64
        · rw [if_pos c]
        · rw [if_neg c, if_neg (by omega), if_pos (by omega)]
      · split <;> (simp only [List.cons_append, List.nil_append, cmpL]; rw [if_pos (by omega)])
    · rw [if_neg (show ¬ q < 2048 by omega)]
      split
      · split
        · simp only [List.cons_append, List.nil_append, cmpL]
          by_cases c : 224 + p / 4096 < 224 + q / 4096
          · rw [if_pos c]
          · rw [if_neg c, if_neg (by omega)]
            by_cases c2 : 128 + p / 64 % 64 < 128 + q / 64 % 64
            · rw [if_pos c2]
            · rw [if_neg c2, if_neg (by omega), if_pos (by omega)]
        · simp only [List.cons_append, List.nil_append, cmpL]; rw [if_pos (by omega)]
      · rw [if_neg (show ¬ q < 65536 by omega)]
        simp only [List.cons_append, List.nil_append, cmpL]
        by_cases c : 240 + p / 262144 < 240 + q / 262144
        · rw [if_pos c]
        · rw [if_neg c, if_neg (by omega)]
          by_cases c2 : 128 + p / 4096 % 64 < 128 + q / 4096 % 64
          · rw [if_pos c2]
          · rw [if_neg c2, if_neg (by omega)]
            by_cases c3 : 128 + p / 64 % 64 < 128 + q / 64 % 64
            · rw [if_pos c3]
            · rw [if_neg c3, if_neg (by omega), if_pos (by omega)]
theorem cmpL_app : ∀ (a r s : List Nat), cmpL (a ++ r) (a ++ s) = cmpL r s
  | [], _, _ => rfl
  | x :: a, r, s => by simp only [List.cons_append, cmpL]; rw [if_neg (by omega), if_neg (by omega), cmpL_app a r s]
theorem cmp_encs : ∀ (ps qs : List Nat), (∀ p ∈ ps, isPt p) → (∀ q ∈ qs, isPt q) → cmpL (encs ps) (encs qs) = cmpL ps qs
  | [], [], _, _ => rfl
  | [], q :: qs, _, _ => by
    have h := (encN_pos q).1
    rw [encs_cons]
    cases e : encN q with
    | nil => rw [e] at h; simp at h
    | cons a t => simp [encs, cmpL]
  | p :: ps, [], _, _ => by
    have h := (encN_pos p).1
    rw [encs_cons]
    cases e : encN p with
    | nil => rw [e] at h; simp at h
    | cons a t => simp [encs, cmpL]
  | p :: ps, q :: qs, hp, hq => by
    rw [encs_cons, encs_cons]
    simp only [cmpL]
    by_cases a : p < q
    · rw [if_pos a]; exact cmp_enc p q _ _ a
    · by_cases b : q < p
      · rw [if_neg a, if_pos b, cmpL_anti, cmp_enc q p _ _ b]; rfl
      · obtain rfl : p = q := by omega
        rw [if_neg a, if_neg b, cmpL_app]
        exact cmp_encs ps qs (fun x hx => hp x (by simp [hx])) (fun x hx => hq x (by simp [hx]))

end Go.Proofs.YtldhebpkplglcaaGreatDoor

namespace Go.Proofs.YtldhebpkplglcaaGreatDoor

theorem get_list (l : List UInt8) (i : Nat) : (⟨l.toArray⟩ : ByteArray).get! i = l.getD i 0 := by
  show l.toArray[i]! = _
  simp [List.getD_eq_getElem?_getD]
  rfl
theorem nat_getD (l : List UInt8) (i : Nat) : (l.map (·.toNat)).getD i 0 = (l.getD i 0).toNat := by
  rw [List.getD_eq_getElem?_getD, List.getD_eq_getElem?_getD, List.getElem?_map]
  cases l[i]? <;> rfl
/-- The library's decoder is decB. -/
theorem decodeGo_list (l : List UInt8) : Lib.decodeGo ⟨l.toArray⟩ = if l = [] then (65533, 0) else decB (l.map (·.toNat)) := by
  unfold Lib.decodeGo
  by_cases h : l = []
  · subst h
    rfl
  · have h1 : (⟨l.toArray⟩ : ByteArray).size ≠ 0 := fun h0 => h (List.length_eq_zero_iff.1 (by simpa [ByteArray.size] using h0))
    rw [if_neg h1, if_neg h, Lib.decode_at]
    unfold decB
    rw [get_list, get_list, get_list, get_list, nat_getD, nat_getD, nat_getD, nat_getD]
    congr 1
    simp [ByteArray.size]

end Go.Proofs.YtldhebpkplglcaaGreatDoor

namespace Go.Proofs.YtldhebpkplglcaaGreatDoor

/-- c is an order on S: of any two one is not above the other, and it goes through. -/
structure OrdOn {α : Type} (S : α → Prop) (c : α → α → Int) : Prop where
  vals : ∀ a b, S a → S b → c a b = -1 ∨ c a b = 0 ∨ c a b = 1
  anti : ∀ a b, S a → S b → c b a = -c a b
  trans : ∀ a b d, S a → S b → S d → c a b ≤ 0 → c b d ≤ 0 → c a d ≤ 0
theorem OrdOn.refl {α : Type} {S : α → Prop} {c : α → α → Int} (h : OrdOn S c) {a : α} (ha : S a) : c a a = 0 := by
  have := h.anti a a ha ha
  omega
theorem OrdOn.same {α : Type} {S : α → Prop} {c : α → α → Int} (h : OrdOn S c) {a b d : α} (ha : S a) (hb : S b) (hd : S d) (e : c a b = 0) : c a d = c b d := by
  have e2 : c b a = 0 := by rw [h.anti a b ha hb, e]; rfl
  have t1 := h.trans a b d ha hb hd (by omega)
  have t2 := h.trans b a d hb ha hd (by omega)
  have t3 := fun x => h.trans d a b hd ha hb x (by omega)
  have t4 := fun x => h.trans d b a hd hb ha x (by omega)
  have a1 := h.anti a d ha hd
  have a2 := h.anti b d hb hd
  have v1 := h.vals a d ha hd
  have v2 := h.vals b d hb hd
  rcases v1 with v1 | v1 | v1 <;> rcases v2 with v2 | v2 | v2 <;> first | omega | skip
  all_goals
    exfalso
    first
      | (have := t1 (by omega); omega)
      | (have := t2 (by omega); omega)
      | (have := t3 (by omega); omega)
      | (have := t4 (by omega); omega)
theorem OrdOn.mono {α : Type} {S T : α → Prop} {c : α → α → Int} (h : OrdOn S c) (hs : ∀ a, T a → S a) : OrdOn T c :=
  ⟨fun a b ha hb => h.vals a b (hs a ha) (hs b hb), fun a b ha hb => h.anti a b (hs a ha) (hs b hb), fun a b d ha hb hd => h.trans a b d (hs a ha) (hs b hb) (hs d hd)⟩
theorem OrdOn.by {α β : Type} {S : α → Prop} {c : α → α → Int} (h : OrdOn S c) (f : β → α) : OrdOn (fun b => S (f b)) (fun a b => c (f a) (f b)) :=
  ⟨fun a b => h.vals (f a) (f b), fun a b => h.anti (f a) (f b), fun a b d => h.trans (f a) (f b) (f d)⟩
theorem OrdOn.congr {α : Type} {S : α → Prop} {c d : α → α → Int} (h : OrdOn S c) (e : ∀ a b, S a → S b → d a b = c a b) : OrdOn S d := by
  refine ⟨fun a b ha hb => ?_, fun a b ha hb => ?_, fun a b x ha hb hx h1 h2 => ?_⟩
  · rw [e a b ha hb]; exact h.vals a b ha hb
  · rw [e a b ha hb, e b a hb ha]; exact h.anti a b ha hb
  · rw [e a b ha hb] at h1
    rw [e b x hb hx] at h2
    rw [e a x ha hx]
    exact h.trans a b x ha hb hx h1 h2
theorem ord_cmpL : OrdOn (fun _ => True) cmpL := ⟨fun a b _ _ => cmpL_vals a b, fun a b _ _ => cmpL_anti a b, fun a b d _ _ _ => cmpL_trans a b d⟩

/-- First one order, then another. -/
def lexC {α : Type} (c d : α → α → Int) (a b : α) : Int := if c a b ≠ 0 then c a b else d a b
theorem OrdOn.lex {α : Type} {S : α → Prop} {c d : α → α → Int} (h : OrdOn S c) (k : ∀ a b, S a → S b → c a b = 0 → d a b = -1 ∨ d a b = 0 ∨ d a b = 1)
    (k2 : ∀ a b, S a → S b → c a b = 0 → d b a = -d a b) (k3 : ∀ a b x, S a → S b → S x → c a b = 0 → c b x = 0 → d a b ≤ 0 → d b x ≤ 0 → d a x ≤ 0) : OrdOn S (lexC c d) := by
  refine ⟨fun a b ha hb => ?_, fun a b ha hb => ?_, fun a b x ha hb hx h1 h2 => ?_⟩
  · unfold lexC
    split
    · exact h.vals a b ha hb
    · exact k a b ha hb (by omega)
  · unfold lexC
    have e := h.anti a b ha hb
    by_cases h0 : c a b = 0
    · rw [if_neg (by omega), if_neg (by omega), k2 a b ha hb h0]
    · rw [if_pos (by omega), if_pos (by omega), e]
  · unfold lexC at h1 h2 ⊢
    have vab := h.vals a b ha hb
    have vbx := h.vals b x hb hx
    have vax := h.vals a x ha hx
    by_cases e1 : c a b = 0
    · have s := h.same ha hb hx e1
      rw [if_neg (by omega)] at h1
      by_cases e2 : c b x = 0
      · rw [if_neg (by omega)] at h2
        rw [if_neg (by omega)]
        exact k3 a b x ha hb hx e1 e2 h1 h2
      · rw [if_pos (by omega)] at h2
        rw [if_pos (by omega)]
        omega
    · rw [if_pos (by omega)] at h1
      have l1 : c a b = -1 := by omega
      have t := h.trans a b x ha hb hx (by omega)
      have l2 : c b x ≤ 0 := by
        by_cases e2 : c b x = 0
        · omega
        · rw [if_pos (by omega)] at h2; exact h2
      have t1 := t l2
      have hne : c a x ≠ 0 := fun e => by
        have s := h.same ha hx hb e
        have a1 := h.anti b x hb hx
        omega
      rw [if_pos hne]
      exact t1

/-- Lists, item by item; the shorter one first. -/
def cmpBy {α : Type} (c : α → α → Int) : List α → List α → Int
  | [], [] => 0
  | [], _ :: _ => -1
  | _ :: _, [] => 1
  | x :: xs, y :: ys => if c x y ≠ 0 then c x y else cmpBy c xs ys
theorem cmpBy_len {α : Type} {c : α → α → Int} : ∀ (xs ys : List α), (∀ x ∈ xs, ∀ y ∈ ys, c x y = -1 ∨ c x y = 0 ∨ c x y = 1) → cmpBy c xs ys = 0 → xs.length = ys.length
  | [], [], _, _ => rfl
  | [], _ :: _, _, h => by simp [cmpBy] at h
  | _ :: _, [], _, h => by simp [cmpBy] at h
  | x :: xs, y :: ys, hv, h => by
    simp only [cmpBy] at h
    split at h
    · rename_i h0; exact absurd h h0
    · rw [List.length_cons, List.length_cons, cmpBy_len xs ys (fun a ha b hb => hv a (by simp [ha]) b (by simp [hb])) h]
theorem ord_by {α : Type} {S : α → Prop} {c : α → α → Int} (h : OrdOn S c) : OrdOn (fun l => ∀ x ∈ l, S x) (cmpBy c) := by
  have vals : ∀ (xs ys : List α), (∀ x ∈ xs, S x) → (∀ x ∈ ys, S x) → cmpBy c xs ys = -1 ∨ cmpBy c xs ys = 0 ∨ cmpBy c xs ys = 1 := by
    intro xs
    induction xs with
    | nil => intro ys _ _; cases ys <;> simp [cmpBy]
    | cons x xs ih =>
      intro ys hx hy
      cases ys with
      | nil => simp [cmpBy]
      | cons y ys =>
        simp only [cmpBy]
        split
        · exact h.vals x y (hx x (by simp)) (hy y (by simp))
        · exact ih ys (fun a ha => hx a (by simp [ha])) (fun a ha => hy a (by simp [ha]))
  have anti : ∀ (xs ys : List α), (∀ x ∈ xs, S x) → (∀ x ∈ ys, S x) → cmpBy c ys xs = -cmpBy c xs ys := by
    intro xs
    induction xs with
    | nil => intro ys _ _; cases ys <;> simp [cmpBy]
    | cons x xs ih =>
      intro ys hx hy
      cases ys with
      | nil => simp [cmpBy]
      | cons y ys =>
        simp only [cmpBy]
        have e := h.anti x y (hx x (by simp)) (hy y (by simp))
        by_cases h0 : c x y = 0
        · rw [if_neg (by omega), if_neg (by omega), ih ys (fun a ha => hx a (by simp [ha])) (fun a ha => hy a (by simp [ha]))]
        · rw [if_pos (by omega), if_pos (by omega), e]
  refine ⟨vals, anti, ?_⟩
  intro xs
  induction xs with
  | nil =>
    intro ys zs _ _ _ h1 h2
    cases ys with
    | nil => exact h2
    | cons y ys => cases zs <;> simp [cmpBy] at h2 ⊢
  | cons x xs ih =>
    intro ys zs hx hy hz h1 h2
    cases ys with
    | nil => simp [cmpBy] at h1
    | cons y ys =>
      cases zs with
      | nil => simp [cmpBy] at h2
      | cons z zs =>
        simp only [cmpBy] at h1 h2 ⊢
        have sx := hx x (by simp)
        have sy := hy y (by simp)
        have sz := hz z (by simp)
        have vab := h.vals x y sx sy
        have vbx := h.vals y z sy sz
        have vax := h.vals x z sx sz
        by_cases e1 : c x y = 0
        · have s := h.same sx sy sz e1
          rw [if_neg (by omega)] at h1
          by_cases e2 : c y z = 0
          · rw [if_neg (by omega)] at h2
            rw [if_neg (by omega)]
            exact ih ys zs (fun a ha => hx a (by simp [ha])) (fun a ha => hy a (by simp [ha])) (fun a ha => hz a (by simp [ha])) h1 h2
          · rw [if_pos (by omega)] at h2
            rw [if_pos (by omega)]
            omega
        · rw [if_pos (by omega)] at h1
          have t := h.trans x y z sx sy sz (by omega)
          have l2 : c y z ≤ 0 := by
            by_cases e2 : c y z = 0
            · omega
            · rw [if_pos (by omega)] at h2; exact h2
          have t1 := t l2
          have hne : c x z ≠ 0 := fun e => by
            have s := h.same sx sz sy e
            have a1 := h.anti y z sy sz
            omega
          rw [if_pos hne]
          exact t1

/-- By a number first; among those that have the same, by an order of its own. -/
def fibC {α : Type} (k : α → Int) (C : Int → α → α → Int) (a b : α) : Int := if k a < k b then -1 else if k b < k a then 1 else C (k a) a b
theorem ord_fib {α : Type} {S : α → Prop} {k : α → Int} {C : Int → α → α → Int} (h : ∀ n, OrdOn (fun a => S a ∧ k a = n) (C n)) : OrdOn S (fibC k C) := by
  refine ⟨fun a b ha hb => ?_, fun a b ha hb => ?_, fun a b x ha hb hx h1 h2 => ?_⟩
  · unfold fibC
    by_cases h1 : k a < k b
    · rw [if_pos h1]; simp
    · by_cases h2 : k b < k a
      · rw [if_neg h1, if_pos h2]; simp
      · rw [if_neg h1, if_neg h2]
        exact (h (k a)).vals a b ⟨ha, rfl⟩ ⟨hb, by omega⟩
  · unfold fibC
    by_cases h1 : k a < k b
    · rw [if_neg (show ¬ k b < k a by omega), if_pos h1, if_pos h1]; rfl
    · by_cases h2 : k b < k a
      · rw [if_pos h2, if_neg h1, if_pos h2]
      · rw [if_neg h1, if_neg h2, if_neg h2, if_neg h1, show k b = k a by omega]
        exact (h (k a)).anti a b ⟨ha, rfl⟩ ⟨hb, by omega⟩
  · unfold fibC at h1 h2 ⊢
    by_cases a1 : k a < k b
    · by_cases b1 : k b < k x
      · rw [if_pos (by omega)]; decide
      · by_cases b2 : k x < k b
        · rw [if_neg b1, if_pos b2] at h2; simp at h2
        · rw [if_pos (by omega)]; decide
    · by_cases a2 : k b < k a
      · rw [if_neg a1, if_pos a2] at h1; simp at h1
      · rw [if_neg a1, if_neg a2] at h1
        by_cases b1 : k b < k x
        · rw [if_pos (by omega)]; decide
        · by_cases b2 : k x < k b
          · rw [if_neg b1, if_pos b2] at h2; simp at h2
          · rw [if_neg b1, if_neg b2, show k b = k a by omega] at h2
            rw [if_neg (by omega), if_neg (by omega)]
            exact (h (k a)).trans a b x ⟨ha, rfl⟩ ⟨hb, by omega⟩ ⟨hx, by omega⟩ h1 h2

end Go.Proofs.YtldhebpkplglcaaGreatDoor

namespace Go.Proofs.YtldhebpkplglcaaGreatDoor

/-- A value: kind, number, text, items, fields. -/
inductive JV where
  | mk (kind : Int) (g : Bool) (ls : List Nat) (e : Int) (s : List UInt8) (arr : List JV) (obj : List (List UInt8 × JV))
def JV.kind : JV → Int | .mk k _ _ _ _ _ _ => k
def JV.g : JV → Bool | .mk _ g _ _ _ _ _ => g
def JV.ls : JV → List Nat | .mk _ _ l _ _ _ _ => l
def JV.e : JV → Int | .mk _ _ _ e _ _ _ => e
def JV.s : JV → List UInt8 | .mk _ _ _ _ s _ _ => s
def JV.arr : JV → List JV | .mk _ _ _ _ _ a _ => a
def JV.obj : JV → List (List UInt8 × JV) | .mk _ _ _ _ _ _ o => o
theorem JV.eta (v : JV) : v = .mk v.kind v.g v.ls v.e v.s v.arr v.obj := by cases v; rfl
theorem JV.ext {v u : JV} (h1 : v.kind = u.kind) (h2 : v.g = u.g) (h3 : v.ls = u.ls) (h4 : v.e = u.e) (h5 : v.s = u.s) (h6 : v.arr = u.arr) (h7 : v.obj = u.obj) : v = u := by
  cases v; cases u; simp only [JV.kind, JV.g, JV.ls, JV.e, JV.s, JV.arr, JV.obj] at *; subst h1 h2 h3 h4 h5 h6 h7; rfl
/-- The value of no kind: null. -/
def JV.null : JV := .mk 0 false [] 0 [] [] []
def nats (s : List UInt8) : List Nat := s.map (·.toNat)
theorem nats_lt (s : List UInt8) : ∀ x ∈ nats s, x < 256 := by
  intro x hx
  obtain ⟨b, _, rfl⟩ := List.mem_map.1 hx
  exact b.toNat_lt
@[simp] theorem nats_length (s : List UInt8) : (nats s).length = s.length := by simp [nats]
theorem nats_inj {a b : List UInt8} (h : nats a = nats b) : a = b := by
  induction a generalizing b with
  | nil => cases b with
    | nil => rfl
    | cons y ys => simp [nats] at h
  | cons x xs ih => cases b with
    | nil => simp [nats] at h
    | cons y ys =>
      simp only [nats, List.map_cons, List.cons.injEq] at h
      rw [ih h.2, UInt8.toNat_inj.1 h.1]
/-- Is a text sound? -/
def soundB (s : List UInt8) : Bool := decide (validN (nats s) = s.length)
theorem sound_nil : soundB [] = true := rfl

/-- What is asked of a value but for what it holds. -/
def baseB (v : JV) : Bool :=
  decide (0 ≤ v.kind ∧ v.kind ≤ 6) && (if v.kind = 3 then mayB v.g v.ls v.e else (!v.g && v.ls.isEmpty && decide (v.e = 0))) && (if v.kind = 4 then soundB v.s else v.s.isEmpty) &&
    (decide (v.kind = 5) || v.arr.isEmpty) && (decide (v.kind = 6) || v.obj.isEmpty)
/-- May it be, so many levels left? -/
def mayJ : Nat → JV → Bool
  | 0, v => baseB v && decide (v.kind < 5)
  | f + 1, v => baseB v && v.arr.all (mayJ f) && v.obj.all (fun x => soundB x.1 && mayJ f x.2) && decide ((v.obj.map (·.1)).Nodup)
/-- How deep it is, as far as it is looked into. -/
def depthJ : Nat → JV → Nat
  | 0, v => if v.kind = 5 ∨ v.kind = 6 then 1 else 0
  | f + 1, v => if v.kind = 5 ∨ v.kind = 6 then (v.obj.map fun x => depthJ f x.2).foldl max ((v.arr.map (depthJ f)).foldl max 0) + 1 else 0
def dOf (v : JV) : D := ⟨v.g, Num.worth v.ls, v.e⟩
/-- Keys held against each other. -/
def keyC (a b : List UInt8) : Int := cmpL (nats a) (nats b)
def insK (x : List UInt8 × JV) : List (List UInt8 × JV) → List (List UInt8 × JV)
  | [] => [x]
  | y :: l => if keyC x.1 y.1 < 0 then x :: y :: l else y :: insK x l
/-- Fields in the order of their keys. -/
def sortK (l : List (List UInt8 × JV)) : List (List UInt8 × JV) := l.foldl (fun acc x => insK x acc) []
def kindC (f : JV → JV → Int) (k : Int) (a b : JV) : Int :=
  if k = 3 then cmpR (dOf a) (dOf b) else if k = 4 then cmpL (nats a.s) (nats b.s) else if k = 5 then cmpBy f a.arr b.arr
  else if k = 6 then lexC (fun x y => cmpBy (fun p q => keyC p.1 q.1) (sortK x.obj) (sortK y.obj)) (fun x y => cmpBy (fun p q => f p.2 q.2) (sortK x.obj) (sortK y.obj)) a b else 0
/-- The order of values, so many levels down. -/
def orderJ : Nat → JV → JV → Int
  | 0, _, _ => 0
  | f + 1, a, b => fibC JV.kind (kindC (orderJ f)) a b

/-- What may be at some depth. -/
def Sound (v : JV) : Prop := ∃ n, mayJ n v = true
theorem may_base {n : Nat} {v : JV} (h : mayJ n v = true) : baseB v = true := by
  cases n <;> simp only [mayJ, Bool.and_eq_true] at h
  · exact h.1
  · exact h.1.1.1
theorem base_arr {v : JV} (h : baseB v = true) (hk : v.kind ≠ 5) : v.arr = [] := by
  simp only [baseB, Bool.and_eq_true, Bool.or_eq_true, decide_eq_true_eq, List.isEmpty_iff] at h
  exact h.1.2.resolve_left hk
theorem base_obj {v : JV} (h : baseB v = true) (hk : v.kind ≠ 6) : v.obj = [] := by
  simp only [baseB, Bool.and_eq_true, Bool.or_eq_true, decide_eq_true_eq, List.isEmpty_iff] at h
  exact h.2.resolve_left hk
theorem may_arr {n : Nat} {v : JV} (h : mayJ n v = true) : ∀ x ∈ v.arr, Sound x := by
  intro x hx
  cases n with
  | zero =>
    simp only [mayJ, Bool.and_eq_true, decide_eq_true_eq] at h
    rw [base_arr h.1 (by omega)] at hx
    cases hx
  | succ n =>
    simp only [mayJ, Bool.and_eq_true, List.all_eq_true] at h
    exact ⟨n, h.1.1.2 x hx⟩
theorem may_obj {n : Nat} {v : JV} (h : mayJ n v = true) : ∀ x ∈ v.obj, Sound x.2 ∧ soundB x.1 = true := by
  intro x hx
  cases n with
  | zero =>
    simp only [mayJ, Bool.and_eq_true, decide_eq_true_eq] at h
    rw [base_obj h.1 (by omega)] at hx
    cases hx
  | succ n =>
    simp only [mayJ, Bool.and_eq_true, List.all_eq_true] at h
    have := h.1.2 x hx
    exact ⟨⟨n, this.2⟩, this.1⟩
theorem may_num {n : Nat} {v : JV} (h : mayJ n v = true) (hk : v.kind = 3) : IsPlain (dOf v) ∧ fitsB (dOf v) = true := by
  have h1 := may_base h
  simp only [baseB, Bool.and_eq_true] at h1
  have h2 := h1.1.1.1.2
  rw [if_pos hk] at h2
  unfold mayB at h2
  simp only [decide_eq_true_eq] at h2
  obtain ⟨e1, e2, e3, e4⟩ := h2
  have e5 : takenD v.g v.ls.length (Num.worth v.ls) v.e = dOf v := by
    have e6 : (takenD v.g v.ls.length (Num.worth v.ls) v.e).m = Num.worth v.ls := by
      have := congrArg Num.worth e4
      rw [Num.worth_limbs] at this
      exact this
    generalize takenD v.g v.ls.length (Num.worth v.ls) v.e = d at *
    obtain ⟨dg, dm, de⟩ := d
    simp only at e2 e3 e6
    subst e2 e3 e6
    rfl
  have := taken_facts e1
  rw [e5] at this
  exact this
theorem mem_insK (x : List UInt8 × JV) : ∀ (l : List (List UInt8 × JV)) (z), z ∈ insK x l ↔ z = x ∨ z ∈ l
  | [], z => by simp [insK]
  | y :: l, z => by
    simp only [insK]
    split
    · simp
    · rw [List.mem_cons, mem_insK x l z, List.mem_cons]
      constructor
      · rintro (h | h | h)
        · exact Or.inr (Or.inl h)
        · exact Or.inl h
        · exact Or.inr (Or.inr h)
      · rintro (h | h | h)
        · exact Or.inr (Or.inl h)
        · exact Or.inl h
        · exact Or.inr (Or.inr h)
theorem mem_sortK (l : List (List UInt8 × JV)) (z) : z ∈ sortK l ↔ z ∈ l := by
  have key : ∀ (l acc : List (List UInt8 × JV)), z ∈ l.foldl (fun acc x => insK x acc) acc ↔ z ∈ l ∨ z ∈ acc := by
    intro l
    induction l with
    | nil => intro acc; simp
    | cons y l ih =>
      intro acc
      rw [List.foldl_cons, ih, mem_insK, List.mem_cons]
      constructor
      · rintro (h | h | h)
        · exact Or.inl (Or.inr h)
        · exact Or.inl (Or.inl h)
        · exact Or.inr h
      · rintro ((h | h) | h)
        · exact Or.inr (Or.inl h)
        · exact Or.inl h
        · exact Or.inr (Or.inr h)
  rw [sortK, key]
  simp
theorem ord_num : OrdOn (fun v => Sound v ∧ v.kind = 3) (fun a b => cmpR (dOf a) (dOf b)) := by
  have lo : ∀ v : JV, Sound v ∧ v.kind = 3 → -100000 ≤ (dOf v).e := fun v ⟨⟨n, h⟩, hk⟩ => by have := lowE (may_num h hk); omega
  have base : OrdOn (fun _ : Int => True) cmpI := by
    refine ⟨fun a b _ _ => ?_, fun a b _ _ => ?_, fun a b d _ _ _ h1 h2 => ?_⟩
    · rcases cmpI_cases a b with ⟨_, h⟩ | ⟨_, h⟩ | ⟨_, h⟩ <;> rw [h] <;> simp
    · exact cmpI_neg b a
    · rcases cmpI_cases a b with ⟨c1, e1⟩ | ⟨c1, e1⟩ | ⟨c1, e1⟩ <;> rcases cmpI_cases b d with ⟨c2, e2⟩ | ⟨c2, e2⟩ | ⟨c2, e2⟩ <;> rcases cmpI_cases a d with ⟨c3, e3⟩ | ⟨c3, e3⟩ | ⟨c3, e3⟩ <;> omega
  exact ((base.by fun v => wo (dOf v)).mono (fun _ _ => trivial)).congr fun a b ha hb => cmpR_worth (lo a ha) (lo b hb)
theorem OrdOn.lex2 {α : Type} {S : α → Prop} {c d : α → α → Int} (h : OrdOn S c) (k : OrdOn S d) : OrdOn S (lexC c d) :=
  h.lex (fun a b ha hb _ => k.vals a b ha hb) (fun a b ha hb _ => k.anti a b ha hb) (fun a b x ha hb hx _ _ => k.trans a b x ha hb hx)
theorem ord_zero {α : Type} (S : α → Prop) : OrdOn S (fun _ _ => 0) := ⟨fun _ _ _ _ => by simp, fun _ _ _ _ => rfl, fun _ _ _ _ _ _ _ _ => by simp⟩
theorem ord_kind {f : JV → JV → Int} (h : OrdOn Sound f) (n : Int) : OrdOn (fun v => Sound v ∧ v.kind = n) (kindC f n) := by
  unfold kindC
  by_cases h3 : n = 3
  · subst h3
    exact ord_num.congr fun a b _ _ => by rw [if_pos rfl]
  · by_cases h4 : n = 4
    · subst h4
      exact ((ord_cmpL.by fun v : JV => nats v.s).mono (fun _ _ => trivial)).congr fun a b _ _ => by rw [if_neg (by decide), if_pos rfl]
    · by_cases h5 : n = 5
      · subst h5
        exact (((ord_by h).by JV.arr).mono (fun v hv => by obtain ⟨⟨m, hm⟩, _⟩ := hv; exact may_arr hm)).congr fun a b _ _ => by rw [if_neg (by decide), if_neg (by decide), if_pos rfl]
      · by_cases h6 : n = 6
        · subst h6
          have k1 : OrdOn (fun v : JV => Sound v ∧ v.kind = 6) (fun x y => cmpBy (fun p q : List UInt8 × JV => keyC p.1 q.1) (sortK x.obj) (sortK y.obj)) :=
            ((ord_by (ord_cmpL.by fun p : List UInt8 × JV => nats p.1)).by fun v : JV => sortK v.obj).mono (fun _ _ _ _ => trivial)
          have k2 : OrdOn (fun v : JV => Sound v ∧ v.kind = 6) (fun x y => cmpBy (fun p q : List UInt8 × JV => f p.2 q.2) (sortK x.obj) (sortK y.obj)) :=
            ((ord_by (h.by fun p : List UInt8 × JV => p.2)).by fun v : JV => sortK v.obj).mono (fun v hv p hp => by
              obtain ⟨⟨m, hm⟩, _⟩ := hv
              exact (may_obj hm p ((mem_sortK _ _).1 hp)).1)
          exact (k1.lex2 k2).congr fun a b _ _ => by rw [if_neg (by decide), if_neg (by decide), if_neg (by decide), if_pos rfl]
        · exact (ord_zero _).congr fun a b _ _ => by rw [if_neg h3, if_neg h4, if_neg h5, if_neg h6]
/-- The order is one. -/
theorem ord_order : ∀ f, OrdOn Sound (orderJ f)
  | 0 => (ord_zero _).congr fun _ _ _ _ => rfl
  | f + 1 => (ord_fib (ord_kind (ord_order f))).congr fun _ _ _ _ => rfl

end Go.Proofs.YtldhebpkplglcaaGreatDoor

namespace Go.Proofs.YtldhebpkplglcaaGreatDoor

/- Depth. -/
theorem foldl_max_le {B : Nat} : ∀ (l : List Nat) (a : Nat), a ≤ B → (∀ x ∈ l, x ≤ B) → l.foldl max a ≤ B
  | [], _, h, _ => h
  | x :: l, a, h, hl => foldl_max_le l (max a x) (Nat.max_le.2 ⟨h, hl x (by simp)⟩) (fun y hy => hl y (by simp [hy]))
theorem le_foldl_max : ∀ (l : List Nat) (a : Nat), a ≤ l.foldl max a ∧ ∀ x ∈ l, x ≤ l.foldl max a
  | [], a => ⟨Nat.le_refl _, by simp⟩
  | x :: l, a => by
    have h := le_foldl_max l (max a x)
    refine ⟨Nat.le_trans (Nat.le_max_left _ _) h.1, fun y hy => ?_⟩
    rcases List.mem_cons.1 hy with e | e
    · rw [e]; exact Nat.le_trans (Nat.le_max_right _ _) h.1
    · exact h.2 y e
theorem depth_flat {m : Nat} {v : JV} (h : ¬ (v.kind = 5 ∨ v.kind = 6)) : depthJ m v = 0 := by
  cases m <;> simp only [depthJ] <;> rw [if_neg h]
theorem depth_le {m B : Nat} {v : JV} (h : v.kind = 5 ∨ v.kind = 6) : depthJ (m + 1) v ≤ B + 1 ↔ (∀ x ∈ v.arr, depthJ m x ≤ B) ∧ (∀ x ∈ v.obj, depthJ m x.2 ≤ B) := by
  simp only [depthJ]
  rw [if_pos h]
  have h1 := le_foldl_max (v.arr.map (depthJ m)) 0
  have h2 := le_foldl_max (v.obj.map fun x => depthJ m x.2) ((v.arr.map (depthJ m)).foldl max 0)
  constructor
  · intro hh
    refine ⟨fun x hx => ?_, fun x hx => ?_⟩
    · have := h1.2 _ (List.mem_map_of_mem hx)
      have := h2.1
      omega
    · have := h2.2 _ (List.mem_map_of_mem hx)
      omega
  · rintro ⟨ha, ho⟩
    have := foldl_max_le (B := B) (v.obj.map fun x => depthJ m x.2) ((v.arr.map (depthJ m)).foldl max 0)
      (foldl_max_le _ 0 (Nat.zero_le _) (fun x hx => by obtain ⟨y, hy, rfl⟩ := List.mem_map.1 hx; exact ha y hy))
      (fun x hx => by obtain ⟨y, hy, rfl⟩ := List.mem_map.1 hx; exact ho y hy)
    omega
theorem may_flat {n : Nat} {v : JV} (hb : baseB v = true) (h : v.kind < 5) : mayJ n v = true := by
  have ha := base_arr hb (by omega)
  have ho := base_obj hb (by omega)
  cases n with
  | zero => simp [mayJ, hb, h]
  | succ n => simp [mayJ, hb, ha, ho]
theorem base_kind {v : JV} (hb : baseB v = true) : 0 ≤ v.kind ∧ v.kind ≤ 6 := by
  simp only [baseB, Bool.and_eq_true, decide_eq_true_eq] at hb
  exact hb.1.1.1.1
theorem may_succ {n : Nat} {v : JV} : mayJ (n + 1) v = true ↔ ((baseB v = true ∧ ∀ x ∈ v.arr, mayJ n x = true) ∧ ∀ x ∈ v.obj, soundB x.1 = true ∧ mayJ n x.2 = true) ∧ (v.obj.map (·.1)).Nodup := by
  rw [mayJ]
  simp only [Bool.and_eq_true, List.all_eq_true, decide_eq_true_eq]
theorem may_depth : ∀ (n m : Nat) (v : JV), mayJ n v = true → n ≤ m → depthJ m v ≤ n
  | 0, m, v, h, _ => by
    simp only [mayJ, Bool.and_eq_true, decide_eq_true_eq] at h
    rw [depth_flat (by omega)]
    exact Nat.le_refl _
  | n + 1, m, v, h, hm => by
    obtain ⟨m', rfl⟩ : ∃ m', m = m' + 1 := ⟨m - 1, by omega⟩
    by_cases hk : v.kind = 5 ∨ v.kind = 6
    · simp only [mayJ, Bool.and_eq_true, List.all_eq_true] at h
      exact (depth_le hk).2 ⟨fun x hx => may_depth n m' x (h.1.1.2 x hx) (by omega), fun x hx => may_depth n m' x.2 (h.1.2 x hx).2 (by omega)⟩
    · rw [depth_flat hk]
      exact Nat.zero_le _
theorem may_down : ∀ (n m : Nat) (v : JV), mayJ (n + 1) v = true → n + 1 ≤ m → depthJ m v ≤ n → mayJ n v = true
  | 0, m, v, h, hm, hd => by
    have hb := may_base h
    obtain ⟨m', rfl⟩ : ∃ m', m = m' + 1 := ⟨m - 1, by omega⟩
    have hk : ¬ (v.kind = 5 ∨ v.kind = 6) := fun hk => by
      simp only [depthJ] at hd
      rw [if_pos hk] at hd
      omega
    have := base_kind hb
    exact may_flat hb (by omega)
  | n + 1, m, v, h, hm, hd => by
    have hb := may_base h
    obtain ⟨m', rfl⟩ : ∃ m', m = m' + 1 := ⟨m - 1, by omega⟩
    by_cases hk : v.kind = 5 ∨ v.kind = 6
    · have hd2 := (depth_le hk).1 hd
      have h := may_succ.1 h
      refine may_succ.2 ?_
      exact ⟨⟨⟨hb, fun x hx => may_down n m' x (h.1.1.2 x hx) (by omega) (hd2.1 x hx)⟩, fun x hx => ⟨(h.1.2 x hx).1, may_down n m' x.2 (h.1.2 x hx).2 (by omega) (hd2.2 x hx)⟩⟩, h.2⟩
    · have := base_kind hb
      exact may_flat hb (by omega)
theorem may_up : ∀ (n : Nat) (v : JV), mayJ n v = true → mayJ (n + 1) v = true
  | 0, v, h => by
    simp only [mayJ, Bool.and_eq_true, decide_eq_true_eq] at h
    exact may_flat h.1 h.2
  | n + 1, v, h => by
    have h := may_succ.1 h
    refine may_succ.2 ?_
    exact ⟨⟨⟨h.1.1.1, fun x hx => may_up n x (h.1.1.2 x hx)⟩, fun x hx => ⟨(h.1.2 x hx).1, may_up n x.2 (h.1.2 x hx).2⟩⟩, h.2⟩

/- Fields. -/
abbrev Fld := List UInt8 × JV
def getO (k : List UInt8) : List Fld → Option JV
  | [] => none
  | x :: l => if x.1 = k then some x.2 else getO k l
def hasO (k : List UInt8) (l : List Fld) : Bool := l.any fun x => decide (x.1 = k)
def setO (k : List UInt8) (x : JV) (l : List Fld) : List Fld := if hasO k l = true then l.map (fun p => if p.1 = k then (k, x) else p) else l ++ [(k, x)]
def delO (k : List UInt8) (l : List Fld) : List Fld := l.filter fun p => decide (p.1 ≠ k)
theorem hasO_iff {k : List UInt8} {l : List Fld} : hasO k l = true ↔ k ∈ l.map (·.1) := by
  simp only [hasO, List.any_eq_true, decide_eq_true_eq, List.mem_map]
theorem getO_none {k : List UInt8} : ∀ {l : List Fld}, ¬ hasO k l = true → getO k l = none
  | [], _ => rfl
  | x :: l, h => by
    simp only [hasO, List.any_cons, Bool.or_eq_true, decide_eq_true_eq, not_or] at h
    simp only [getO]
    rw [if_neg h.1]
    exact getO_none h.2
theorem getO_map (k : List UInt8) (x : JV) : ∀ (l : List Fld) (o : List UInt8), getO o (l.map (fun p => if p.1 = k then (k, x) else p)) = if o = k then (if hasO k l = true then some x else none) else getO o l
  | [], o => by simp [getO, hasO]
  | p :: l, o => by
    have ih := getO_map k x l o
    simp only [List.map_cons, getO]
    by_cases hp : p.1 = k
    · rw [if_pos hp]
      by_cases ho : o = k
      · rw [if_pos ho.symm, if_pos ho, if_pos (by simp [hasO, hp])]
      · rw [if_neg (show ¬ k = o from fun h => ho h.symm), if_neg ho, ih, if_neg ho, if_neg (show ¬ p.1 = o from fun h => ho (by rw [← h, hp]))]
    · rw [if_neg hp]
      have hh : hasO k (p :: l) = hasO k l := by simp [hasO, hp]
      rw [hh]
      by_cases ho : o = k
      · rw [if_neg (show ¬ p.1 = o from fun h => hp (by rw [h, ho])), ih, if_pos ho, if_pos ho]
      · rw [if_neg ho]
        by_cases hpo : p.1 = o
        · rw [if_pos hpo, if_pos hpo]
        · rw [if_neg hpo, if_neg hpo, ih, if_neg ho]
theorem getO_app (o : List UInt8) : ∀ (l m : List Fld), getO o (l ++ m) = if hasO o l = true then getO o l else getO o m
  | [], m => by simp [hasO]
  | p :: l, m => by
    simp only [List.cons_append, getO]
    by_cases hp : p.1 = o
    · rw [if_pos hp, if_pos (by simp [hasO, hp]), if_pos hp]
    · have hh : hasO o (p :: l) = hasO o l := by simp [hasO, hp]
      rw [if_neg hp, hh, if_neg hp, getO_app o l m]
theorem get_set_same (k : List UInt8) (x : JV) (l : List Fld) : getO k (setO k x l) = some x := by
  unfold setO
  by_cases h : hasO k l = true
  · rw [if_pos h, getO_map, if_pos rfl, if_pos h]
  · rw [if_neg h, getO_app, if_neg h]
    simp [getO]
theorem get_set_other {k o : List UInt8} (x : JV) (l : List Fld) (h : o ≠ k) : getO o (setO k x l) = getO o l := by
  unfold setO
  by_cases hh : hasO k l = true
  · rw [if_pos hh, getO_map, if_neg h]
  · rw [if_neg hh, getO_app]
    by_cases ho : hasO o l = true
    · rw [if_pos ho]
    · rw [if_neg ho, getO_none ho]
      simp [getO, Ne.symm h]
theorem keys_set (k : List UInt8) (x : JV) (l : List Fld) : (setO k x l).map (·.1) = if hasO k l = true then l.map (·.1) else l.map (·.1) ++ [k] := by
  unfold setO
  by_cases h : hasO k l = true
  · rw [if_pos h, if_pos h, List.map_map]
    refine List.map_congr_left fun p _ => ?_
    simp only [Function.comp_apply]
    split
    · rename_i e; exact e.symm
    · rfl
  · rw [if_neg h, if_neg h]
    simp
theorem has_set (k : List UInt8) (x : JV) (l : List Fld) : hasO k (setO k x l) = true := by
  rw [hasO_iff, keys_set]
  split
  · rename_i h; exact hasO_iff.1 h
  · simp
theorem set_set (k : List UInt8) (x : JV) (l : List Fld) : setO k x (setO k x l) = setO k x l := by
  have h := has_set k x l
  rw [show setO k x (setO k x l) = (setO k x l).map (fun p => if p.1 = k then (k, x) else p) from if_pos h]
  have key : ∀ p ∈ setO k x l, (if p.1 = k then (k, x) else p) = p := by
    intro p hp
    unfold setO at hp
    by_cases hh : hasO k l = true
    · rw [if_pos hh] at hp
      obtain ⟨q, hq, rfl⟩ := List.mem_map.1 hp
      by_cases e : q.1 = k
      · rw [if_pos e, if_pos rfl]
      · rw [if_neg e, if_neg e]
    · rw [if_neg hh] at hp
      rcases List.mem_append.1 hp with hp | hp
      · have : p.1 ≠ k := fun e => hh (hasO_iff.2 (List.mem_map.2 ⟨p, hp, e⟩))
        rw [if_neg this]
      · simp at hp
        rw [hp]
        simp
  rw [List.map_congr_left key, List.map_id']
theorem mem_set {k : List UInt8} {x : JV} {l : List Fld} {p : Fld} (h : p ∈ setO k x l) : p = (k, x) ∨ p ∈ l := by
  unfold setO at h
  split at h
  · obtain ⟨q, hq, rfl⟩ := List.mem_map.1 h
    split
    · exact Or.inl rfl
    · exact Or.inr hq
  · rcases List.mem_append.1 h with h | h
    · exact Or.inr h
    · simp at h; exact Or.inl h
theorem del_set (k : List UInt8) (x : JV) (l : List Fld) : delO k (setO k x l) = delO k l := by
  unfold setO delO
  by_cases h : hasO k l = true
  · rw [if_pos h]
    clear h
    induction l with
    | nil => rfl
    | cons p l ih =>
      rw [List.map_cons]
      by_cases e : p.1 = k
      · rw [if_pos e, List.filter_cons, List.filter_cons, if_neg (by simp), if_neg (by simp [e])]
        exact ih
      · rw [if_neg e, List.filter_cons, List.filter_cons, if_pos (by simp [e]), if_pos (by simp [e]), ih]
  · rw [if_neg h, List.filter_append]
    simp
theorem get_del (k : List UInt8) (l : List Fld) : getO k (delO k l) = none := by
  refine getO_none fun h => ?_
  rw [hasO_iff] at h
  obtain ⟨p, hp, e⟩ := List.mem_map.1 h
  simp only [delO, List.mem_filter, decide_eq_true_eq] at hp
  exact hp.2 e
theorem get_mem {k : List UInt8} {x : JV} : ∀ {l : List Fld}, getO k l = some x → (k, x) ∈ l
  | [], h => by simp [getO] at h
  | p :: l, h => by
    simp only [getO] at h
    split at h
    · rename_i e
      injection h with h
      rw [← e, ← h]
      simp
    · exact List.mem_cons_of_mem _ (get_mem h)

/- What Get, With and Without tell. -/
def objV (o : List Fld) : JV := .mk 6 false [] 0 [] [] o
def getR (v : JV) (k : List UInt8) : JV × Nat :=
  if ¬ (mayJ 200 v = true ∧ soundB k = true) then (.null, 1) else if v.kind ≠ 6 ∧ v.kind ≠ 0 then (.null, 9) else ((getO k v.obj).getD .null, 0)
def withR (v : JV) (k : List UInt8) (x : JV) : JV × Nat :=
  if ¬ (mayJ 200 v = true ∧ mayJ 200 x = true ∧ soundB k = true) then (.null, 1) else if v.kind ≠ 6 ∧ v.kind ≠ 0 then (.null, 9) else if depthJ 200 x = 200 then (.null, 6)
  else (objV (setO k x v.obj), 0)
def withoutR (v : JV) (k : List UInt8) : JV × Nat :=
  if ¬ (mayJ 200 v = true ∧ soundB k = true) then (.null, 1) else if v.kind = 0 then (.null, 0) else if v.kind ≠ 6 then (.null, 9) else (objV (delO k v.obj), 0)
theorem null_may (n : Nat) : mayJ n JV.null = true := may_flat rfl (by decide)
theorem obj_base (o : List Fld) : baseB (objV o) = true := by simp [baseB, objV, JV.kind, JV.g, JV.ls, JV.e, JV.s, JV.arr, JV.obj]
theorem obj_may {n : Nat} {o : List Fld} : mayJ (n + 1) (objV o) = true ↔ (∀ p ∈ o, soundB p.1 = true ∧ mayJ n p.2 = true) ∧ (o.map (·.1)).Nodup := by
  simp only [mayJ, Bool.and_eq_true, List.all_eq_true, decide_eq_true_eq, obj_base, true_and]
  constructor
  · rintro ⟨⟨_, h1⟩, h2⟩; exact ⟨h1, h2⟩
  · rintro ⟨h1, h2⟩; exact ⟨⟨fun x (hx : x ∈ ([] : List JV)) => (List.not_mem_nil hx).elim, h1⟩, h2⟩
/-- What an object or null has, when it may be. -/
theorem may_fields {n : Nat} {v : JV} (h : mayJ (n + 1) v = true) : (∀ p ∈ v.obj, soundB p.1 = true ∧ mayJ n p.2 = true) ∧ (v.obj.map (·.1)).Nodup := by
  simp only [mayJ, Bool.and_eq_true, List.all_eq_true, decide_eq_true_eq] at h
  exact ⟨h.1.2, h.2⟩
theorem with_ok {v x a : JV} {k : List UInt8} (h : withR v k x = (a, 0)) : mayJ 200 v = true ∧ mayJ 200 x = true ∧ soundB k = true ∧ (v.kind = 6 ∨ v.kind = 0) ∧ mayJ 199 x = true ∧ a = objV (setO k x v.obj) := by
  unfold withR at h
  split at h
  · simp at h
  · rename_i h1
    have h1 := Classical.not_not.1 h1
    split at h
    · simp at h
    · rename_i h2
      split at h
      · simp at h
      · rename_i h3
        have hd := may_depth 200 200 x h1.2.1 (Nat.le_refl _)
        refine ⟨h1.1, h1.2.1, h1.2.2, by omega, may_down 199 200 x h1.2.1 (by omega) (by omega), ?_⟩
        injection h with h _
        exact h.symm
theorem set_may {v x : JV} {k : List UInt8} (hv : mayJ 200 v = true) (hx : mayJ 199 x = true) (hk : soundB k = true) : mayJ 200 (objV (setO k x v.obj)) = true := by
  obtain ⟨h1, h2⟩ := may_fields hv
  refine obj_may.2 ⟨fun p hp => ?_, ?_⟩
  · rcases mem_set hp with rfl | hp
    · exact ⟨hk, hx⟩
    · exact h1 p hp
  · rw [keys_set]
    split
    · exact h2
    · rename_i h
      rw [hasO_iff] at h
      rw [List.nodup_append]
      exact ⟨h2, by simp, fun a ha b hb => by simp at hb; rw [hb]; exact fun e => h (e ▸ ha)⟩
theorem del_may {n : Nat} {o : List Fld} {k : List UInt8} (h : mayJ (n + 1) (objV o) = true) : mayJ (n + 1) (objV (delO k o)) = true := by
  obtain ⟨h1, h2⟩ := obj_may.1 h
  refine obj_may.2 ⟨fun p hp => h1 p (List.mem_filter.1 hp).1, ?_⟩
  exact h2.sublist ((List.filter_sublist).map _)

/-- ValueBack, without a program in sight. -/
structure Back (v x a : JV) (k o : List UInt8) : Prop where
  got : getR a k = (x, 0)
  again : withR a k x = (a, 0)
  err : (getR v o).2 = (getR a o).2
  rest : k = o ∨ (getR v o).2 ≠ 0 ∨ (getR v o).1 = (getR a o).1
  bad : (withoutR a k).2 = 0
  none : getR (withoutR a k).1 k = (.null, 0)
  bad2 : (withoutR v k).2 = 0
  less : v.kind = 0 ∨ (withoutR a k).1 = (withoutR v k).1
  mayA : mayJ 200 a = true
  mayB : mayJ 200 (withoutR a k).1 = true
theorem back_facts {v x a : JV} {k : List UInt8} (h : withR v k x = (a, 0)) (o : List UInt8) : Back v x a k o := by
  obtain ⟨hv, hx, hk, hkd, hx9, rfl⟩ := with_ok h
  have hd : depthJ 200 x ≠ 200 := by
    have := may_depth 199 200 x hx9 (by omega)
    omega
  have ma := set_may hv hx9 hk
  have w1 : withoutR (objV (setO k x v.obj)) k = (objV (delO k v.obj), 0) := by
    unfold withoutR
    rw [if_neg (fun h => h ⟨ma, hk⟩), if_neg (by simp [objV, JV.kind]), if_neg (by simp [objV, JV.kind])]
    show (objV (delO k (setO k x v.obj)), 0) = _
    rw [del_set]
  have md : mayJ 200 (objV (delO k v.obj)) = true := by
    have := del_may (k := k) ma
    rw [show delO k (setO k x v.obj) = delO k v.obj from del_set k x v.obj] at this
    exact this
  have w2 : (withoutR v k).2 = 0 ∧ (v.kind = 0 ∨ objV (delO k v.obj) = (withoutR v k).1) := by
    unfold withoutR
    rw [if_neg (fun h => h ⟨hv, hk⟩)]
    by_cases h0 : v.kind = 0
    · rw [if_pos h0]; exact ⟨rfl, Or.inl h0⟩
    · rw [if_neg h0, if_neg (by omega)]; exact ⟨rfl, Or.inr rfl⟩
  refine ⟨?_, ?_, ?_, ?_, by rw [w1], ?_, w2.1, by rw [w1]; exact w2.2, ma, by rw [w1]; exact md⟩
  · unfold getR
    rw [if_neg (fun h => h ⟨ma, hk⟩), if_neg (by simp [objV, JV.kind])]
    show ((getO k (setO k x v.obj)).getD .null, 0) = _
    rw [get_set_same]
    rfl
  · unfold withR
    rw [if_neg (fun h => h ⟨ma, hx, hk⟩), if_neg (by simp [objV, JV.kind]), if_neg hd]
    show (objV (setO k x (setO k x v.obj)), 0) = _
    rw [set_set]
  · unfold getR
    by_cases hs : soundB o = true
    · rw [if_neg (fun h => h ⟨hv, hs⟩), if_neg (show ¬ (v.kind ≠ 6 ∧ v.kind ≠ 0) by omega), if_neg (fun h => h ⟨ma, hs⟩), if_neg (show ¬ ((objV (setO k x v.obj)).kind ≠ 6 ∧ (objV (setO k x v.obj)).kind ≠ 0) by simp [objV, JV.kind])]
    · rw [if_pos (fun h => hs h.2), if_pos (fun h => hs h.2)]
  · by_cases hko : k = o
    · exact Or.inl hko
    · right; right
      unfold getR
      by_cases hs : soundB o = true
      · rw [if_neg (fun h => h ⟨hv, hs⟩), if_neg (show ¬ (v.kind ≠ 6 ∧ v.kind ≠ 0) by omega), if_neg (fun h => h ⟨ma, hs⟩), if_neg (show ¬ ((objV (setO k x v.obj)).kind ≠ 6 ∧ (objV (setO k x v.obj)).kind ≠ 0) by simp [objV, JV.kind])]
        show (getO o v.obj).getD .null = (getO o (setO k x v.obj)).getD .null
        rw [get_set_other x v.obj (fun e => hko e.symm)]
      · rw [if_pos (fun h => hs h.2), if_pos (fun h => hs h.2)]
  · rw [w1]
    unfold getR
    rw [if_neg (fun h => h ⟨md, hk⟩), if_neg (by simp [objV, JV.kind])]
    show ((getO k (delO k v.obj)).getD .null, 0) = _
    rw [get_del]
    rfl

end Go.Proofs.YtldhebpkplglcaaGreatDoor

namespace Go.Proofs.YtldhebpkplglcaaGreatDoor

theorem keyC_eq {a b : List UInt8} (h : keyC a b = 0) : a = b := nats_inj (cmpL_eq _ _ h)
theorem keyC_refl (a : List UInt8) : keyC a a = 0 := cmpL_refl _
theorem keyC_anti (a b : List UInt8) : keyC b a = -keyC a b := cmpL_anti _ _
theorem keyC_vals (a b : List UInt8) : keyC a b = -1 ∨ keyC a b = 0 ∨ keyC a b = 1 := cmpL_vals _ _
theorem keyC_trans {a b c : List UInt8} (h : keyC a b ≤ 0) (k : keyC b c ≤ 0) : keyC a c ≤ 0 := cmpL_trans _ _ _ h k
theorem keyC_lt {a b c : List UInt8} (h : keyC a b < 0) (k : keyC b c < 0) : keyC a c < 0 := by
  have t := keyC_trans (a := a) (b := b) (c := c) (by omega) (by omega)
  have hne : keyC a c ≠ 0 := fun e => by
    have := keyC_eq e
    subst this
    have := keyC_anti a b
    omega
  omega
/-- Each key is above the one ahead of it. -/
def Rising (l : List Fld) : Prop := l.Pairwise fun a b => keyC a.1 b.1 < 0
theorem insK_perm (x : Fld) : ∀ l : List Fld, (insK x l).Perm (x :: l)
  | [] => List.Perm.refl _
  | y :: l => by
    simp only [insK]
    split
    · exact List.Perm.refl _
    · exact ((insK_perm x l).cons y).trans (List.Perm.swap x y l)
theorem sortK_perm (l : List Fld) : (sortK l).Perm l := by
  have key : ∀ (l acc : List Fld), (l.foldl (fun acc x => insK x acc) acc).Perm (l ++ acc) := by
    intro l
    induction l with
    | nil => intro acc; exact List.Perm.refl _
    | cons y l ih =>
      intro acc
      rw [List.foldl_cons]
      refine (ih _).trans ?_
      refine ((insK_perm y acc).append_left l).trans ?_
      exact List.perm_middle
  have := key l []
  rwa [List.append_nil] at this
theorem insK_rising {x : Fld} : ∀ {l : List Fld}, Rising l → (∀ y ∈ l, y.1 ≠ x.1) → Rising (insK x l)
  | [], _, _ => List.pairwise_singleton _ _
  | y :: l, h, hx => by
    have hy := List.pairwise_cons.1 h
    simp only [insK]
    split
    · rename_i hlt
      refine List.pairwise_cons.2 ⟨fun z hz => ?_, h⟩
      rcases List.mem_cons.1 hz with e | e
      · rw [e]; exact hlt
      · exact keyC_lt hlt (hy.1 z e)
    · rename_i hge
      have hlt : keyC y.1 x.1 < 0 := by
        have a := keyC_anti x.1 y.1
        have v := keyC_vals x.1 y.1
        have hne : keyC x.1 y.1 ≠ 0 := fun e => hx y (by simp) (keyC_eq e).symm
        omega
      refine List.pairwise_cons.2 ⟨fun z hz => ?_, insK_rising hy.2 (fun w hw => hx w (by simp [hw]))⟩
      rcases (mem_insK x l z).1 hz with e | e
      · rw [e]; exact hlt
      · exact hy.1 z e
theorem sortK_rising {l : List Fld} (h : (l.map (·.1)).Nodup) : Rising (sortK l) := by
  have key : ∀ (l acc : List Fld), Rising acc → ((l ++ acc).map (·.1)).Nodup → Rising (l.foldl (fun acc x => insK x acc) acc) := by
    intro l
    induction l with
    | nil => intro acc ha _; exact ha
    | cons y l ih =>
      intro acc ha hn
      rw [List.foldl_cons]
      simp only [List.cons_append, List.map_cons, List.nodup_cons] at hn
      refine ih _ (insK_rising ha fun z hz e => hn.1 ?_) ?_
      · rw [← e]
        exact List.mem_map.2 ⟨z, by simp [hz], rfl⟩
      · have p : ((l ++ insK y acc).map (·.1)).Perm (y.1 :: (l ++ acc).map (·.1)) := by
          have p1 := ((insK_perm y acc).append_left l).trans List.perm_middle
          have := p1.map (·.1)
          simpa using this
        rw [p.nodup_iff, List.nodup_cons]
        exact hn
  refine key l [] List.Pairwise.nil ?_
  simpa using h
theorem rising_uniq : ∀ {l m : List Fld}, Rising l → Rising m → (∀ z, z ∈ l ↔ z ∈ m) → l = m
  | [], [], _, _, _ => rfl
  | [], y :: m, _, _, h => by have := (h y).2 (by simp); cases this
  | x :: l, [], _, _, h => by have := (h x).1 (by simp); cases this
  | x :: l, y :: m, hl, hm, h => by
    have h1 := List.pairwise_cons.1 hl
    have h2 := List.pairwise_cons.1 hm
    have hxy : x = y := by
      rcases List.mem_cons.1 ((h x).1 (by simp)) with e | e
      · exact e
      · rcases List.mem_cons.1 ((h y).2 (by simp)) with e2 | e2
        · exact e2.symm
        · have a := h2.1 x e
          have b := h1.1 y e2
          have c := keyC_anti x.1 y.1
          omega
    subst hxy
    congr 1
    refine rising_uniq h1.2 h2.2 fun z => ⟨fun hz => ?_, fun hz => ?_⟩
    · rcases List.mem_cons.1 ((h z).1 (by simp [hz])) with e | e
      · subst e
        have a := h1.1 z hz
        have b := keyC_refl z.1
        omega
      · exact e
    · rcases List.mem_cons.1 ((h z).2 (by simp [hz])) with e | e
      · subst e
        have a := h2.1 z hz
        have b := keyC_refl z.1
        omega
      · exact e
/-- What is in order and has the same fields is that order. -/
theorem sortK_of {l m : List Fld} (h : (l.map (·.1)).Nodup) (hm : Rising m) (e : ∀ z, z ∈ m ↔ z ∈ l) : m = sortK l :=
  rising_uniq hm (sortK_rising h) fun z => (e z).trans (mem_sortK l z).symm
theorem sortK_turn {l m : List Fld} (h : (l.map (·.1)).Nodup) (hm : (m.map (·.1)).Nodup) (e : ∀ z, z ∈ m ↔ z ∈ l) : sortK m = sortK l :=
  sortK_of h (sortK_rising hm) fun z => (mem_sortK m z).trans (e z)
/-- The order of a value's fields plays no part. -/
def turned (v : JV) : JV := .mk v.kind v.g v.ls v.e v.s v.arr v.obj.reverse
theorem turned_base : ∀ v : JV, baseB (turned v) = baseB v
  | .mk k g ls e s a o => by
    simp only [baseB, turned, JV.kind, JV.g, JV.ls, JV.e, JV.s, JV.arr, JV.obj]
    rw [show o.reverse.isEmpty = o.isEmpty by cases o <;> simp]
    rfl
theorem nodup_turn {l : List Fld} (h : (l.map (·.1)).Nodup) : (l.reverse.map (·.1)).Nodup := ((List.reverse_perm l).map (·.1)).nodup_iff.2 h
theorem turned_may {n : Nat} {v : JV} (h : mayJ n v = true) : mayJ n (turned v) = true := by
  have hb := turned_base v
  cases n with
  | zero =>
    simp only [mayJ, Bool.and_eq_true, decide_eq_true_eq] at h ⊢
    rw [hb]
    exact h
  | succ n =>
    obtain ⟨⟨⟨h1, h2⟩, h3⟩, h4⟩ := may_succ.1 h
    refine may_succ.2 ⟨⟨⟨by rw [hb]; exact h1, h2⟩, fun x hx => h3 x (List.mem_reverse.1 hx)⟩, ?_⟩
    exact nodup_turn h4
theorem turned_same {n : Nat} {v : JV} (h : mayJ n v = true) (f : Nat) : orderJ f (turned v) v = 0 := by
  cases f with
  | zero => rfl
  | succ f =>
    have hs : Sound v := ⟨n, h⟩
    have r := (ord_order (f + 1)).refl hs
    simp only [orderJ, fibC] at r ⊢
    have hk : (turned v).kind = v.kind := rfl
    rw [hk]
    rw [if_neg (by omega), if_neg (by omega)] at r ⊢
    by_cases h6 : v.kind = 6
    · have hn : (v.obj.map (·.1)).Nodup := by
        cases n with
        | zero =>
          simp only [mayJ, Bool.and_eq_true, decide_eq_true_eq] at h
          omega
        | succ n => exact (may_fields h).2
      have hs2 : sortK (turned v).obj = sortK v.obj := sortK_turn hn (nodup_turn hn) fun z => List.mem_reverse
      unfold kindC lexC at r ⊢
      rw [h6] at r ⊢
      simp only [show ((6 : Int) = 3) = False by simp, show ((6 : Int) = 4) = False by simp, show ((6 : Int) = 5) = False by simp, if_false, if_true] at r ⊢
      rw [hs2]
      exact r
    · have ho : v.obj = [] := base_obj (may_base h) h6
      have : turned v = v := by
        refine JV.ext rfl rfl rfl rfl rfl rfl ?_
        show v.obj.reverse = v.obj
        rw [ho]
        rfl
      rw [this]
      exact r

end Go.Proofs.YtldhebpkplglcaaGreatDoor

namespace Go.Proofs.YtldhebpkplglcaaGreatDoor

theorem get_of_mem : ∀ {l : List Fld} {p : Fld}, (l.map (·.1)).Nodup → p ∈ l → getO p.1 l = some p.2
  | [], p, _, h => by cases h
  | x :: l, p, hn, h => by
    simp only [List.map_cons, List.nodup_cons] at hn
    simp only [getO]
    rcases List.mem_cons.1 h with e | e
    · rw [if_pos (by rw [e]), e]
    · rw [if_neg fun h => hn.1 (by rw [h]; exact List.mem_map_of_mem e)]
      exact get_of_mem hn.2 e
/-- An object's keys, in order. -/
def keysK (l : List Fld) : List (List UInt8) := (sortK l).map (·.1)
theorem cmpBy_map {α β : Type} (f : β → β → Int) (g : α → β) : ∀ (xs ys : List α), cmpBy f (xs.map g) (ys.map g) = cmpBy (fun p q => f (g p) (g q)) xs ys
  | [], [] => rfl
  | [], _ :: _ => rfl
  | _ :: _, [] => rfl
  | x :: xs, y :: ys => by simp only [List.map_cons, cmpBy, cmpBy_map f g xs ys]
theorem keys_cmp (a b : List Fld) : cmpBy keyC (keysK a) (keysK b) = cmpBy (fun p q : Fld => keyC p.1 q.1) (sortK a) (sortK b) := cmpBy_map _ _ _ _
theorem cmpBy_zero {α : Type} {c : α → α → Int} : ∀ {xs ys : List α}, cmpBy c xs ys = 0 → xs.length = ys.length ∧ ∀ (i : Nat) (x y : α), xs[i]? = some x → ys[i]? = some y → c x y = 0
  | [], [], _ => ⟨rfl, fun i x y h => by simp at h⟩
  | [], _ :: _, h => by simp [cmpBy] at h
  | _ :: _, [], h => by simp [cmpBy] at h
  | x :: xs, y :: ys, h => by
    simp only [cmpBy] at h
    split at h
    · rename_i h0; exact absurd h h0
    · rename_i h0
      obtain ⟨h1, h2⟩ := cmpBy_zero h
      refine ⟨by simp [h1], fun i u v hu hv => ?_⟩
      cases i with
      | zero =>
        simp at hu hv
        rw [← hu, ← hv]
        exact Classical.not_not.1 h0
      | succ i => exact h2 i u v (by simpa using hu) (by simpa using hv)
/-- How far lists go together, item by item: what the walks of loops are told. -/
theorem cmpBy_step {α : Type} {c : α → α → Int} : ∀ (k : Nat) {xs ys : List α}, k ≤ xs.length → k ≤ ys.length → (∀ (i : Nat) (x y : α), i < k → xs[i]? = some x → ys[i]? = some y → c x y = 0) → cmpBy c xs ys = cmpBy c (xs.drop k) (ys.drop k)
  | 0, _, _, _, _, _ => by simp
  | k + 1, [], _, h, _, _ => by simp at h
  | k + 1, _ :: _, [], _, h, _ => by simp at h
  | k + 1, x :: xs, y :: ys, h1, h2, h => by
    have h0 := h 0 x y (by omega) (by simp) (by simp)
    simp only [cmpBy, List.drop_succ_cons]
    rw [if_neg (by omega)]
    exact cmpBy_step k (by simpa using h1) (by simpa using h2) fun i u v hi hu hv => h (i + 1) u v (by omega) (by simpa using hu) (by simpa using hv)
theorem cmpBy_drop {α : Type} {c : α → α → Int} {xs ys : List α} {k : Nat} {x y : α} (hx : xs[k]? = some x) (hy : ys[k]? = some y) : cmpBy c (xs.drop k) (ys.drop k) = if c x y ≠ 0 then c x y else cmpBy c (xs.drop (k + 1)) (ys.drop (k + 1)) := by
  obtain ⟨h1, e1⟩ := List.getElem?_eq_some_iff.1 hx
  obtain ⟨h2, e2⟩ := List.getElem?_eq_some_iff.1 hy
  rw [List.drop_eq_getElem_cons h1, List.drop_eq_getElem_cons h2, e1, e2]
  rfl
theorem cmpBy_left {α : Type} {c : α → α → Int} {xs ys : List α} {k : Nat} (hx : k < xs.length) (hy : ys.length ≤ k) : cmpBy c (xs.drop k) (ys.drop k) = 1 := by
  rw [List.drop_eq_getElem_cons hx, List.drop_of_length_le hy]
  rfl
theorem cmpBy_right {α : Type} {c : α → α → Int} {xs ys : List α} {k : Nat} (hx : xs.length ≤ k) (hy : k < ys.length) : cmpBy c (xs.drop k) (ys.drop k) = -1 := by
  rw [List.drop_eq_getElem_cons hy, List.drop_of_length_le hx]
  rfl
theorem cmpBy_both {α : Type} {c : α → α → Int} {xs ys : List α} {k : Nat} (hx : xs.length ≤ k) (hy : ys.length ≤ k) : cmpBy c (xs.drop k) (ys.drop k) = 0 := by
  rw [List.drop_of_length_le hx, List.drop_of_length_le hy]
  rfl
/-- What Cmp tells. -/
def cmpVR (a b : JV) : Int × Nat := if mayJ 200 a = true ∧ mayJ 200 b = true then (orderJ 201 a b, 0) else (0, 1)
/-- ValueOrder, without a program in sight. -/
theorem order_facts {a b c : JV} (ha : mayJ 200 a = true) (hb : mayJ 200 b = true) (hc : mayJ 200 c = true) :
    orderJ 201 b a = -orderJ 201 a b ∧ orderJ 201 a a = 0 ∧ (0 < orderJ 201 a b ∨ 0 < orderJ 201 b c ∨ orderJ 201 a c ≤ 0) ∧ (orderJ 201 a b ≠ 0 ∨ orderJ 201 a c = orderJ 201 b c) ∧ -1 ≤ orderJ 201 a b ∧ orderJ 201 a b ≤ 1 := by
  have o := ord_order 201
  have sa : Sound a := ⟨_, ha⟩
  have sb : Sound b := ⟨_, hb⟩
  have sc : Sound c := ⟨_, hc⟩
  refine ⟨o.anti a b sa sb, o.refl sa, ?_, ?_, ?_⟩
  · have := o.trans a b c sa sb sc
    omega
  · by_cases h : orderJ 201 a b = 0
    · exact Or.inr (o.same sa sb sc h)
    · exact Or.inl h
  · have := o.vals a b sa sb
    omega

end Go.Proofs.YtldhebpkplglcaaGreatDoor

namespace Go.Proofs.YtldhebpkplglcaaGreatDoor
open Go.RowKit

/-- From the k-th cell of a slice on there stand cs. -/
def CellsAt (w : World) (a : Option Addr) (k : Nat) (cs : List Value) : Prop := ∃ b off, a = some ⟨b, off, none⟩ ∧ ∀ (j : Nat) (v : Value), cs[j]? = some v → w.cell? ⟨b, off + k + j, none⟩ = some v
theorem CellsAt.below {w w' : World} {a : Option Addr} {k : Nat} {cs : List Value} (h : CellsAt w a k cs) (hb : Below w.heap.size w w') : CellsAt w' a k cs := by
  obtain ⟨b, off, e, hc⟩ := h
  exact ⟨b, off, e, fun j v hv => ((bcell hb).1 _ _ (cell_lt (hc j v hv))).trans (hc j v hv)⟩
/-- A number as an int of 64 bits. -/
def I64 (n : Int) : Prop := -9223372036854775808 ≤ n ∧ n ≤ 9223372036854775807
def strV (s : List UInt8) : Value := .string ⟨s.toArray⟩
/-- A value's cells. -/
def valCs (kind : Int) (g : Bool) (a : Option Addr) (n c : Nat) (e : Int) (s : List UInt8) (aa : Option Addr) (an ac : Nat) (oa : Option Addr) (on oc : Nat) : List Value :=
  [.int .i64 kind, .bool g, .slice a n c, .int .i64 e, strV s, .slice aa an ac, .slice oa on oc]
inductive RdV (w : World) : List Value → JV → Prop
  | mk (kind : Int) (g : Bool) (a : Option Addr) (ls : List Nat) (c : Nat) (e : Int) (s : List UInt8) (aa : Option Addr) (arr : List JV) (ac : Nat) (oa : Option Addr) (obj : List (List UInt8 × JV)) (oc : Nat) (csA csO : Nat → List Value)
      (hk : I64 kind) (he : I64 e) (hs : s.length ≤ 9223372036854775807) (hac : arr.length ≤ ac ∧ ac ≤ 9223372036854775807) (hoc : obj.length ≤ oc ∧ oc ≤ 9223372036854775807) (hcap : ls.length ≤ c ∧ c ≤ 9223372036854775807)
      (hu : U32 w a ls)
      (hA : ∀ i, i < arr.length → CellsAt w aa (i * 7) (csA i))
      (hA2 : ∀ (i : Nat) (x : JV), arr[i]? = some x → RdV w (csA i) x)
      (hO : ∀ (i : Nat) (x : List UInt8 × JV), obj[i]? = some x → CellsAt w oa (i * 8) (strV x.1 :: csO i) ∧ x.1.length ≤ 9223372036854775807)
      (hO2 : ∀ (i : Nat) (x : List UInt8 × JV), obj[i]? = some x → RdV w (csO i) x.2) :
      RdV w (valCs kind g a ls.length c e s aa arr.length ac oa obj.length oc) (.mk kind g ls e s arr obj)
theorem RdV.stay {w w' : World} {cs : List Value} {v : JV} (h : RdV w cs v) (hb : Below w.heap.size w w') : RdV w' cs v := by
  induction h with
  | mk kind g a ls c e s aa arr ac oa obj oc csA csO hk he hs hac hoc hcap hu hA hA2 hO hO2 ihA ihO =>
    exact .mk kind g a ls c e s aa arr ac oa obj oc csA csO hk he hs hac hoc hcap (hu.below hb) (fun i hi => (hA i hi).below hb) ihA (fun i x hx => ⟨(hO i x hx).1.below hb, (hO i x hx).2⟩) ihO
theorem RdV.len {w : World} {cs : List Value} {v : JV} (h : RdV w cs v) : cs.length = 7 := by
  cases h
  rfl
/-- Items in memory. -/
def RdA (w : World) (aa : Option Addr) (arr : List JV) : Prop := ∀ (i : Nat) (x : JV), arr[i]? = some x → ∃ cs, CellsAt w aa (i * 7) cs ∧ RdV w cs x
/-- Fields in memory. -/
def RdO (w : World) (oa : Option Addr) (obj : List (List UInt8 × JV)) : Prop := ∀ (i : Nat) (x : List UInt8 × JV), obj[i]? = some x → ∃ cs, CellsAt w oa (i * 8) (strV x.1 :: cs) ∧ x.1.length ≤ 9223372036854775807 ∧ RdV w cs x.2
theorem RdA.below {w w' : World} {aa : Option Addr} {arr : List JV} (h : RdA w aa arr) (hb : Below w.heap.size w w') : RdA w' aa arr := fun i x hx => by
  obtain ⟨cs, h1, h2⟩ := h i x hx
  exact ⟨cs, h1.below hb, h2.stay hb⟩
theorem RdO.below {w w' : World} {oa : Option Addr} {obj : List (List UInt8 × JV)} (h : RdO w oa obj) (hb : Below w.heap.size w w') : RdO w' oa obj := fun i x hx => by
  obtain ⟨cs, h1, h2, h3⟩ := h i x hx
  exact ⟨cs, h1.below hb, h2, h3.stay hb⟩
/-- A value's parts. -/
structure PartsV (w : World) (cs : List Value) (v : JV) (a : Option Addr) (c : Nat) (aa : Option Addr) (ac : Nat) (oa : Option Addr) (oc : Nat) : Prop where
  cells : cs = valCs v.kind v.g a v.ls.length c v.e v.s aa v.arr.length ac oa v.obj.length oc
  k : I64 v.kind
  e : I64 v.e
  s : v.s.length ≤ 9223372036854775807
  ac : v.arr.length ≤ ac ∧ ac ≤ 9223372036854775807
  oc : v.obj.length ≤ oc ∧ oc ≤ 9223372036854775807
  c : v.ls.length ≤ c ∧ c ≤ 9223372036854775807
  u : U32 w a v.ls
  arr : RdA w aa v.arr
  obj : RdO w oa v.obj
theorem RdV.parts {w : World} {cs : List Value} {v : JV} (h : RdV w cs v) : ∃ a c aa ac oa oc, PartsV w cs v a c aa ac oa oc := by
  cases h with
  | mk kind g a ls c e s aa arr ac oa obj oc csA csO hk he hs hac hoc hcap hu hA hA2 hO hO2 =>
    exact ⟨a, c, aa, ac, oa, oc, rfl, hk, he, hs, hac, hoc, hcap, hu, fun i x hx => ⟨csA i, hA i (List.getElem?_eq_some_iff.1 hx).1, hA2 i x hx⟩, fun i x hx => ⟨csO i, (hO i x hx).1, (hO i x hx).2, hO2 i x hx⟩⟩
theorem PartsV.rd {w : World} {cs : List Value} {v : JV} {a aa oa : Option Addr} {c ac oc : Nat} (h : PartsV w cs v a c aa ac oa oc) : RdV w cs v := by
  obtain ⟨hcs, hk, he, hs, hac, hoc, hc, hu, harr, hobj⟩ := h
  obtain ⟨kind, g, ls, e, s, arr, obj⟩ := v
  simp only [JV.kind, JV.g, JV.ls, JV.e, JV.s, JV.arr, JV.obj] at *
  subst hcs
  have pA : ∀ i, ∃ cs, ∀ x, arr[i]? = some x → CellsAt w aa (i * 7) cs ∧ RdV w cs x := fun i => by
    by_cases hi : i < arr.length
    · obtain ⟨cs, h1, h2⟩ := harr i arr[i] (List.getElem?_eq_getElem hi)
      exact ⟨cs, fun x hx => by rw [List.getElem?_eq_getElem hi] at hx; injection hx with hx; rw [← hx]; exact ⟨h1, h2⟩⟩
    · exact ⟨[], fun x hx => absurd (List.getElem?_eq_some_iff.1 hx).1 hi⟩
  have pO : ∀ i, ∃ cs, ∀ x, obj[i]? = some x → CellsAt w oa (i * 8) (strV x.1 :: cs) ∧ x.1.length ≤ 9223372036854775807 ∧ RdV w cs x.2 := fun i => by
    by_cases hi : i < obj.length
    · obtain ⟨cs, h1, h2⟩ := hobj i obj[i] (List.getElem?_eq_getElem hi)
      exact ⟨cs, fun x hx => by rw [List.getElem?_eq_getElem hi] at hx; injection hx with hx; rw [← hx]; exact ⟨h1, h2⟩⟩
    · exact ⟨[], fun x hx => absurd (List.getElem?_eq_some_iff.1 hx).1 hi⟩
  exact .mk kind g a ls c e s aa arr ac oa obj oc (fun i => Classical.choose (pA i)) (fun i => Classical.choose (pO i)) hk he hs hac hoc hc hu
    (fun i hi => (Classical.choose_spec (pA i) _ (List.getElem?_eq_getElem hi)).1) (fun i x hx => (Classical.choose_spec (pA i) x hx).2)
    (fun i x hx => ⟨(Classical.choose_spec (pO i) x hx).1, (Classical.choose_spec (pO i) x hx).2.1⟩) (fun i x hx => (Classical.choose_spec (pO i) x hx).2.2)
theorem rdv_null (w : World) : RdV w (valCs 0 false none 0 0 0 [] none 0 0 none 0 0) .null :=
  PartsV.rd (v := .null) ⟨rfl, by unfold I64; decide, by unfold I64; decide, by decide, by decide, by decide, by decide, ⟨Row.nil _ _, fun x hx => by cases hx⟩, fun i x hx => by simp [JV.null, JV.arr] at hx, fun i x hx => by simp [JV.null, JV.obj] at hx⟩

end Go.Proofs.YtldhebpkplglcaaGreatDoor

namespace Go.Proofs.YtldhebpkplglcaaGreatDoor
open Go.RowKit

/-- A value in a slot. -/
def valV (kind : Int) (g : Bool) (a : Option Addr) (n c : Nat) (e : Int) (s : List UInt8) (aa : Option Addr) (an ac : Nat) (oa : Option Addr) (on oc : Nat) : Value :=
  .agg #[.int .i64 kind, .bool g, .slice a n c, .int .i64 e, strV s, .slice aa an ac, .slice oa on oc]
theorem valV_cells (kind : Int) (g : Bool) (a : Option Addr) (n c : Nat) (e : Int) (s : List UInt8) (aa : Option Addr) (an ac : Nat) (oa : Option Addr) (on oc : Nat) : valV kind g a n c e s aa an ac oa on oc = .agg (valCs kind g a n c e s aa an ac oa on oc).toArray := rfl
/-- Seven cells from a place on. -/
def Cells7 (w : World) (b o : Nat) (kind : Int) (g : Bool) (a : Option Addr) (n c : Nat) (e : Int) (s : List UInt8) (aa : Option Addr) (an ac : Nat) (oa : Option Addr) (on oc : Nat) : Prop :=
  w.cell? ⟨b, o, none⟩ = some (.int .i64 kind) ∧ w.cell? ⟨b, o + 1, none⟩ = some (.bool g) ∧ w.cell? ⟨b, o + 2, none⟩ = some (.slice a n c) ∧ w.cell? ⟨b, o + 3, none⟩ = some (.int .i64 e) ∧ w.cell? ⟨b, o + 4, none⟩ = some (strV s) ∧
    w.cell? ⟨b, o + 5, none⟩ = some (.slice aa an ac) ∧ w.cell? ⟨b, o + 6, none⟩ = some (.slice oa on oc)
theorem CellsAt.seven {w : World} {p : Option Addr} {k : Nat} {kind : Int} {g : Bool} {a : Option Addr} {n c : Nat} {e : Int} {s : List UInt8} {aa : Option Addr} {an ac : Nat} {oa : Option Addr} {on oc : Nat}
    (h : CellsAt w p k (valCs kind g a n c e s aa an ac oa on oc)) : ∃ b off, p = some ⟨b, off, none⟩ ∧ Cells7 w b (off + k) kind g a n c e s aa an ac oa on oc := by
  obtain ⟨b, off, rfl, hc⟩ := h
  exact ⟨b, off, rfl, hc 0 _ rfl, hc 1 _ rfl, hc 2 _ rfl, hc 3 _ rfl, hc 4 _ rfl, hc 5 _ rfl, hc 6 _ rfl⟩
/-- The cells of the k-th item. -/
theorem RdA.at {w : World} {aa : Option Addr} {arr : List JV} (h : RdA w aa arr) {k : Nat} (hk : k < arr.length) :
    ∃ b off a c aa' ac oa oc, aa = some ⟨b, off, none⟩ ∧ PartsV w (valCs arr[k].kind arr[k].g a arr[k].ls.length c arr[k].e arr[k].s aa' arr[k].arr.length ac oa arr[k].obj.length oc) arr[k] a c aa' ac oa oc ∧
      Cells7 w b (off + k * 7) arr[k].kind arr[k].g a arr[k].ls.length c arr[k].e arr[k].s aa' arr[k].arr.length ac oa arr[k].obj.length oc := by
  obtain ⟨cs, h1, h2⟩ := h k arr[k] (List.getElem?_eq_getElem hk)
  obtain ⟨a, c, aa', ac, oa, oc, P⟩ := h2.parts
  have e := P.cells
  subst e
  obtain ⟨b, off, e, h3⟩ := h1.seven
  exact ⟨b, off, a, c, aa', ac, oa, oc, e, P, h3⟩
/-- Eight cells from a place on: a key and a value. -/
def Cells8f (w : World) (b o : Nat) (key : List UInt8) (kind : Int) (g : Bool) (a : Option Addr) (n c : Nat) (e : Int) (s : List UInt8) (aa : Option Addr) (an ac : Nat) (oa : Option Addr) (on oc : Nat) : Prop :=
  w.cell? ⟨b, o, none⟩ = some (strV key) ∧ w.cell? ⟨b, o + 1, none⟩ = some (.int .i64 kind) ∧ w.cell? ⟨b, o + 2, none⟩ = some (.bool g) ∧ w.cell? ⟨b, o + 3, none⟩ = some (.slice a n c) ∧ w.cell? ⟨b, o + 4, none⟩ = some (.int .i64 e) ∧ w.cell? ⟨b, o + 5, none⟩ = some (strV s) ∧
    w.cell? ⟨b, o + 6, none⟩ = some (.slice aa an ac) ∧ w.cell? ⟨b, o + 7, none⟩ = some (.slice oa on oc)
theorem RdO.at {w : World} {oa : Option Addr} {obj : List Fld} (h : RdO w oa obj) {k : Nat} (hk : k < obj.length) :
    ∃ b off a c aa' ac oa' oc, oa = some ⟨b, off, none⟩ ∧ obj[k].1.length ≤ 9223372036854775807 ∧ PartsV w (valCs obj[k].2.kind obj[k].2.g a obj[k].2.ls.length c obj[k].2.e obj[k].2.s aa' obj[k].2.arr.length ac oa' obj[k].2.obj.length oc) obj[k].2 a c aa' ac oa' oc ∧
      Cells8f w b (off + k * 8) obj[k].1 obj[k].2.kind obj[k].2.g a obj[k].2.ls.length c obj[k].2.e obj[k].2.s aa' obj[k].2.arr.length ac oa' obj[k].2.obj.length oc := by
  obtain ⟨cs, h1, h0, h2⟩ := h k obj[k] (List.getElem?_eq_getElem hk)
  obtain ⟨a, c, aa', ac, oa', oc, P⟩ := h2.parts
  have e := P.cells
  subst e
  obtain ⟨b, off, rfl, hc⟩ := h1
  exact ⟨b, off, a, c, aa', ac, oa', oc, rfl, h0, P, hc 0 _ rfl, hc 1 _ rfl, hc 2 _ rfl, hc 3 _ rfl, hc 4 _ rfl, hc 5 _ rfl, hc 6 _ rfl, hc 7 _ rfl⟩


end Go.Proofs.YtldhebpkplglcaaGreatDoor
