/- Plain numbers: lists of digits of a base, the lowest first, and what they are worth. Nothing of the program. -/
namespace Go.Proofs.YtafeofgjmlhklaaGreatDoor.Num

/-- What a list of digits of base b is worth, the lowest first. -/
def val (b : Nat) : List Nat → Nat
  | [] => 0
  | x :: xs => x + b * val b xs

/-- The digits of a number, the lowest first, none at the end that is 0. -/
def digsAux (b : Nat) : Nat → Nat → List Nat
  | 0, _ => []
  | f + 1, n => if n = 0 then [] else n % b :: digsAux b f (n / b)
def digs (b n : Nat) : List Nat := digsAux b n n

theorem div_lt_self' {n b : Nat} (hn : n ≠ 0) (hb : 2 ≤ b) : n / b < n := Nat.div_lt_self (by omega) (by omega)

theorem digsAux_fuel {b : Nat} (hb : 2 ≤ b) : ∀ (f g n : Nat), n ≤ f → n ≤ g → digsAux b f n = digsAux b g n := by
  intro f
  induction f with
  | zero => intro g n hf _; obtain rfl : n = 0 := by omega
            cases g <;> simp [digsAux]
  | succ f ih =>
    intro g n hf hg
    by_cases hn : n = 0
    · subst hn; cases g <;> simp [digsAux]
    · cases g with
      | zero => omega
      | succ g =>
        have := div_lt_self' hn hb
        simp only [digsAux, if_neg hn]
        rw [ih g (n / b) (by omega) (by omega)]

theorem digs_zero (b : Nat) : digs b 0 = [] := rfl
theorem digs_pos {b n : Nat} (hb : 2 ≤ b) (hn : n ≠ 0) : digs b n = n % b :: digs b (n / b) := by
  cases n with
  | zero => exact absurd rfl hn
  | succ n =>
    have := div_lt_self' hn hb
    unfold digs
    simp only [digsAux, if_neg hn]
    rw [digsAux_fuel hb n ((n + 1) / b) _ (by omega) (Nat.le_refl _)]

/-- An induction along the digits. -/
theorem digs_ind {b : Nat} (hb : 2 ≤ b) {P : Nat → Prop} (h0 : P 0) (h1 : ∀ n, n ≠ 0 → P (n / b) → P n) (n : Nat) : P n := by
  induction n using Nat.strongRecOn with
  | _ n ih =>
    by_cases hn : n = 0
    · subst hn; exact h0
    · exact h1 n hn (ih _ (div_lt_self' hn hb))

theorem val_nil (b : Nat) : val b [] = 0 := rfl
theorem val_cons (b x : Nat) (xs : List Nat) : val b (x :: xs) = x + b * val b xs := rfl

theorem val_digs {b : Nat} (hb : 2 ≤ b) (n : Nat) : val b (digs b n) = n := by
  induction n using digs_ind hb with
  | h0 => rfl
  | h1 n hn ih => rw [digs_pos hb hn, val_cons, ih]; exact Nat.mod_add_div n b

theorem digs_lt {b : Nat} (hb : 2 ≤ b) (n : Nat) : ∀ x ∈ digs b n, x < b := by
  induction n using digs_ind hb with
  | h0 => intro x hx; simp [digs_zero] at hx
  | h1 n hn ih =>
    intro x hx
    rw [digs_pos hb hn] at hx
    rcases List.mem_cons.1 hx with rfl | hx
    · exact Nat.mod_lt _ (by omega)
    · exact ih x hx

theorem digs_eq_nil {b n : Nat} (hb : 2 ≤ b) : digs b n = [] ↔ n = 0 := by
  constructor
  · intro h; have := val_digs hb n; rw [h] at this; exact this.symm
  · rintro rfl; rfl

theorem val_append (b : Nat) (xs ys : List Nat) : val b (xs ++ ys) = val b xs + b ^ xs.length * val b ys := by
  induction xs with
  | nil => simp [val]
  | cons x xs ih =>
    simp only [List.cons_append, val_cons, ih, List.length_cons, Nat.pow_succ, Nat.mul_add]
    rw [Nat.add_assoc]
    congr 2
    rw [← Nat.mul_assoc, Nat.mul_comm b]

theorem val_snoc (b : Nat) (xs : List Nat) (y : Nat) : val b (xs ++ [y]) = val b xs + b ^ xs.length * y := by
  rw [val_append]; simp [val]

theorem val_replicate (b n : Nat) : val b (List.replicate n 0) = 0 := by
  induction n with
  | zero => rfl
  | succ n ih => rw [List.replicate_succ, val_cons, ih]; simp

theorem val_shift (b n : Nat) (xs : List Nat) : val b (List.replicate n 0 ++ xs) = b ^ n * val b xs := by
  rw [val_append, val_replicate]; simp

theorem val_lt {b : Nat} (_hb : 1 ≤ b) (xs : List Nat) (h : ∀ x ∈ xs, x < b) : val b xs < b ^ xs.length := by
  induction xs with
  | nil => simp [val]
  | cons x xs ih =>
    have h1 := h x (by simp)
    have h2 := ih (fun y hy => h y (by simp [hy]))
    have h3 : b * (val b xs + 1) ≤ b * b ^ xs.length := Nat.mul_le_mul_left b h2
    rw [val_cons, List.length_cons, Nat.pow_succ, Nat.mul_comm _ b]
    rw [Nat.mul_add] at h3
    omega

theorem val_inj {b : Nat} : ∀ (xs ys : List Nat), (∀ x ∈ xs, x < b) → (∀ y ∈ ys, y < b) → xs.length = ys.length → val b xs = val b ys → xs = ys
  | [], [], _, _, _, _ => rfl
  | [], _ :: _, _, _, h, _ => by simp at h
  | _ :: _, [], _, _, h, _ => by simp at h
  | x :: xs, y :: ys, hx, hy, hl, hv => by
    have h1 := hx x (by simp)
    have h2 := hy y (by simp)
    simp only [val_cons] at hv
    have hm : (x + b * val b xs) % b = (y + b * val b ys) % b := by rw [hv]
    rw [Nat.add_mul_mod_self_left, Nat.add_mul_mod_self_left, Nat.mod_eq_of_lt h1, Nat.mod_eq_of_lt h2] at hm
    subst hm
    have hb : 0 < b := by omega
    have := Nat.eq_of_mul_eq_mul_left hb (by omega : b * val b xs = b * val b ys)
    rw [val_inj xs ys (fun a ha => hx a (by simp [ha])) (fun a ha => hy a (by simp [ha])) (by simpa using hl) this]

/-- Without noughts at the end. -/
def trim (xs : List Nat) : List Nat := (xs.reverse.dropWhile (· == 0)).reverse

theorem trim_nil : trim [] = [] := rfl
theorem trim_snoc_zero (xs : List Nat) : trim (xs ++ [0]) = trim xs := by simp [trim]
theorem trim_snoc_pos (xs : List Nat) {y : Nat} (hy : y ≠ 0) : trim (xs ++ [y]) = xs ++ [y] := by simp [trim, hy]

theorem digs_snoc {b : Nat} (hb : 2 ≤ b) : ∀ (xs : List Nat) (y : Nat), (∀ x ∈ xs, x < b) → y < b → y ≠ 0 → digs b (val b (xs ++ [y])) = xs ++ [y]
  | [], y, _, hy, hy0 => by
    simp only [List.nil_append, val_cons, val_nil, Nat.mul_zero, Nat.add_zero]
    rw [digs_pos hb hy0, Nat.mod_eq_of_lt hy, Nat.div_eq_of_lt hy, digs_zero]
  | x :: xs, y, hx, hy, hy0 => by
    have ih := digs_snoc hb xs y (fun a ha => hx a (by simp [ha])) hy hy0
    have h1 := hx x (by simp)
    have hpos : val b (xs ++ [y]) ≠ 0 := by
      intro h; rw [h, digs_zero] at ih; simp at ih
    have hp : b * 1 ≤ b * val b (xs ++ [y]) := Nat.mul_le_mul_left b (by omega)
    rw [List.cons_append, val_cons, digs_pos hb (by omega), Nat.add_mul_mod_self_left, Nat.mod_eq_of_lt h1, Nat.add_mul_div_left _ _ (by omega), Nat.div_eq_of_lt h1, Nat.zero_add, ih]

theorem snoc_ind {α : Type} {P : List α → Prop} (h0 : P []) (h1 : ∀ xs y, P xs → P (xs ++ [y])) (xs : List α) : P xs := by
  have : ∀ n (xs : List α), xs.length = n → P xs := by
    intro n
    induction n with
    | zero => intro xs h; rw [List.length_eq_zero_iff.1 h]; exact h0
    | succ n ih =>
      intro xs h
      have hne : xs ≠ [] := by intro e; subst e; simp at h
      rw [← List.dropLast_concat_getLast hne]
      exact h1 _ _ (ih _ (by simp [h]))
  exact this _ xs rfl

/-- ████ A list of digits without its noughts at the end is the list of the digits of its worth. -/
theorem trim_eq {b : Nat} (hb : 2 ≤ b) (xs : List Nat) (h : ∀ x ∈ xs, x < b) : trim xs = digs b (val b xs) := by
  induction xs using snoc_ind with
  | h0 => rfl
  | h1 xs y ih =>
    by_cases hy : y = 0
    · subst hy
      rw [trim_snoc_zero, ih (fun x hx => h x (by simp [hx])), val_snoc]; simp
    · rw [trim_snoc_pos _ hy, digs_snoc hb xs y (fun x hx => h x (by simp [hx])) (h y (by simp)) hy]

theorem trim_take (xs : List Nat) : ∃ n, n ≤ xs.length ∧ trim xs = xs.take n := by
  induction xs using snoc_ind with
  | h0 => exact ⟨0, by simp, rfl⟩
  | h1 xs y ih =>
    by_cases hy : y = 0
    · subst hy
      obtain ⟨n, hn, e⟩ := ih
      exact ⟨n, by simp; omega, by rw [trim_snoc_zero, e, List.take_append_of_le_length hn]⟩
    · exact ⟨xs.length + 1, by simp, by rw [trim_snoc_pos _ hy]; simp [List.take_of_length_le]⟩

theorem digs_length_le {b : Nat} (hb : 2 ≤ b) {n k : Nat} : (digs b n).length ≤ k ↔ n < b ^ k := by
  induction n using digs_ind hb generalizing k with
  | h0 => simp [digs_zero, Nat.pow_pos (show 0 < b by omega)]
  | h1 n hn ih =>
    rw [digs_pos hb hn, List.length_cons]
    cases k with
    | zero => simp; omega
    | succ k =>
      rw [Nat.add_le_add_iff_right, ih, Nat.div_lt_iff_lt_mul (by omega), Nat.pow_succ]

theorem lt_pow_length {b : Nat} (hb : 2 ≤ b) (n : Nat) : n < b ^ (digs b n).length := (digs_length_le hb).1 (Nat.le_refl _)
theorem pow_le_of_lt_length {b : Nat} (hb : 2 ≤ b) {n k : Nat} (h : k < (digs b n).length) : b ^ k ≤ n := by
  have := mt (digs_length_le hb (n := n) (k := k)).2
  omega
theorem length_pos {b : Nat} (hb : 2 ≤ b) {n : Nat} (hn : n ≠ 0) : 0 < (digs b n).length := by
  rw [digs_pos hb hn]; simp
theorem digs_length_mono {b : Nat} (hb : 2 ≤ b) {m n : Nat} (h : m ≤ n) : (digs b m).length ≤ (digs b n).length := by
  rw [digs_length_le hb]; exact Nat.lt_of_le_of_lt h (lt_pow_length hb n)
/-- The digit count of a product with a power of the base. -/
theorem digs_length_mul_pow {b : Nat} (hb : 2 ≤ b) {n : Nat} (hn : n ≠ 0) (k : Nat) : (digs b (n * b ^ k)).length = (digs b n).length + k := by
  apply Nat.le_antisymm
  · rw [digs_length_le hb, Nat.pow_add]
    exact Nat.mul_lt_mul_of_pos_right (lt_pow_length hb n) (Nat.pow_pos (by omega))
  · have hp := length_pos hb hn
    rcases Nat.lt_or_ge (digs b (n * b ^ k)).length ((digs b n).length + k) with h | h
    · exfalso
      have h1 := lt_pow_length hb (n * b ^ k)
      have h2 : b ^ ((digs b n).length - 1) ≤ n := pow_le_of_lt_length hb (by omega)
      have h3 : b ^ ((digs b n).length - 1 + k) ≤ n * b ^ k := by rw [Nat.pow_add]; exact Nat.mul_le_mul_right _ h2
      have h4 : b ^ (digs b (n * b ^ k)).length ≤ b ^ ((digs b n).length - 1 + k) := Nat.pow_le_pow_right (by omega) (by omega)
      omega
    · exact h
theorem digs_mul_pow {b : Nat} (hb : 2 ≤ b) {n : Nat} (hn : n ≠ 0) (k : Nat) : digs b (n * b ^ k) = List.replicate k 0 ++ digs b n := by
  apply val_inj (b := b)
  · exact digs_lt hb _
  · intro y hy
    rcases List.mem_append.1 hy with h | h
    · have := List.eq_of_mem_replicate h; omega
    · exact digs_lt hb _ y h
  · rw [digs_length_mul_pow hb hn]; simp [Nat.add_comm]
  · rw [val_digs hb, val_shift, val_digs hb, Nat.mul_comm]

/-- Dividing by a power of the base cuts digits away at the front; the rest are the digits that were cut. -/
theorem digs_div_pow {b : Nat} (hb : 2 ≤ b) (n k : Nat) : digs b (n / b ^ k) = (digs b n).drop k := by
  induction k generalizing n with
  | zero => simp
  | succ k ih =>
    by_cases hn : n = 0
    · subst hn; simp [digs_zero]
    · rw [digs_pos hb hn, List.drop_succ_cons, ← ih, Nat.pow_succ, Nat.mul_comm, Nat.div_div_eq_div_mul]

theorem val_take {b : Nat} (hb : 1 ≤ b) (xs : List Nat) (h : ∀ x ∈ xs, x < b) (k : Nat) : val b (xs.take k) = val b xs % b ^ k := by
  by_cases hk : k ≤ xs.length
  · have e := val_append b (xs.take k) (xs.drop k)
    rw [List.take_append_drop, List.length_take, Nat.min_eq_left hk] at e
    rw [e, Nat.add_mul_mod_self_left, Nat.mod_eq_of_lt]
    have := val_lt hb (xs.take k) (fun x hx => h x (List.mem_of_mem_take hx))
    rwa [List.length_take, Nat.min_eq_left hk] at this
  · rw [List.take_of_length_le (by omega), Nat.mod_eq_of_lt]
    exact Nat.lt_of_lt_of_le (val_lt hb xs h) (Nat.pow_le_pow_right hb (by omega))
theorem val_drop {b : Nat} (hb : 1 ≤ b) (xs : List Nat) (h : ∀ x ∈ xs, x < b) (k : Nat) : val b (xs.drop k) = val b xs / b ^ k := by
  by_cases hk : k ≤ xs.length
  · have e := val_append b (xs.take k) (xs.drop k)
    rw [List.take_append_drop, List.length_take, Nat.min_eq_left hk] at e
    have hl := val_lt hb (xs.take k) (fun x hx => h x (List.mem_of_mem_take hx))
    rw [List.length_take, Nat.min_eq_left hk] at hl
    rw [e, Nat.add_mul_div_left _ _ (Nat.pow_pos (by omega)), Nat.div_eq_of_lt hl, Nat.zero_add]
  · rw [List.drop_of_length_le (by omega), Nat.div_eq_of_lt]
    · rfl
    · exact Nat.lt_of_lt_of_le (val_lt hb xs h) (Nat.pow_le_pow_right hb (by omega))

/-- The sum that is laid down up to place k. -/
def upto (b : Nat) (s : Nat → Nat) : Nat → Nat
  | 0 => 0
  | k + 1 => upto b s k + s k * b ^ k
theorem val_eq_upto (b : Nat) (xs : List Nat) : ∀ k, k ≤ xs.length → val b (xs.take k) = upto b (fun i => xs.getD i 0) k
  | 0, _ => rfl
  | k + 1, h => by
    have hk : k < xs.length := h
    rw [List.take_add_one, List.getElem?_eq_getElem hk]
    simp only [Option.toList_some]
    rw [val_snoc, val_eq_upto b xs k (by omega), List.length_take, Nat.min_eq_left (by omega)]
    simp only [upto]
    rw [Nat.mul_comm, List.getD_eq_getElem?_getD, List.getElem?_eq_getElem hk]; rfl
theorem upto_val (b : Nat) (xs : List Nat) : upto b (fun i => xs.getD i 0) xs.length = val b xs := by
  rw [← val_eq_upto b xs xs.length (Nat.le_refl _), List.take_length]
theorem upto_congr (b : Nat) (s t : Nat → Nat) (k : Nat) (h : ∀ i, i < k → s i = t i) : upto b s k = upto b t k := by
  induction k with
  | zero => rfl
  | succ k ih => simp only [upto]; rw [ih (fun i hi => h i (by omega)), h k (by omega)]
theorem upto_add (b : Nat) (s t : Nat → Nat) (k : Nat) : upto b (fun i => s i + t i) k = upto b s k + upto b t k := by
  induction k with
  | zero => rfl
  | succ k ih => simp only [upto]; rw [ih, Nat.add_mul]; omega
theorem upto_mul (b : Nat) (s : Nat → Nat) (c k : Nat) : upto b (fun i => s i * c) k = upto b s k * c := by
  induction k with
  | zero => simp [upto]
  | succ k ih => simp only [upto]; rw [ih, Nat.add_mul, Nat.mul_right_comm]
/-- Places beyond the list's end count nothing. -/
theorem upto_val_ge (b : Nat) (xs : List Nat) (k : Nat) (h : xs.length ≤ k) : upto b (fun i => xs.getD i 0) k = val b xs := by
  induction k with
  | zero => obtain rfl : xs = [] := List.length_eq_zero_iff.1 (by omega)
            rfl
  | succ k ih =>
    by_cases hk : xs.length = k + 1
    · rw [← hk]; exact upto_val b xs
    · simp only [upto]
      rw [ih (by omega), List.getD_eq_getElem?_getD, List.getElem?_eq_none (by omega)]; simp

theorem val_split (b : Nat) (xs : List Nat) (k : Nat) (hk : k < xs.length) : val b xs = val b (xs.take k) + b ^ k * (xs.getD k 0 + b * val b (xs.drop (k + 1))) := by
  have e := val_append b (xs.take k) (xs.drop k)
  rw [List.take_append_drop, List.length_take, Nat.min_eq_left (by omega), List.drop_eq_getElem_cons hk, val_cons] at e
  rw [e]; simp [hk]
theorem val_take_lt {b : Nat} (hb : 1 ≤ b) (xs : List Nat) (h : ∀ x ∈ xs, x < b) (k : Nat) : val b (xs.take k) < b ^ k := by
  rw [val_take hb xs h]; exact Nat.mod_lt _ (Nat.pow_pos (by omega))
/-- The highest place at which two lists part decides. -/
theorem val_lt_top {b : Nat} (hb : 1 ≤ b) (xs ys : List Nat) (hx : ∀ x ∈ xs, x < b) (k : Nat) (h1 : k < xs.length) (h2 : k < ys.length) (hd : xs.drop (k + 1) = ys.drop (k + 1)) (hlt : xs.getD k 0 < ys.getD k 0) : val b xs < val b ys := by
  rw [val_split b xs k h1, val_split b ys k h2, hd]
  have h3 := val_take_lt hb xs hx k
  have h4 : b ^ k * (xs.getD k 0 + 1 + b * val b (ys.drop (k + 1))) ≤ b ^ k * (ys.getD k 0 + b * val b (ys.drop (k + 1))) := Nat.mul_le_mul_left _ (by omega)
  have h5 : b ^ k * (xs.getD k 0 + 1 + b * val b (ys.drop (k + 1))) = b ^ k * (xs.getD k 0 + b * val b (ys.drop (k + 1))) + b ^ k := by rw [Nat.add_right_comm, Nat.mul_add _ _ 1, Nat.mul_one]
  omega
theorem digs_inj {b : Nat} (hb : 2 ≤ b) {m n : Nat} (h : digs b m = digs b n) : m = n := by rw [← val_digs hb m, h, val_digs hb n]
theorem lt_of_digs_length {b : Nat} (hb : 2 ≤ b) {m n : Nat} (h : (digs b m).length < (digs b n).length) : m < n := by
  rcases Nat.lt_or_ge m n with h' | h'
  · exact h'
  · have := digs_length_mono hb h'; omega
theorem drop_getD {xs : List Nat} {k : Nat} (hk : k < xs.length) : xs.drop k = xs.getD k 0 :: xs.drop (k + 1) := by
  rw [List.drop_eq_getElem_cons hk]; simp [hk]
theorem val_take_succ (b : Nat) (xs : List Nat) (k : Nat) : val b (xs.take (k + 1)) = val b (xs.take k) + b ^ k * xs.getD k 0 := by
  by_cases hk : k < xs.length
  · rw [List.take_add_one, List.getElem?_eq_getElem hk]
    simp only [Option.toList_some]
    rw [val_snoc, List.length_take, Nat.min_eq_left (by omega)]; simp [hk]
  · rw [List.take_of_length_le (by omega), List.take_of_length_le (by omega)]
    simp [List.getElem?_eq_none (show xs.length ≤ k by omega)]

theorem val_set (b : Nat) (L : List Nat) (p d : Nat) (hp : p < L.length) : val b (L.set p d) + L.getD p 0 * b ^ p = val b L + d * b ^ p := by
  induction L generalizing p with
  | nil => simp at hp
  | cons x L ih =>
    cases p with
    | zero => simp [val]; omega
    | succ p =>
      have := ih p (by simpa using hp)
      simp only [List.set_cons_succ, val_cons, List.getD_cons_succ, Nat.pow_succ]
      have e : b * (val b (L.set p d) + L.getD p 0 * b ^ p) = b * (val b L + d * b ^ p) := by rw [this]
      simp only [Nat.mul_add] at e
      have e1 : b * (L.getD p 0 * b ^ p) = L.getD p 0 * (b ^ p * b) := by ac_rfl
      have e2 : b * (d * b ^ p) = d * (b ^ p * b) := by ac_rfl
      omega

/-- The limbs of a number, what limbs are worth, and the sum that is laid down. -/
def B9 : Nat := 1000000000
theorem B9_eq : B9 = 1000000000 := rfl
theorem two_le_B9 : 2 ≤ B9 := by decide
def limbs (n : Nat) : List Nat := digs B9 n
def worth (xs : List Nat) : Nat := val B9 xs
def laid (s : Nat → Nat) (k : Nat) : Nat := upto B9 s k
theorem worth_limbs (n : Nat) : worth (limbs n) = n := val_digs two_le_B9 n
theorem limbs_lt (n : Nat) : ∀ x ∈ limbs n, x < 1000000000 := digs_lt two_le_B9 n
theorem ten9 (n : Nat) : 10 ^ n = 10 ^ (n % 9) * B9 ^ (n / 9) := by
  have e : B9 = 10 ^ 9 := rfl
  rw [e, ← Nat.pow_mul, ← Nat.pow_add, Nat.add_comm, Nat.div_add_mod]
theorem limbs_shift {m n : Nat} (hm : m ≠ 0) : limbs (m * 10 ^ n) = List.replicate (n / 9) 0 ++ limbs (m * 10 ^ (n % 9)) := by
  rw [ten9 n, ← Nat.mul_assoc]
  have h0 : m * 10 ^ (n % 9) ≠ 0 := Nat.mul_ne_zero hm (Nat.ne_of_gt (Nat.pow_pos (by decide)))
  exact digs_mul_pow two_le_B9 h0 _
theorem trim_limbs (xs : List Nat) (h : ∀ x ∈ xs, x < 1000000000) : trim xs = limbs (worth xs) := trim_eq two_le_B9 xs h

end Go.Proofs.YtafeofgjmlhklaaGreatDoor.Num
