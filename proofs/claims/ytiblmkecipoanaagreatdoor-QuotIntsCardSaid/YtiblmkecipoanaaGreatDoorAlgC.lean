/- Plain laws of chapter 03: Floor, Ceil and their like against the number; a rest against the divisor; a quotient times its divisor. -/
import Derived.Test.YtiblmkecipoanaaGreatDoorMi
import Derived.Test.YtiblmkecipoanaaGreatDoorMe
namespace Go.Proofs.YtiblmkecipoanaaGreatDoor
open Go.RowKit

theorem frac_pos {x : D} (px : IsPlain x) (h : x.e < 0) : x.m ≠ 0 ∧ 0 < offN x := by
  have h0 : x.m ≠ 0 := fun h1 => by
    have h2 := px.1 h1
    rw [h2] at h
    simp [zeroD] at h
  refine ⟨h0, ?_⟩
  unfold offN
  rw [if_neg (by omega)]
  obtain ⟨k, hk⟩ : ∃ k, (-x.e).toNat = k + 1 := ⟨(-x.e).toNat - 1, by omega⟩
  rw [hk]
  refine Nat.pos_of_ne_zero fun h1 => ?_
  have h2 : 10 ∣ x.m := Nat.dvd_trans ⟨10 ^ k, by rw [Nat.pow_succ, Nat.mul_comm]⟩ (Nat.dvd_of_mod_eq_zero h1)
  obtain ⟨q, hq⟩ := h2
  have h3 := px.2
  rw [hq, tz_ten (by omega)] at h3
  omega

theorem frac_wo {x : D} (px : IsPlain x) (hx : -100000 ≤ x.e) (h : x.e < 0) : wholeN x * 10 ^ upE 0 < x.m * 10 ^ upE x.e ∧ x.m * 10 ^ upE x.e < (wholeN x + 1) * 10 ^ upE 0 := by
  obtain ⟨_, h1⟩ := frac_pos px h
  unfold offN at h1
  rw [if_neg (by omega)] at h1
  unfold wholeN
  rw [if_neg (by omega)]
  obtain ⟨k, hk⟩ : ∃ k, (-x.e).toNat = k := ⟨_, rfl⟩
  rw [hk] at h1 ⊢
  have h2 : upE 0 = upE x.e + k := by
    have h3 := upE_add hx k
    rw [← h3]
    congr 1
    omega
  rw [h2]
  obtain ⟨u, hu⟩ : ∃ u, u = upE x.e := ⟨_, rfl⟩
  rw [← hu, Nat.pow_add]
  have h3 := Nat.div_add_mod x.m (10 ^ k)
  have h4 := Nat.mod_lt x.m (pow_pos10 k)
  have hp := pow_pos10 u
  clear hu h2 hk
  generalize 10 ^ k = P at *
  generalize 10 ^ u = U at *
  generalize x.m / P = q at *
  generalize x.m % P = r at *
  rw [← h3]
  have e1 : q * (U * P) = P * q * U := by rw [Nat.mul_comm U P, ← Nat.mul_assoc, Nat.mul_comm q P]
  have e2 : (q + 1) * (U * P) = (P * q + P) * U := by rw [Nat.mul_comm U P, ← Nat.mul_assoc, Nat.add_mul, Nat.one_mul, Nat.mul_comm q P]
  rw [e1, e2]
  exact ⟨Nat.mul_lt_mul_of_pos_right (by omega) hp, Nat.mul_lt_mul_of_pos_right (by omega) hp⟩

theorem round_e {x : D} (h : 0 ≤ x.e) (way : Nat) : roundR 0 x way = (x, 0) := if_pos (Or.inr h)
theorem round_f {x : D} (h : x.e < 0) (way : Nat) : roundR 0 x way = tellR (plainD x.neg (wholeN x + (if upB x way = true then 1 else 0)) 0) := if_neg (by rintro (h1 | h1); exact h1 rfl; omega)
theorem round_bad {er : Nat} (h : er ≠ 0) (x : D) (way : Nat) : roundR er x way = (x, er) := if_pos (Or.inl h)
theorem round_good {x : D} (gx : IsPlain x ∧ fitsB x = true) (er way : Nat) : IsPlain (roundR er x way).1 ∧ fitsB (roundR er x way).1 = true := by
  by_cases h : er ≠ 0 ∨ 0 ≤ x.e
  · unfold roundR
    rw [if_pos h]
    exact gx
  · unfold roundR
    rw [if_neg h]
    exact tell_good (plainD_plain _ _ _)
theorem tell_err (d : D) : (tellR d).2 = 0 ∨ (tellR d).2 = 3 := by
  unfold tellR
  split
  · exact Or.inl rfl
  · exact Or.inr rfl
theorem round_err (x : D) (way : Nat) : (roundR 0 x way).2 = 0 ∨ (roundR 0 x way).2 = 3 := by
  by_cases h : 0 ≤ x.e
  · rw [round_e h]; exact Or.inl rfl
  · rw [round_f (by omega)]; exact tell_err _
theorem cmp_less {x y : D} (hx : -100000 ≤ x.e) (hy : -100000 ≤ y.e) (h : wo x < wo y) : cmpR x y = -1 := by
  rw [cmpR_worth hx hy]
  exact if_pos h
theorem neg_plainD (g : Bool) (n : Nat) (e : Int) : negD (plainD g n e) = plainD (!g) n e := by
  by_cases h : n = 0
  · subst h
    rw [plainD_zero, plainD_zero]
    rfl
  · have h1 := (tz_split h).2.2
    unfold plainD negD
    rw [if_neg h, if_neg h, if_neg h1]

theorem wo_whole (g : Bool) (n : Nat) : wo (plainD g n 0) = sgn g * ((n * 10 ^ upE 0 : Nat) : Int) := wo_plain g n 0 (by omega)
theorem e_whole (g : Bool) (n : Nat) : 0 ≤ (plainD g n 0).e := plainD_e g n 0 0 (by omega) (by omega)
theorem add_whole {a : D} {n k : Nat} {g g2 g3 : Bool} {r : D × Nat} {v : Nat} (ha : a = plainD g n 0) (hr : r = addR a (plainD g2 k 0)) (h0 : r.2 = 0) (hv : sgn g * (n : Int) + sgn g2 * (k : Int) = sgn g3 * (v : Int)) : r.1 = plainD g3 v 0 := by
  subst ha
  have h1 : r.1 = sumD (plainD g n 0) (plainD g2 k 0) := by
    rw [hr] at h0 ⊢
    exact tell_zero h0
  have e1 := e_whole g n
  have e2 := e_whole g2 k
  have e3 := e_whole g3 v
  rw [h1]
  refine wo_inj (sumD_plain _ _) (plainD_plain _ _ _) (sumD_e _ _ (-100000) (by omega) (by omega) (by omega)) (by omega) ?_
  rw [wo_sum _ _ (by omega) (by omega), wo_whole, wo_whole, wo_whole]
  generalize 10 ^ upE 0 = T
  rw [Int.natCast_mul, Int.natCast_mul, Int.natCast_mul, ← Int.mul_assoc, ← Int.mul_assoc, ← Int.mul_assoc, ← Int.add_mul, hv]

theorem rest_true {x : D} (px : IsPlain x) (h : x.e < 0) : restB x = true := decide_eq_true (frac_pos px h).2

theorem floor_val {x : D} (px : IsPlain x) (h : x.e < 0) {r : D × Nat} (e1 : r = roundR 0 x 1) (z : r.2 = 0) : r.1 = plainD x.neg (wholeN x + (if x.neg = true then 1 else 0)) 0 := by
  have rt := rest_true px h
  rw [round_f h] at e1
  rw [e1] at z ⊢
  rw [tell_zero z]
  simp [upB, rt]
theorem ceil_val {x : D} (px : IsPlain x) (h : x.e < 0) {r : D × Nat} (e1 : r = roundR 0 x 2) (z : r.2 = 0) : r.1 = plainD x.neg (wholeN x + (if x.neg = true then 0 else 1)) 0 := by
  have rt := rest_true px h
  rw [round_f h] at e1
  rw [e1] at z ⊢
  rw [tell_zero z]
  cases hn : x.neg <;> simp [upB, rt, hn]
theorem trunc_val {x : D} (h : x.e < 0) {r : D × Nat} (e1 : r = roundR 0 x 0) (z : r.2 = 0) : r.1 = plainD x.neg (wholeN x) 0 := by
  rw [round_f h] at e1
  rw [e1] at z ⊢
  rw [tell_zero z]
  simp [upB]
theorem near_val {x : D} (h : x.e < 0) {r : D × Nat} (e1 : r = roundR 0 x 3) (z : r.2 = 0) : r.1 = plainD x.neg (wholeN x) 0 ∨ r.1 = plainD x.neg (wholeN x + 1) 0 := by
  rw [round_f h] at e1
  rw [e1] at z ⊢
  rw [tell_zero z]
  cases upB x 3
  · exact Or.inl rfl
  · exact Or.inr rfl

structure Between (x lo hi cut near : D) : Prop where
  cut : cut = lo ∨ cut = hi
  near : near = lo ∨ near = hi
  lo0 : 0 ≤ lo.e
  hi0 : 0 ≤ hi.e
  less1 : cmpR lo x = -1
  less2 : cmpR x hi = -1
  next : ∀ nx : D × Nat, nx = addR lo (plainD false 1 0) → nx.2 = 0 → nx.1 = hi
  back : ∀ bk : D × Nat, bk = roundR 0 (negD x) 1 → bk.2 = 0 → bk.1 = negD hi

theorem between_facts {x : D} (gx : IsPlain x ∧ fitsB x = true) (h : x.e < 0) {lo hi cut near : D × Nat} (e1 : lo = roundR 0 x 1) (e2 : hi = roundR 0 x 2) (e0 : cut = roundR 0 x 0) (e3 : near = roundR 0 x 3)
    (z1 : lo.2 = 0) (z2 : hi.2 = 0) (z0 : cut.2 = 0) (z3 : near.2 = 0) : Between x lo.1 hi.1 cut.1 near.1 := by
  have hx := lowE gx
  have px := gx.1
  obtain ⟨w1, w2⟩ := frac_wo px (by omega) h
  have m0 := (frac_pos px h).1
  have v1 := floor_val px h e1 z1
  have v2 := ceil_val px h e2 z2
  have v0 := trunc_val h e0 z0
  have v3 := near_val h e3 z3
  have wx : wo x = sgn x.neg * ((x.m * 10 ^ upE x.e : Nat) : Int) := rfl
  have hb : ∀ bk : D × Nat, bk = roundR 0 (negD x) 1 → bk.2 = 0 → bk.1 = plainD (!x.neg) (wholeN x + (if (!x.neg) = true then 1 else 0)) 0 := fun bk hbk hz => by
    have hn : negD x = ⟨!x.neg, x.m, x.e⟩ := if_neg m0
    have := floor_val (neg_plain px) (by rw [neg_e]; exact h) hbk hz
    rw [this, hn]
    rfl
  obtain ⟨n, hn⟩ : ∃ n, n = wholeN x := ⟨_, rfl⟩
  rw [← hn] at w1 w2 v1 v2 v0 v3 hb
  generalize lo.1 = lo' at *
  generalize hi.1 = hi' at *
  generalize cut.1 = cut' at *
  generalize near.1 = near' at *
  obtain ⟨T, hT⟩ : ∃ T, T = 10 ^ upE 0 := ⟨_, rfl⟩
  obtain ⟨X, hX⟩ : ∃ X, X = x.m * 10 ^ upE x.e := ⟨_, rfl⟩
  rw [← hT, ← hX] at w1 w2
  rw [← hX] at wx
  have q1 := e_whole x.neg n
  have q2 := e_whole x.neg (n + 1)
  cases hg : x.neg with
  | false =>
    rw [hg] at v1 v2 v0 v3 hb wx q1 q2
    simp only [Bool.false_eq_true, if_false, if_true, Nat.add_zero, Bool.not_false] at v1 v2 hb
    rw [show sgn false = 1 from rfl, Int.one_mul] at wx
    have u1 := wo_whole false n
    have u2 := wo_whole false (n + 1)
    rw [← hT, show sgn false = 1 from rfl, Int.one_mul] at u1 u2
    rw [← v1] at u1 q1
    rw [← v2] at u2 q2
    refine ⟨Or.inl (by rw [v0, v1]), ?_, q1, q2, cmp_less (by omega) (by omega) (by omega), cmp_less (by omega) (by omega) (by omega), ?_, ?_⟩
    · rw [v1, v2]; exact v3
    · intro nx e z
      rw [v2]
      exact add_whole v1 e z (by show 1 * _ + 1 * _ = (1 : Int) * _; omega)
    · intro bk e z
      rw [hb bk e z, v2, neg_plainD]
      rfl
  | true =>
    rw [hg] at v1 v2 v0 v3 hb wx q1 q2
    simp only [Bool.false_eq_true, if_false, if_true, Nat.add_zero, Bool.not_true] at v1 v2 hb
    rw [show sgn true = -1 from rfl] at wx
    have u1 := wo_whole true n
    have u2 := wo_whole true (n + 1)
    rw [← hT, show sgn true = -1 from rfl] at u1 u2
    rw [← v2] at u1 q1
    rw [← v1] at u2 q2
    refine ⟨Or.inr (by rw [v0, v2]), ?_, q2, q1, cmp_less (by omega) (by omega) (by omega), cmp_less (by omega) (by omega) (by omega), ?_, ?_⟩
    · rw [v1, v2]; exact v3.symm
    · intro nx e z
      rw [v2]
      exact add_whole v1 e z (by show -1 * _ + 1 * _ = (-1 : Int) * _; omega)
    · intro bk e z
      rw [hb bk e z, v2, neg_plainD]
      rfl

/- Less. -/
theorem fits_whole {g : Bool} {n : Nat} (h : (Num.digs 10 n).length ≤ 400) : fitsB (plainD g n 0) = true := by
  by_cases h0 : n = 0
  · subst h0
    rw [plainD_zero]
    rfl
  · obtain ⟨h1, _, h3⟩ := tz_split h0
    have h4 := Num.digs_length_mul_pow (b := 10) (by decide) h3 (tz n)
    rw [h1] at h4
    unfold plainD fitsB
    rw [if_neg h0]
    simp only [Bool.or_eq_true, Bool.and_eq_true, decide_eq_true_eq]
    right
    omega
theorem whole_self {x : D} (px : IsPlain x) (h : 0 ≤ x.e) : plainD x.neg (wholeN x) 0 = x := by
  have h1 := plainD_mul px x.e.toNat
  rw [show x.e - (x.e.toNat : Nat) = 0 by omega] at h1
  unfold wholeN
  rw [if_pos h, h1]
theorem trunc_fits {x : D} (gx : IsPlain x ∧ fitsB x = true) (hl : longB x = false) : roundR 0 x 0 = (plainD x.neg (wholeN x) 0, 0) := by
  by_cases h : 0 ≤ x.e
  · rw [round_e h, whole_self gx.1 h]
  · rw [round_f (by omega)]
    have h1 := fits_whole (g := x.neg) (whole_len (plain_bounds gx.1 gx.2).1 hl)
    rw [show upB x 0 = false from rfl]
    exact tell_yes h1
theorem whole_whole (g : Bool) (n : Nat) : wholeN (plainD g n 0) = n := by
  have h0 := e_whole g n
  unfold wholeN
  rw [if_pos h0]
  by_cases h : n = 0
  · subst h
    rw [plainD_zero]
    rfl
  · have h1 := (tz_split h).1
    unfold plainD
    rw [if_neg h]
    show n / 10 ^ tz n * 10 ^ ((0 : Int) + (tz n : Nat)).toNat = n
    rw [show ((0 : Int) + (tz n : Nat)).toNat = tz n by omega]
    exact h1
theorem long_whole {g : Bool} {n : Nat} (h : (Num.digs 10 n).length ≤ 400) : longB (plainD g n 0) = false := by
  by_cases h0 : n = 0
  · subst h0
    rw [plainD_zero]
    rfl
  · obtain ⟨h1, _, h3⟩ := tz_split h0
    have h4 := Num.digs_length_mul_pow (b := 10) (by decide) h3 (tz n)
    rw [h1] at h4
    unfold plainD longB
    rw [if_neg h0]
    simp only [Bool.and_eq_false_iff, decide_eq_false_iff_not]
    right
    omega
theorem abs_whole (g : Bool) (n : Nat) : absD (plainD g n 0) = plainD false n 0 := by
  unfold plainD
  split <;> rfl
theorem abs_good {d : D} (h : IsPlain d ∧ fitsB d = true) : IsPlain (absD d) ∧ fitsB (absD d) = true := by
  refine ⟨⟨fun h0 => ?_, h.1.2⟩, h.2⟩
  have := h.1.1 h0
  rw [this]
  rfl
theorem rem_good {er : Nat} {x y : D} : IsPlain (remR er x y).1 ∧ fitsB (remR er x y).1 = true := by
  unfold remR
  split
  · exact ⟨plain_zero, rfl⟩
  · split
    · exact ⟨plain_zero, rfl⟩
    · split
      · exact ⟨plain_zero, rfl⟩
      · exact tell_good (plainD_plain _ _ _)
theorem rem_bad {er : Nat} {x y : D} (h : (remR er x y).2 ≠ 0) : (remR er x y).1 = zeroD := by
  unfold remR at h ⊢
  split at h
  · rename_i h0
    rw [if_pos h0]
  · rename_i h0
    rw [if_neg h0]
    split at h
    · rename_i h1
      rw [if_pos h1]
    · rename_i h1
      rw [if_neg h1]
      split at h
      · rename_i h2
        rw [if_pos h2]
      · rename_i h2
        rw [if_neg h2]
        unfold tellR at h ⊢
        split at h
        · exact absurd rfl h
        · rename_i h3
          rw [if_neg h3]
theorem rem_le {er : Nat} {x y : D} (h : er ≤ 4) : (remR er x y).2 ≤ 4 := by
  unfold remR
  split
  · exact h
  · split
    · show 3 ≤ 4; omega
    · split
      · exact Nat.le_refl 4
      · have := tell_le (plainD x.neg (wholeN x % wholeN y) 0)
        omega

structure Less (x y r : D) : Prop where
  whole : 0 ≤ r.e
  less : cmpR (absD r) (absD (roundR 0 y 0).1) = -1
  sign : r.m = 0 ∨ r.neg = (roundR 0 x 0).1.neg
  left : ∀ q : D × Nat, q = addR (roundR 0 x 0).1 (negD r) → q.2 = 0 → (remR 0 q.1 y).2 = 0 ∧ (remR 0 q.1 y).1.m = 0

theorem less_facts {er : Nat} {x y : D} (gx : IsPlain x ∧ fitsB x = true) (gy : IsPlain y ∧ fitsB y = true) {r : D × Nat} (e : r = remR er x y) (z : r.2 = 0) : er = 0 ∧ Less x y r.1 := by
  subst e
  have he : er = 0 := by
    refine Classical.byContradiction fun h => ?_
    unfold remR at z
    rw [if_pos h] at z
    exact h z
  refine ⟨he, ?_⟩
  subst he
  have hlong : ¬ (longB x = true ∨ longB y = true) := fun h => by
    unfold remR at z
    rw [if_neg (by omega), if_pos h] at z
    exact absurd z (by decide)
  have hm : wholeN y ≠ 0 := fun h => by
    unfold remR at z
    rw [if_neg (by omega), if_neg hlong, if_pos h] at z
    exact absurd z (by decide)
  have hr : remR 0 x y = tellR (plainD x.neg (wholeN x % wholeN y) 0) := by
    unfold remR
    rw [if_neg (by omega), if_neg hlong, if_neg hm]
  have lx : longB x = false := by
    cases h : longB x
    · rfl
    · exact absurd (Or.inl h) hlong
  have ly : longB y = false := by
    cases h : longB y
    · rfl
    · exact absurd (Or.inr h) hlong
  have nx := whole_len (plain_bounds gx.1 gx.2).1 lx
  have v : (remR 0 x y).1 = plainD x.neg (wholeN x % wholeN y) 0 := by
    rw [hr] at z ⊢
    exact tell_zero z
  rw [v]
  have tx := trunc_fits gx lx
  have ty := trunc_fits gy ly
  obtain ⟨a, ha⟩ : ∃ a, a = wholeN x := ⟨_, rfl⟩
  obtain ⟨b, hb⟩ : ∃ b, b = wholeN y := ⟨_, rfl⟩
  rw [← ha] at tx nx
  rw [← hb] at ty
  rw [← ha, ← hb]
  have hlt := Nat.mod_lt a (show 0 < b by omega)
  have hle := Nat.mod_le a b
  refine ⟨e_whole _ _, ?_, ?_, ?_⟩
  · rw [ty, abs_whole, abs_whole]
    have e1 := e_whole false (a % b)
    have e2 := e_whole false b
    refine cmp_less (by omega) (by omega) ?_
    rw [wo_whole, wo_whole, show sgn false = 1 from rfl, Int.one_mul, Int.one_mul]
    have h3 := Nat.mul_lt_mul_of_pos_right hlt (pow_pos10 (upE 0))
    generalize 10 ^ upE 0 = T at *
    exact_mod_cast h3
  · rw [tx]
    by_cases h0 : a % b = 0
    · left
      rw [h0, plainD_zero]
      rfl
    · right
      have h1 : a ≠ 0 := fun h => h0 (by rw [h, Nat.zero_mod])
      unfold plainD
      rw [if_neg h0, if_neg h1]
  · intro q hq hz
    rw [tx, neg_plainD] at hq
    have hv : q.1 = plainD x.neg (a - a % b) 0 := add_whole rfl hq hz (by
      cases x.neg
      · show (1 : Int) * _ + -1 * _ = 1 * _
        omega
      · show (-1 : Int) * _ + 1 * _ = -1 * _
        omega)
    rw [hv]
    have n2 := Nat.le_trans (Num.digs_length_mono (b := 10) (by decide) (Nat.sub_le a (a % b))) nx
    have l2 := long_whole (g := x.neg) n2
    unfold remR
    rw [if_neg (by omega), if_neg (by rw [l2, ly]; simp), if_neg hm, whole_whole, ← hb]
    have h3 : (a - a % b) % b = 0 := by
      have h4 := Nat.div_add_mod a b
      rw [show a - a % b = b * (a / b) by omega, Nat.mul_mod_right]
    rw [h3, plainD_zero]
    exact ⟨rfl, rfl⟩

/- Off. -/
theorem near_off {H P : Nat} (hP : 0 < P) : 2 * (nearN H P * P - H) ≤ P ∧ 2 * (H - nearN H P * P) ≤ P := by
  have h1 := Nat.div_add_mod H P
  have h2 := Nat.mod_lt H hP
  unfold nearN
  rw [Nat.mul_comm P] at h1
  generalize H / P = q at *
  generalize H % P = r at *
  split
  · rw [Nat.add_mul, Nat.one_mul]
    generalize q * P = s at *
    omega
  · generalize q * P = s at *
    omega
theorem div_good {er : Nat} {x y : D} : IsPlain (divR er x y).1 ∧ fitsB (divR er x y).1 = true := by
  unfold divR
  split
  · exact ⟨plain_zero, rfl⟩
  · split
    · exact ⟨plain_zero, rfl⟩
    · split
      · exact ⟨plain_zero, rfl⟩
      · exact tell_good (plainD_plain _ _ _)
theorem div_le {er : Nat} {x y : D} (h : er ≤ 4) : (divR er x y).2 ≤ 4 := by
  unfold divR
  split
  · exact h
  · split
    · exact Nat.le_refl 4
    · split
      · exact Nat.zero_le 4
      · have := tell_le (quotR x y)
        omega

theorem off_nat {z T N Q Y V X U K k E F H P C : Nat} (hT : 0 < T) (hK : 0 < K) (hU : 0 < U) (hX : 0 < X) (hC : 0 < C) (hE : 0 < E) (h1 : z * T = N * Q * (Y * V)) (h2 : Q * V * E = U * T * F) (h3 : k * T = X * U * K) (h4 : K * C = T)
    (hH : H = X * E) (hP : P = Y * F) (h5 : C * P ≤ H) (o1 : 2 * (N * P - H) ≤ P) (o2 : 2 * (H - N * P) ≤ P) : X * U - z < k ∧ z - X * U < k := by
  have hk : k * C = X * U := by
    refine Nat.eq_of_mul_eq_mul_right hK ?_
    rw [← h3, ← h4]
    ac_rfl
  have hz : z * E = N * P * U := by
    refine Nat.eq_of_mul_eq_mul_right hT ?_
    calc z * E * T = z * T * E := by ac_rfl
      _ = N * Q * (Y * V) * E := by rw [h1]
      _ = N * Y * (Q * V * E) := by ac_rfl
      _ = N * Y * (U * T * F) := by rw [h2]
      _ = N * P * U * T := by rw [hP]; ac_rfl
  have hA : X * U * E = H * U := by
    rw [hH]
    ac_rfl
  have key : ∀ a b : Nat, 2 * a ≤ P → b * E = a * U → 2 * b ≤ k := fun a b ha hb => by
    have hCE : 0 < C * E := Nat.mul_pos hC hE
    refine Nat.le_of_mul_le_mul_right ?_ hCE
    calc 2 * b * (C * E) = C * (2 * (b * E)) := by ac_rfl
      _ = C * (2 * a) * U := by rw [hb]; ac_rfl
      _ ≤ C * P * U := Nat.mul_le_mul_right _ (Nat.mul_le_mul_left _ ha)
      _ ≤ H * U := Nat.mul_le_mul_right _ h5
      _ = k * (C * E) := by rw [← hA, ← hk]; ac_rfl
  have e1 : (X * U - z) * E = (H - N * P) * U := by rw [Nat.sub_mul, hA, hz, ← Nat.sub_mul]
  have e2 : (z - X * U) * E = (N * P - H) * U := by rw [Nat.sub_mul, hA, hz, ← Nat.sub_mul]
  have k1 := key _ _ o2 e1
  have k2 := key _ _ o1 e2
  have k0 : 0 < k := by
    refine Nat.pos_of_ne_zero fun h => ?_
    rw [h, Nat.zero_mul] at hk
    have := Nat.mul_pos hX hU
    omega
  omega

theorem wo_abs (d : D) : wo (absD d) = ((wo d).natAbs : Int) := by
  show sgn false * _ = _
  rw [show sgn false = 1 from rfl, Int.one_mul]
  unfold wo
  rw [Int.natAbs_mul, Int.natAbs_natCast, show (sgn d.neg).natAbs = 1 by cases d.neg <;> rfl, Nat.one_mul]
  rfl

theorem off_facts {er : Nat} {x y : D} (gx : IsPlain x ∧ fitsB x = true) (gy : IsPlain y ∧ fitsB y = true) {q p d k : D × Nat} (eq : q = divR er x y) (zq : q.2 = 0) (ep : p = mulR q.1 y) (zp : p.2 = 0)
    (ed : d = addR x (negD p.1)) (zd : d.2 = 0) (ek : k = mulR (absD x) (plainD false 1 (-33))) (zk : k.2 = 0) : (absD d.1).m = 0 ∨ cmpR (absD d.1) k.1 = -1 := by
  have he : er = 0 := by
    refine Classical.byContradiction fun h => ?_
    rw [eq] at zq
    unfold divR at zq
    rw [if_pos h] at zq
    exact h zq
  subst he
  have gq : IsPlain q.1 ∧ fitsB q.1 = true := by rw [eq]; exact div_good
  have gp : IsPlain p.1 ∧ fitsB p.1 = true := by rw [ep]; exact tell_good (prod_plain _ _)
  have gd : IsPlain d.1 ∧ fitsB d.1 = true := by rw [ed]; exact tell_good (sumD_plain _ _)
  have gk : IsPlain k.1 ∧ fitsB k.1 = true := by rw [ek]; exact tell_good (prod_plain _ _)
  have vp : p.1 = prodD q.1 y := by rw [ep] at zp ⊢; exact tell_zero zp
  have vd : d.1 = sumD x (negD p.1) := by rw [ed] at zd ⊢; exact tell_zero zd
  have vk : k.1 = prodD (absD x) (plainD false 1 (-33)) := by rw [ek] at zk ⊢; exact tell_zero zk
  have lx := lowE gx
  have ly := lowE gy
  have lq := lowE gq
  have lp := lowE gp
  have ld := lowE gd
  have lk := lowE gk
  have wd : wo d.1 = wo x - wo p.1 := by
    rw [vd, wo_sum _ _ (by omega) (by rw [neg_e]; omega), wo_neg]
    omega
  by_cases h0 : (absD d.1).m = 0
  · exact Or.inl h0
  right
  have y0 : y.m ≠ 0 := fun h => by
    rw [eq] at zq
    unfold divR at zq
    rw [if_neg (by omega), if_pos h] at zq
    exact absurd zq (by decide)
  have x0 : x.m ≠ 0 := fun h => by
    have e1 : q.1 = zeroD := by
      rw [eq]
      unfold divR
      rw [if_neg (by omega), if_neg y0, if_pos h]
    have e2 : p.1 = zeroD := by
      rw [vp, e1]
      unfold prodD
      rw [show zeroD.m = 0 from rfl, Nat.zero_mul, plainD_zero]
    have e3 : wo d.1 = 0 := by
      rw [wd, e2, (wo_zero_iff x).2 h, (wo_zero_iff zeroD).2 rfl]
      rfl
    exact h0 ((wo_zero_iff d.1).1 e3)
  have vq : q.1 = quotR x y := by
    rw [eq] at zq ⊢
    unfold divR at zq ⊢
    rw [if_neg (by omega), if_neg y0, if_neg x0] at zq ⊢
    exact tell_zero zq
  obtain ⟨b1, b2, b3, b4⟩ := quot_bounds x0 y0 (plain_bounds gx.1 gx.2).1 (plain_bounds gy.1 gy.2).1
  have p34 := prog34 x0 y0
  have bY := (plain_bounds gy.1 gy.2).2.2
  refine cmp_less (by show -100000 ≤ d.1.e; omega) (by omega) ?_
  have wq : wo q.1 = sgn (x.neg != y.neg) * ((nearN (x.m * 10 ^ upQ x.m y.m) (y.m * 10 ^ dropQ x.m y.m) * 10 ^ upE (x.e - y.e - upQ x.m y.m + dropQ x.m y.m) : Nat) : Int) := by
    rw [vq]
    exact wo_plain _ _ _ (by omega)
  have wp : wo p.1 * ((10 ^ topE : Nat) : Int) = wo q.1 * wo y := by
    rw [vp]
    exact wo_prod _ _ (by omega) (by omega)
  have wk : wo k.1 * ((10 ^ topE : Nat) : Int) = wo (absD x) * wo (plainD false 1 (-33)) := by
    rw [vk]
    exact wo_prod _ _ (by show -50000 ≤ x.e; omega) (plainD_e _ _ _ _ (by omega) (by omega))
  have w1 : wo (plainD false 1 (-33)) = ((10 ^ upE (-33) : Nat) : Int) := by
    rw [wo_plain _ _ _ (by omega), Nat.one_mul, show sgn false = 1 from rfl, Int.one_mul]
  have wax : wo (absD x) = ((x.m * 10 ^ upE x.e : Nat) : Int) := by
    show sgn false * _ = _
    rw [show sgn false = 1 from rfl, Int.one_mul]
    rfl
  have wx : wo x = sgn x.neg * ((x.m * 10 ^ upE x.e : Nat) : Int) := rfl
  have wy : wo y = sgn y.neg * ((y.m * 10 ^ upE y.e : Nat) : Int) := rfl
  have hexp : 10 ^ upE (x.e - y.e - upQ x.m y.m + dropQ x.m y.m) * 10 ^ upE y.e * 10 ^ upQ x.m y.m = 10 ^ upE x.e * 10 ^ topE * 10 ^ dropQ x.m y.m := by
    rw [← Nat.pow_add, ← Nat.pow_add, ← Nat.pow_add, ← Nat.pow_add]
    congr 1
    unfold upE topE
    omega
  have h33 : 10 ^ upE (-33) * 10 ^ 33 = 10 ^ topE := by
    rw [← Nat.pow_add, show upE (-33) + 33 = topE from rfl]
  have hoff := near_off (H := x.m * 10 ^ upQ x.m y.m) (P := y.m * 10 ^ dropQ x.m y.m) (Nat.mul_pos (Nat.pos_of_ne_zero y0) (pow_pos10 _))
  rw [wo_abs, wd]
  rw [wax, w1] at wk
  rw [wq, wy, sgn_mul] at wp
  have pT := pow_pos10 topE
  have pK := pow_pos10 (upE (-33))
  have pU := pow_pos10 (upE x.e)
  have pE := pow_pos10 (upQ x.m y.m)
  have i34 := p34.1
  have pC : 0 < 10 ^ 33 := pow_pos10 33
  have hX := Nat.pos_of_ne_zero x0
  clear p34 gx gy gq gp gd gk vp vd vk vq lx ly lq lp ld lk wd h0 zq zp zd zk eq ep ed ek wq wax w1 wy b1 b2 b3 b4 bY y0 x0
  generalize 10 ^ topE = T at *
  generalize 10 ^ upE (-33) = K at *
  generalize 10 ^ upE x.e = U at *
  generalize 10 ^ upE y.e = V at *
  generalize 10 ^ upE (x.e - y.e - upQ x.m y.m + dropQ x.m y.m) = Q at *
  generalize hN : nearN (x.m * 10 ^ upQ x.m y.m) (y.m * 10 ^ dropQ x.m y.m) = N at *
  generalize 10 ^ upQ x.m y.m = E at *
  generalize 10 ^ dropQ x.m y.m = F at *
  generalize 10 ^ 33 = C at *
  generalize wo k.1 = kk at *
  generalize wo p.1 = Z at *
  generalize x.m = X at *
  generalize y.m = Y at *
  clear hN
  obtain ⟨s, hs⟩ : ∃ s, s = sgn x.neg := ⟨_, rfl⟩
  obtain ⟨t, ht⟩ : ∃ t, t = sgn y.neg := ⟨_, rfl⟩
  have hs1 := sgn_cases x.neg
  have ht1 := sgn_cases y.neg
  rw [← hs] at hs1 wx wp
  rw [← ht] at ht1 wp
  rw [wx]
  have hkk : 0 ≤ kk := by
    refine Int.le_of_mul_le_mul_right (a := (T : Int)) ?_ (by omega)
    rw [Int.zero_mul, wk, ← Int.natCast_mul]
    omega
  obtain ⟨k', rfl⟩ := Int.eq_ofNat_of_zero_le hkk
  have wk' : k' * T = X * U * K := by exact_mod_cast wk
  have hz0 : s * Z * (T : Int) = ((N * Q * (Y * V) : Nat) : Int) := by
    have e1 : s * Z * (T : Int) = s * (Z * T) := Int.mul_assoc _ _ _
    rw [e1, wp]
    have ss : s * s = 1 := by rcases hs1 with h | h <;> rw [h] <;> rfl
    have tt : t * t = 1 := by rcases ht1 with h | h <;> rw [h] <;> rfl
    generalize hA : ((N * Q : Nat) : Int) = A
    generalize hB : ((Y * V : Nat) : Int) = B
    rw [Int.natCast_mul, hA, hB]
    calc s * (s * t * A * (t * B)) = (s * s) * (t * t) * (A * B) := by ac_rfl
      _ = A * B := by rw [ss, tt, Int.one_mul, Int.one_mul]
  have hz1 : 0 ≤ s * Z := by
    refine Int.le_of_mul_le_mul_right (a := (T : Int)) ?_ (by omega)
    rw [Int.zero_mul, hz0]
    omega
  obtain ⟨z, hz⟩ := Int.eq_ofNat_of_zero_le hz1
  rw [hz] at hz0
  have hz2 : z * T = N * Q * (Y * V) := by exact_mod_cast hz0
  have fin := off_nat pT pK pU hX pC pE hz2 hexp wk' h33 rfl rfl i34 hoff.1 hoff.2
  generalize X * U = A at *
  rcases hs1 with h | h
  · rw [h] at hz ⊢
    omega
  · rw [h] at hz ⊢
    omega
end Go.Proofs.YtiblmkecipoanaaGreatDoor
