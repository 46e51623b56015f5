/- Plain laws of sums, products and the order of numbers. Nothing is walked here. -/
import Derived.Test.YtmdgciolnpkccaaGreatDoorBackA
import Derived.Test.YtmdgciolnpkccaaGreatDoorDecM
namespace Go.Proofs.YtmdgciolnpkccaaGreatDoor

/-- A power of ten, counted from the least one. -/
def upE (e : Int) : Nat := (e + 100000).toNat
def topE : Nat := 100000
def sgn (g : Bool) : Int := if g = true then -1 else 1
/-- A number's worth, in the least power. -/
def wo (d : D) : Int := sgn d.neg * ((d.m * 10 ^ upE d.e : Nat) : Int)

theorem pow_pos10 (n : Nat) : 0 < 10 ^ n := Nat.pow_pos (by decide)
theorem upE_add {e : Int} (h : -100000 ≤ e) (t : Nat) : upE (e + t) = upE e + t := by unfold upE; omega
theorem sgn_cases (g : Bool) : sgn g = 1 ∨ sgn g = -1 := by cases g <;> simp [sgn]

theorem wo_plain (g : Bool) (m : Nat) (e : Int) (h : -100000 ≤ e) : wo (plainD g m e) = sgn g * ((m * 10 ^ upE e : Nat) : Int) := by
  unfold plainD
  by_cases h0 : m = 0
  · subst h0; simp [wo]
  · rw [if_neg h0]
    obtain ⟨h1, _, _⟩ := tz_split h0
    unfold wo
    simp only
    rw [upE_add h]
    congr 2
    rw [Nat.add_comm, Nat.pow_add, ← Nat.mul_assoc, h1]

theorem wo_zero_iff (d : D) : wo d = 0 ↔ d.m = 0 := by
  unfold wo
  have := pow_pos10 (upE d.e)
  constructor
  · intro h
    rcases sgn_cases d.neg with h1 | h1 <;> rw [h1] at h
    · have h2 : d.m * 10 ^ upE d.e = 0 := by omega
      rcases Nat.mul_eq_zero.1 h2 with h3 | h3
      · exact h3
      · omega
    · have h2 : d.m * 10 ^ upE d.e = 0 := by omega
      rcases Nat.mul_eq_zero.1 h2 with h3 | h3
      · exact h3
      · omega
  · intro h; rw [h]; simp

/-- Two plain numbers of one worth are one. -/
theorem wo_inj {x y : D} (hx : IsPlain x) (hy : IsPlain y) (ex : -100000 ≤ x.e) (ey : -100000 ≤ y.e) (h : wo x = wo y) : x = y := by
  by_cases h0 : x.m = 0
  · have h1 : y.m = 0 := (wo_zero_iff y).1 (h ▸ (wo_zero_iff x).2 h0)
    rw [hx.1 h0, hy.1 h1]
  · have h1 : y.m ≠ 0 := fun e => h0 ((wo_zero_iff x).1 (h.trans ((wo_zero_iff y).2 e)))
    have p1 : 0 < x.m * 10 ^ upE x.e := Nat.mul_pos (by omega) (pow_pos10 _)
    have p2 : 0 < y.m * 10 ^ upE y.e := Nat.mul_pos (by omega) (pow_pos10 _)
    obtain ⟨g, m, e⟩ := x
    obtain ⟨g2, m2, e2⟩ := y
    simp only at *
    have hs : g = g2 ∧ m * 10 ^ upE e = m2 * 10 ^ upE e2 := by
      unfold wo at h
      simp only at h
      generalize m * 10 ^ upE e = A at *
      generalize m2 * 10 ^ upE e2 = B at *
      have s1 : sgn true = -1 := rfl
      have s2 : sgn false = 1 := rfl
      cases g <;> cases g2 <;> simp only [s1, s2] at h <;> first | exact ⟨rfl, by omega⟩ | omega
    obtain ⟨rfl, hm⟩ := hs
    have ht := congrArg tz hm
    have q1 : tz m = 0 := hx.2
    have q2 : tz m2 = 0 := hy.2
    rw [tz_pow h0, tz_pow h1, q1, q2] at ht
    have he : e = e2 := by unfold upE at ht; omega
    subst he
    have := Nat.eq_of_mul_eq_mul_right (pow_pos10 (upE e)) hm
    subst this
    rfl

/-- The sum, plain. -/
def sumD (x y : D) : D :=
  if x.neg = y.neg then plainD x.neg (x.m * 10 ^ (x.e - min x.e y.e).toNat + y.m * 10 ^ (y.e - min x.e y.e).toNat) (min x.e y.e)
  else if x.m * 10 ^ (x.e - min x.e y.e).toNat < y.m * 10 ^ (y.e - min x.e y.e).toNat then plainD y.neg (y.m * 10 ^ (y.e - min x.e y.e).toNat - x.m * 10 ^ (x.e - min x.e y.e).toNat) (min x.e y.e)
  else plainD x.neg (x.m * 10 ^ (x.e - min x.e y.e).toNat - y.m * 10 ^ (y.e - min x.e y.e).toNat) (min x.e y.e)

theorem sumD_plain (x y : D) : IsPlain (sumD x y) := by unfold sumD; split <;> (try split) <;> exact plainD_plain _ _ _

theorem level_worth (m : Nat) (e k : Int) (h : k ≤ e) (hk : -100000 ≤ k) : m * 10 ^ (e - k).toNat * 10 ^ upE k = m * 10 ^ upE e := by
  rw [Nat.mul_assoc, ← Nat.pow_add]
  congr 2
  unfold upE; omega

theorem wo_sum (x y : D) (hx : -100000 ≤ x.e) (hy : -100000 ≤ y.e) : wo (sumD x y) = wo x + wo y := by
  obtain ⟨k, hk⟩ : ∃ k, k = min x.e y.e := ⟨_, rfl⟩
  have hk1 : -100000 ≤ k := by omega
  have l1 := level_worth x.m x.e k (by omega) hk1
  have l2 := level_worth y.m y.e k (by omega) hk1
  unfold sumD
  rw [← hk]
  obtain ⟨X, hX⟩ : ∃ X, X = x.m * 10 ^ (x.e - k).toNat := ⟨_, rfl⟩
  obtain ⟨Y, hY⟩ : ∃ Y, Y = y.m * 10 ^ (y.e - k).toNat := ⟨_, rfl⟩
  rw [← hX] at l1 ⊢
  rw [← hY] at l2 ⊢
  obtain ⟨P, hP⟩ : ∃ P, P = 10 ^ upE k := ⟨_, rfl⟩
  have e1 : wo x = sgn x.neg * ((X * P : Nat) : Int) := by unfold wo; rw [hP, l1]
  have e2 : wo y = sgn y.neg * ((Y * P : Nat) : Int) := by unfold wo; rw [hP, l2]
  rw [e1, e2]
  split
  · rename_i h
    rw [wo_plain _ _ _ hk1, ← hP, Nat.add_mul, h]
    rcases sgn_cases y.neg with h1 | h1 <;> rw [h1] <;> omega
  · rename_i h
    have hs : sgn x.neg = - sgn y.neg := by
      cases h1 : x.neg <;> cases h2 : y.neg <;> simp [h1, h2, sgn] at h ⊢
    split
    · rename_i hlt
      have : X * P ≤ Y * P := Nat.mul_le_mul_right _ (by omega)
      rw [wo_plain _ _ _ hk1, ← hP, Nat.sub_mul, hs]
      rcases sgn_cases y.neg with h1 | h1 <;> rw [h1] <;> omega
    · rename_i hlt
      have : Y * P ≤ X * P := Nat.mul_le_mul_right _ (by omega)
      rw [wo_plain _ _ _ hk1, ← hP, Nat.sub_mul, hs]
      rcases sgn_cases y.neg with h1 | h1 <;> rw [h1] <;> omega

theorem plainD_e (g : Bool) (m : Nat) (e k : Int) (h : k ≤ e) (h0 : k ≤ 0) : k ≤ (plainD g m e).e := by
  unfold plainD; split <;> simp only <;> omega
theorem sumD_e (x y : D) (k : Int) (hx : k ≤ x.e) (hy : k ≤ y.e) (h0 : k ≤ 0) : k ≤ (sumD x y).e := by
  unfold sumD; split <;> (try split) <;> exact plainD_e _ _ _ _ (by omega) h0

theorem sumD_comm (x y : D) (hx : -100000 ≤ x.e) (hy : -100000 ≤ y.e) : sumD x y = sumD y x :=
  wo_inj (sumD_plain _ _) (sumD_plain _ _) (sumD_e _ _ _ hx hy (by decide)) (sumD_e _ _ _ hy hx (by decide)) (by rw [wo_sum x y hx hy, wo_sum y x hy hx]; omega)

theorem sumD_zero_left {x y : D} (hx : -100000 ≤ x.e) (hy : -100000 ≤ y.e) (py : IsPlain y) (h0 : x.m = 0) : sumD x y = y :=
  wo_inj (sumD_plain _ _) py (sumD_e _ _ _ hx hy (by decide)) hy (by rw [wo_sum x y hx hy, (wo_zero_iff x).2 h0]; omega)
theorem sumD_zero_right {x y : D} (hx : -100000 ≤ x.e) (hy : -100000 ≤ y.e) (px : IsPlain x) (h0 : y.m = 0) : sumD x y = x :=
  wo_inj (sumD_plain _ _) px (sumD_e _ _ _ hx hy (by decide)) hx (by rw [wo_sum x y hx hy, (wo_zero_iff y).2 h0]; omega)

/-- What a call tells of a plain number. -/
def tellR (d : D) : D × Nat := if fitsB d = true then (d, 0) else (zeroD, 3)
/-- Sum and product of what may be, and what is told. -/
def addR (x y : D) : D × Nat := tellR (sumD x y)
def prodD (x y : D) : D := plainD (x.neg != y.neg) (x.m * y.m) (x.e + y.e)
def mulR (x y : D) : D × Nat := tellR (prodD x y)

/-- A sum of two that are far apart has too many digits. -/
theorem far_one {x y : D} (hx0 : x.m ≠ 0) (hy0 : y.m ≠ 0) (py : tz y.m = 0) (fy : (Num.digs 10 y.m).length ≤ 400) (hp : y.e + 402 ≤ x.e) : fitsB (sumD x y) = false := by
  obtain ⟨p, hpe⟩ : ∃ p : Nat, x.e = y.e + p ∧ 402 ≤ p := ⟨(x.e - y.e).toNat, by omega, by omega⟩
  have hm : min x.e y.e = y.e := by omega
  have t1 : (x.e - y.e).toNat = p := by omega
  have t2 : (y.e - y.e).toNat = 0 := by omega
  obtain ⟨k, hk⟩ : ∃ k : Nat, k = 400 := ⟨_, rfl⟩
  have hy1 : y.m < 10 ^ k := (Num.digs_length_le (by decide)).1 (by omega)
  have hy2 : y.m % 10 ≠ 0 := fun e => by
    obtain ⟨c, hc⟩ : ∃ c, y.m = 10 * c := ⟨y.m / 10, by omega⟩
    rw [hc] at py hy0
    rw [tz_ten (by omega)] at py
    omega
  obtain ⟨q, hq⟩ : ∃ q, p = k + 2 + q := ⟨p - (k + 2), by omega⟩
  have hX : 100 * 10 ^ k ≤ x.m * 10 ^ p := by
    have h1 : 10 ^ p = 10 ^ k * 100 * 10 ^ q := by rw [hq, Nat.pow_add, Nat.pow_add]
    have h2 := pow_pos10 q
    have h3 : 10 ^ k * 100 * 1 ≤ 10 ^ k * 100 * 10 ^ q := Nat.mul_le_mul_left _ h2
    have h4 : 1 * 10 ^ p ≤ x.m * 10 ^ p := Nat.mul_le_mul_right _ (by omega)
    omega
  have hX10 : (x.m * 10 ^ p) % 10 = 0 := by
    obtain ⟨r, hr⟩ : ∃ r, p = r + 1 := ⟨p - 1, by omega⟩
    rw [hr, Nat.pow_succ, ← Nat.mul_assoc]
    omega
  have key : ∀ (g : Bool) (S : Nat), S % 10 ≠ 0 → 10 ^ k ≤ S → fitsB (plainD g S y.e) = false := by
    intro g S h1 h2
    have h0 : S ≠ 0 := by omega
    have hl : 400 < (Num.digs 10 S).length := by
      have : ¬ (Num.digs 10 S).length ≤ k := fun h => by
        have := (Num.digs_length_le (b := 10) (by decide)).1 h
        omega
      omega
    unfold plainD
    rw [if_neg h0, tz_mod h1]
    unfold fitsB
    simp only [Nat.pow_zero, Nat.div_one, h0, decide_false, Bool.false_or]
    rw [decide_eq_false (by omega)]
    rfl
  have hpk : 0 < 10 ^ k := pow_pos10 k
  unfold sumD
  rw [hm, t1, t2, Nat.pow_zero, Nat.mul_one]
  split
  · exact key _ _ (by omega) (by omega)
  · rw [if_neg (by omega)]
    exact key _ _ (by omega) (by omega)

theorem far_two {x y : D} (hx0 : x.m ≠ 0) (hy0 : y.m ≠ 0) (px : tz x.m = 0) (py : tz y.m = 0) (fx : (Num.digs 10 x.m).length ≤ 400) (fy : (Num.digs 10 y.m).length ≤ 400) (bx : -100000 ≤ x.e) (by' : -100000 ≤ y.e)
    (h : 800 < max (headD x) (headD y) - min x.e y.e) : fitsB (sumD x y) = false := by
  unfold headD at h
  by_cases hle : y.e ≤ x.e
  · exact far_one hx0 hy0 py fy (by omega)
  · rw [sumD_comm x y bx by']
    exact far_one hy0 hx0 px fx (by omega)

theorem tell_ok {d p : D} {k : Nat} (h : tellR d = (p, k)) (h0 : k = 0) : p = d ∧ fitsB d = true := by
  unfold tellR at h
  split at h
  · rename_i hf; injection h with h1 h2; exact ⟨h1.symm, hf⟩
  · injection h with h1 h2; omega

/-- The opposite. -/
theorem wo_neg (d : D) : wo (negD d) = - wo d := by
  unfold negD
  split
  · rename_i h; rw [(wo_zero_iff d).2 h]; rfl
  · unfold wo; simp only; cases d.neg <;> simp [sgn]
theorem neg_plain {d : D} (h : IsPlain d) : IsPlain (negD d) := by
  unfold negD
  split
  · exact h
  · rename_i h0; exact ⟨fun e => absurd e h0, h.2⟩
theorem neg_fits {d : D} (h : fitsB d = true) : fitsB (negD d) = true := by
  unfold negD
  split
  · exact h
  · exact h
theorem neg_e (d : D) : (negD d).e = d.e := by unfold negD; split <;> rfl

/-- The product. -/
theorem sgn_mul (a b : Bool) : sgn (a != b) = sgn a * sgn b := by cases a <;> cases b <;> decide
theorem prod_plain (x y : D) : IsPlain (prodD x y) := plainD_plain _ _ _
theorem wo_prod (x y : D) (hx : -50000 ≤ x.e) (hy : -50000 ≤ y.e) : wo (prodD x y) * ((10 ^ topE : Nat) : Int) = wo x * wo y := by
  unfold prodD
  rw [wo_plain _ _ _ (by omega), sgn_mul]
  unfold wo
  obtain ⟨T, hT⟩ : ∃ T : Nat, T = topE := ⟨_, rfl⟩
  rw [← hT]
  have hT : T = 100000 := hT
  have h1 : upE (x.e + y.e) + T = upE x.e + upE y.e := by unfold upE; omega
  have h2 : 10 ^ upE (x.e + y.e) * 10 ^ T = 10 ^ upE x.e * 10 ^ upE y.e := by rw [← Nat.pow_add, h1, Nat.pow_add]
  have h3 : x.m * y.m * 10 ^ upE (x.e + y.e) * 10 ^ T = (x.m * 10 ^ upE x.e) * (y.m * 10 ^ upE y.e) := by
    rw [Nat.mul_assoc (x.m * y.m), h2, Nat.mul_mul_mul_comm]
  rw [Int.mul_assoc, ← Int.natCast_mul, h3, Int.natCast_mul]
  generalize ((x.m * 10 ^ upE x.e : Nat) : Int) = a
  generalize ((y.m * 10 ^ upE y.e : Nat) : Int) = b
  rw [Int.mul_assoc, Int.mul_assoc, Int.mul_left_comm (sgn y.neg) a b]

theorem prod_comm (x y : D) : prodD x y = prodD y x := by
  unfold prodD
  rw [Nat.mul_comm, Int.add_comm]
  congr 1
  cases x.neg <;> cases y.neg <;> rfl

end Go.Proofs.YtmdgciolnpkccaaGreatDoor
