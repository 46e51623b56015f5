/- Plain laws of numbers that a call took: the order, sums and products in rings. Nothing is walked here. -/
import Derived.Test.YtmdgciolnpkccaaGreatDoorAlgA
import Derived.Test.YtmdgciolnpkccaaGreatDoorDecO
namespace Go.Proofs.YtmdgciolnpkccaaGreatDoor

/-- What a call took, and an error's number. -/
def Tk (er : Nat) (x : D) : Prop := (er = 0 ∧ IsPlain x ∧ fitsB x = true) ∨ (er ≠ 0 ∧ er ≤ 3 ∧ x = zeroD)
theorem fits_zero : fitsB zeroD = true := rfl
theorem tk_taken (g : Bool) (n m : Nat) (e : Int) : Tk (takenE g n m e) (takenD g n m e) := by
  by_cases h : takenE g n m e = 0
  · exact .inl ⟨h, taken_facts h⟩
  · refine .inr ⟨h, ?_, ?_⟩
    · unfold takenE; split <;> (try split) <;> omega
    · rcases takenE_cases g n m e with h1 | h1
      · exact absurd h1 h
      · exact h1.2
theorem Tk.good {er : Nat} {x : D} (h : Tk er x) : IsPlain x ∧ fitsB x = true := by
  rcases h with h | h
  · exact h.2
  · rw [h.2.2]; exact ⟨plain_zero, fits_zero⟩
theorem Tk.le {er : Nat} {x : D} (h : Tk er x) : er ≤ 3 := by rcases h with h | h <;> omega
theorem tell_good {d : D} (h : IsPlain d) : IsPlain (tellR d).1 ∧ fitsB (tellR d).1 = true := by
  unfold tellR; split
  · rename_i hf; exact ⟨h, hf⟩
  · exact ⟨plain_zero, fits_zero⟩
theorem tell_le (d : D) : (tellR d).2 ≤ 3 := by unfold tellR; split <;> simp
theorem tell_zero {d : D} (h : (tellR d).2 = 0) : (tellR d).1 = d := by
  unfold tellR at h ⊢; split
  · rfl
  · rename_i hf; rw [if_neg hf] at h; simp at h
theorem bin_good {er : Nat} {d : D} (h : IsPlain d) : IsPlain (binR er (tellR d)).1 ∧ fitsB (binR er (tellR d)).1 = true := by
  unfold binR; split
  · exact tell_good h
  · exact ⟨plain_zero, fits_zero⟩
theorem bin_le {er : Nat} {d : D} (h : er ≤ 3) : (binR er (tellR d)).2 ≤ 3 := by
  unfold binR; split
  · exact tell_le d
  · exact h
theorem bin_zero {er : Nat} {d : D} (h : (binR er (tellR d)).2 = 0) : er = 0 ∧ (binR er (tellR d)).1 = d := by
  unfold binR at h ⊢; split
  · rename_i h0; rw [if_pos h0] at h; exact ⟨h0, tell_zero h⟩
  · rename_i h0; rw [if_neg h0] at h; exact absurd h h0
theorem bothE_comm {x y : Nat} {a b : D} (hx : Tk x a) (hy : Tk y b) (hxv : x = 0 ∨ x = 1 ∨ x = 3) (hyv : y = 0 ∨ y = 1 ∨ y = 3) : bothE x y = bothE y x := by
  unfold bothE
  rcases hxv with rfl | rfl | rfl <;> rcases hyv with rfl | rfl | rfl <;> rfl
theorem takenE_vals (g : Bool) (n m : Nat) (e : Int) : takenE g n m e = 0 ∨ takenE g n m e = 1 ∨ takenE g n m e = 3 := by unfold takenE; split <;> (try split) <;> simp
theorem bothE_le {x y : Nat} (hx : x ≤ 3) (hy : y ≤ 3) : bothE x y ≤ 3 := by unfold bothE; split <;> (try split) <;> omega

theorem lowE {x : D} (h : IsPlain x ∧ fitsB x = true) : -10400 ≤ x.e := (plain_bounds h.1 h.2).2.1

/-- The order of whole numbers. -/
def cmpI (a b : Int) : Int := if a < b then -1 else if b < a then 1 else 0
theorem cmpI_neg (a b : Int) : cmpI a b = - cmpI b a := by unfold cmpI; split <;> split <;> (try split) <;> omega
theorem cmpN_mul (X Y : Nat) {P : Nat} (h : 0 < P) : cmpN (X * P) (Y * P) = cmpN X Y := by
  unfold cmpN
  have h1 : X * P < Y * P ↔ X < Y := Nat.mul_lt_mul_right h
  have h2 : Y * P < X * P ↔ Y < X := Nat.mul_lt_mul_right h
  simp only [h1, h2]
theorem head_low {m : Nat} (e : Int) (hm : m ≠ 0) (he : -100000 ≤ e) : 10 ^ upE (e + (Num.digs 10 m).length - 1) ≤ m * 10 ^ upE e := by
  have hl := Num.length_pos (b := 10) (by decide) hm
  obtain ⟨k, hk⟩ : ∃ k, (Num.digs 10 m).length = k + 1 := ⟨(Num.digs 10 m).length - 1, by omega⟩
  have h1 : 10 ^ k ≤ m := Num.pow_le_of_lt_length (by decide) (by omega)
  have h2 : upE (e + (Num.digs 10 m).length - 1) = k + upE e := by unfold upE; omega
  rw [h2, Nat.pow_add]
  exact Nat.mul_le_mul_right _ h1
theorem head_high {m : Nat} (e : Int) (he : -100000 ≤ e) : m * 10 ^ upE e < 10 ^ upE (e + (Num.digs 10 m).length) := by
  have h1 : m < 10 ^ (Num.digs 10 m).length := Num.lt_pow_length (by decide) m
  have h2 : upE (e + (Num.digs 10 m).length) = (Num.digs 10 m).length + upE e := by unfold upE; omega
  rw [h2, Nat.pow_add]
  exact Nat.mul_lt_mul_of_pos_right h1 (pow_pos10 _)
theorem size_lt {x y : D} (hx : -100000 ≤ x.e) (hy : -100000 ≤ y.e) (y0 : y.m ≠ 0) (h : headD x < headD y) : x.m * 10 ^ upE x.e < y.m * 10 ^ upE y.e := by
  unfold headD at h
  refine Nat.lt_of_lt_of_le (head_high x.e hx) (Nat.le_trans ?_ (head_low y.e y0 hy))
  exact Nat.pow_le_pow_right (by decide) (by unfold upE; omega)
theorem size_worth {x y : D} (hx : -100000 ≤ x.e) (hy : -100000 ≤ y.e) (x0 : x.m ≠ 0) (y0 : y.m ≠ 0) : sizeC x y = cmpN (x.m * 10 ^ upE x.e) (y.m * 10 ^ upE y.e) := by
  unfold sizeC
  by_cases he : headD x = headD y
  · rw [if_neg (by simpa using he)]
    obtain ⟨k, hk⟩ : ∃ k, k = min x.e y.e := ⟨_, rfl⟩
    rw [← hk, ← level_worth x.m x.e k (by omega) (by omega), ← level_worth y.m y.e k (by omega) (by omega), cmpN_mul _ _ (pow_pos10 _)]
  · rw [if_pos he]
    by_cases hlt : headD x < headD y
    · rw [if_pos hlt, cmpN_lt (size_lt hx hy y0 hlt)]
    · rw [if_neg hlt, cmpN_gt (size_lt hy hx x0 (by omega))]
theorem cmp_core (s t a b z : Int) (X Y : Nat) (hX : 0 < X) (hY : 0 < Y) (hs : s = 1 ∨ s = -1) (ht : t = 1 ∨ t = -1) (ha : a = s * (X : Int)) (hb : b = t * (Y : Int)) (hz : z = cmpN X Y) :
    (if s < t then (-1 : Int) else if t < s then 1 else if s = 0 then 0 else s * z) = cmpI a b := by
  unfold cmpI
  have h3 : (X < Y ∧ z = -1) ∨ (Y < X ∧ z = 1) ∨ (X = Y ∧ z = 0) := by
    unfold cmpN at hz
    by_cases h1 : X < Y
    · exact .inl ⟨h1, by rw [hz, if_pos h1]⟩
    · by_cases h2 : Y < X
      · exact .inr (.inl ⟨h2, by rw [hz, if_neg h1, if_pos h2]⟩)
      · exact .inr (.inr ⟨by omega, by rw [hz, if_neg h1, if_neg h2]⟩)
  clear hz
  rcases hs with rfl | rfl <;> rcases ht with rfl | rfl <;> rcases h3 with ⟨h3, rfl⟩ | ⟨h3, rfl⟩ | ⟨h3, rfl⟩ <;> (repeat (first | omega | split))
theorem cmpR_worth {x y : D} (hx : -100000 ≤ x.e) (hy : -100000 ≤ y.e) : cmpR x y = cmpI (wo x) (wo y) := by
  have sx : signD x = if x.m = 0 then 0 else sgn x.neg := rfl
  have sy : signD y = if y.m = 0 then 0 else sgn y.neg := rfl
  have pos : ∀ (d : D), d.m ≠ 0 → 0 < d.m * 10 ^ upE d.e := fun d h => Nat.mul_pos (by omega) (pow_pos10 _)
  unfold cmpR
  rw [sx, sy]
  by_cases x0 : x.m = 0
  · rw [if_pos x0, (wo_zero_iff x).2 x0]
    by_cases y0 : y.m = 0
    · rw [if_pos y0, (wo_zero_iff y).2 y0]; rfl
    · rw [if_neg y0]
      have hw : wo y = sgn y.neg * ((y.m * 10 ^ upE y.e : Nat) : Int) := rfl
      have := pos y y0
      generalize y.m * 10 ^ upE y.e = Y at *
      rw [hw]
      unfold cmpI
      rcases sgn_cases y.neg with h | h <;> rw [h] <;> (repeat (first | omega | split))
  · rw [if_neg x0]
    by_cases y0 : y.m = 0
    · rw [if_pos y0, (wo_zero_iff y).2 y0]
      have hw : wo x = sgn x.neg * ((x.m * 10 ^ upE x.e : Nat) : Int) := rfl
      have := pos x x0
      generalize x.m * 10 ^ upE x.e = X at *
      rw [hw]
      unfold cmpI
      rcases sgn_cases x.neg with h | h <;> rw [h] <;> (repeat (first | omega | split))
    · rw [if_neg y0]
      exact cmp_core _ _ _ _ _ _ _ (pos x x0) (pos y y0) (sgn_cases _) (sgn_cases _) rfl rfl (size_worth hx hy x0 y0)

theorem cmpR_anti {x y : D} (hx : -100000 ≤ x.e) (hy : -100000 ≤ y.e) : cmpR x y = - cmpR y x := by rw [cmpR_worth hx hy, cmpR_worth hy hx]; exact cmpI_neg _ _
theorem cmpI_cases (a b : Int) : (a < b ∧ cmpI a b = -1) ∨ (b < a ∧ cmpI a b = 1) ∨ (a = b ∧ cmpI a b = 0) := by
  unfold cmpI
  by_cases h1 : a < b
  · exact .inl ⟨h1, if_pos h1⟩
  · by_cases h2 : b < a
    · exact .inr (.inl ⟨h2, by rw [if_neg h1, if_pos h2]⟩)
    · exact .inr (.inr ⟨by omega, by rw [if_neg h1, if_neg h2]⟩)

/- What DecRing says. -/
theorem ring_comm {er er' : Nat} {x y : D} (hx : IsPlain x ∧ fitsB x = true) (hy : IsPlain y ∧ fitsB y = true) (h : er = er') : binR er (addR x y) = binR er' (addR y x) ∧ binR er (mulR x y) = binR er' (mulR y x) := by
  subst h
  have a := lowE hx
  have b := lowE hy
  constructor
  · unfold addR; rw [sumD_comm x y (by omega) (by omega)]
  · unfold mulR; rw [prod_comm]
theorem ring_back {ex ey : Nat} {x y : D} (hx : Tk ex x) (hy : Tk ey y) (h1 : (binR (bothE ex ey) (addR x y)).2 = 0) (h3 : (binR (bothE 0 0) (addR (binR (bothE ex ey) (addR x y)).1 (negD y))).2 = 0) :
    (binR (bothE 0 0) (addR (binR (bothE ex ey) (addR x y)).1 (negD y))).1 = x := by
  unfold addR at h1 h3 ⊢
  obtain ⟨_, e1⟩ := bin_zero h1
  obtain ⟨_, e2⟩ := bin_zero h3
  have a := lowE hx.good
  have b := lowE hy.good
  have gs := bin_good (er := bothE ex ey) (sumD_plain x y)
  have c := lowE gs
  rw [e2]
  refine wo_inj (sumD_plain _ _) hx.good.1 (sumD_e _ _ _ (by omega) (by rw [neg_e]; omega) (by omega)) (by omega) ?_
  rw [wo_sum _ _ (by omega) (by rw [neg_e]; omega), wo_neg, e1, wo_sum _ _ (by omega) (by omega)]
  omega
theorem ring_dist {ex ey ez : Nat} {x y z : D} (hx : Tk ex x) (hy : Tk ey y) (hz : Tk ez z) {ab ac bc one two : D × Nat}
    (e1 : ab = binR (bothE ex ey) (addR x y)) (e2 : ac = binR (bothE ex ez) (mulR x z)) (e3 : bc = binR (bothE ey ez) (mulR y z)) (e4 : one = binR (bothE 0 ez) (mulR ab.1 z)) (e5 : two = binR (bothE 0 0) (addR ac.1 bc.1))
    (h1 : ab.2 = 0) (h2 : ac.2 = 0) (h3 : bc.2 = 0) (h4 : one.2 = 0) (h5 : two.2 = 0) : one.1 = two.1 := by
  have a := lowE hx.good
  have b := lowE hy.good
  have c := lowE hz.good
  have g1 := bin_good (er := bothE ex ey) (sumD_plain x y)
  have g2 := bin_good (er := bothE ex ez) (prod_plain x z)
  have g3 := bin_good (er := bothE ey ez) (prod_plain y z)
  unfold addR mulR at *
  rw [← e1] at g1
  rw [← e2] at g2
  rw [← e3] at g3
  have l1 := lowE g1
  have l2 := lowE g2
  have l3 := lowE g3
  have q1 : ab.1 = sumD x y := by rw [e1] at h1 ⊢; exact (bin_zero h1).2
  have q2 : ac.1 = prodD x z := by rw [e2] at h2 ⊢; exact (bin_zero h2).2
  have q3 : bc.1 = prodD y z := by rw [e3] at h3 ⊢; exact (bin_zero h3).2
  have q4 : one.1 = prodD ab.1 z := by rw [e4] at h4 ⊢; exact (bin_zero h4).2
  have q5 : two.1 = sumD ac.1 bc.1 := by rw [e5] at h5 ⊢; exact (bin_zero h5).2
  have w1 : wo ab.1 = wo x + wo y := by rw [q1]; exact wo_sum _ _ (by omega) (by omega)
  have w2 : wo ac.1 * ((10 ^ topE : Nat) : Int) = wo x * wo z := by rw [q2]; exact wo_prod _ _ (by omega) (by omega)
  have w3 : wo bc.1 * ((10 ^ topE : Nat) : Int) = wo y * wo z := by rw [q3]; exact wo_prod _ _ (by omega) (by omega)
  have w4 : wo one.1 * ((10 ^ topE : Nat) : Int) = wo ab.1 * wo z := by rw [q4]; exact wo_prod _ _ (by omega) (by omega)
  have w5 : wo two.1 = wo ac.1 + wo bc.1 := by rw [q5]; exact wo_sum _ _ (by omega) (by omega)
  have hT : ((10 ^ topE : Nat) : Int) ≠ 0 := by have := pow_pos10 topE; omega
  rw [q4, q5]
  refine wo_inj (prod_plain _ _) (sumD_plain _ _) ?_ (sumD_e _ _ _ (by omega) (by omega) (by omega)) ?_
  · exact plainD_e _ _ _ _ (by omega) (by omega)
  · rw [← q4, ← q5]
    refine Int.eq_of_mul_eq_mul_right hT ?_
    rw [w4, w5, w1, Int.add_mul, Int.add_mul, w2, w3]

/- What DecOrder says. -/
theorem wo_eq_iff {x y : D} (hx : IsPlain x ∧ fitsB x = true) (hy : IsPlain y ∧ fitsB y = true) : x = y ↔ wo x = wo y := by
  have a := lowE hx
  have b := lowE hy
  exact ⟨fun h => by rw [h], fun h => wo_inj hx.1 hy.1 (by omega) (by omega) h⟩
theorem wo_neg_iff {d : D} (h : IsPlain d) : wo d < 0 ↔ d.neg = true := by
  have hw : wo d = sgn d.neg * ((d.m * 10 ^ upE d.e : Nat) : Int) := rfl
  by_cases h0 : d.m = 0
  · rw [h.1 h0]; simp [wo, zeroD]
  · have := Nat.mul_pos (show 0 < d.m by omega) (pow_pos10 (upE d.e))
    generalize d.m * 10 ^ upE d.e = X at *
    rw [hw]
    cases hn : d.neg
    · rw [show sgn false = 1 from rfl]; simp
    · rw [show sgn true = -1 from rfl]; simp; omega
/-- The difference's sign is the order. -/
theorem order_diff2 {x y : D} (hx : IsPlain x ∧ fitsB x = true) (hy : IsPlain y ∧ fitsB y = true) {d : D × Nat} (hd : d = binR (bothE 0 0) (addR x (negD y))) (h : d.2 = 0) :
    (cmpR x y < 0 ↔ d.1.neg = true) ∧ (cmpR x y = 0 ↔ d.1.m = 0) := by
  have a := lowE hx
  have b := lowE hy
  have q : d.1 = sumD x (negD y) := by rw [hd] at h ⊢; unfold addR at h ⊢; exact (bin_zero h).2
  have hp : IsPlain d.1 := by rw [q]; exact sumD_plain _ _
  have hw : wo d.1 = wo x - wo y := by rw [q, wo_sum _ _ (by omega) (by rw [neg_e]; omega), wo_neg]; omega
  rw [cmpR_worth (by omega) (by omega), ← wo_neg_iff hp, ← wo_zero_iff, hw]
  rcases cmpI_cases (wo x) (wo y) with ⟨h1, h2⟩ | ⟨h1, h2⟩ | ⟨h1, h2⟩ <;> rw [h2] <;> constructor <;> constructor <;> intro h3 <;> omega
theorem order_eq {x y : D} (hx : IsPlain x ∧ fitsB x = true) (hy : IsPlain y ∧ fitsB y = true) : cmpR x y = 0 ↔ x = y := by
  have a := lowE hx
  have b := lowE hy
  rw [wo_eq_iff hx hy, cmpR_worth (by omega) (by omega)]
  rcases cmpI_cases (wo x) (wo y) with ⟨h1, h2⟩ | ⟨h1, h2⟩ | ⟨h1, h2⟩ <;> rw [h2] <;> constructor <;> intro h3 <;> omega
theorem order_trans {x y z : D} (hx : IsPlain x ∧ fitsB x = true) (hy : IsPlain y ∧ fitsB y = true) (hz : IsPlain z ∧ fitsB z = true) (h1 : cmpR x y ≤ 0) (h2 : cmpR y z ≤ 0) : cmpR x z ≤ 0 := by
  have a := lowE hx
  have b := lowE hy
  have c := lowE hz
  rw [cmpR_worth (by omega) (by omega)] at h1 h2 ⊢
  rcases cmpI_cases (wo x) (wo y) with ⟨p1, p2⟩ | ⟨p1, p2⟩ | ⟨p1, p2⟩ <;> rcases cmpI_cases (wo y) (wo z) with ⟨q1, q2⟩ | ⟨q1, q2⟩ | ⟨q1, q2⟩ <;> rcases cmpI_cases (wo x) (wo z) with ⟨r1, r2⟩ | ⟨r1, r2⟩ | ⟨r1, r2⟩ <;> omega
theorem order_sums {ex ey ez : Nat} {x y z : D} (hx : Tk ex x) (hy : Tk ey y) (hz : Tk ez z) {ac bc : D × Nat} (e1 : ac = binR (bothE ex ez) (addR x z)) (e2 : bc = binR (bothE ey ez) (addR y z)) (h1 : ac.2 = 0) (h2 : bc.2 = 0) :
    cmpR ac.1 bc.1 = cmpR x y := by
  have a := lowE hx.good
  have b := lowE hy.good
  have c := lowE hz.good
  unfold addR at *
  have g1 := bin_good (er := bothE ex ez) (sumD_plain x z)
  have g2 := bin_good (er := bothE ey ez) (sumD_plain y z)
  rw [← e1] at g1
  rw [← e2] at g2
  have l1 := lowE g1
  have l2 := lowE g2
  have q1 : ac.1 = sumD x z := by rw [e1] at h1 ⊢; exact (bin_zero h1).2
  have q2 : bc.1 = sumD y z := by rw [e2] at h2 ⊢; exact (bin_zero h2).2
  have w1 : wo ac.1 = wo x + wo z := by rw [q1]; exact wo_sum _ _ (by omega) (by omega)
  have w2 : wo bc.1 = wo y + wo z := by rw [q2]; exact wo_sum _ _ (by omega) (by omega)
  rw [cmpR_worth (by omega) (by omega), cmpR_worth (by omega) (by omega), w1, w2]
  unfold cmpI
  have k1 : wo x + wo z < wo y + wo z ↔ wo x < wo y := by omega
  have k2 : wo y + wo z < wo x + wo z ↔ wo y < wo x := by omega
  simp only [k1, k2]

end Go.Proofs.YtmdgciolnpkccaaGreatDoor
