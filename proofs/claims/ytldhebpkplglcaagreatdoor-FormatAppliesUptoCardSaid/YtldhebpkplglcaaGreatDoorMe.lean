/- What is written is read again: plain laws. Layer 2, thirteenth part: level, size. Plain laws of sums, products and the order of numbers. Nothing is walked here. Layer 2, fourteenth part: Cmp. Layer 2, fifteenth part: Mul. Plain laws of numbers that a call took: the order, sums and products in rings. Nothing is walked here. Layer 2, sixteenth part: Add. -/
import Derived.Test.YtldhebpkplglcaaGreatDoorMd
import Derived.Test.YtldhebpkplglcaaGreatDoorMc
import Derived.Deep.CutBlock
namespace Go.Proofs.YtldhebpkplglcaaGreatDoor
open Go.RowKit

theorem tz_zero : tz 0 = 0 := rfl
theorem tz_mod {m : Nat} (h : m % 10 ≠ 0) : tz m = 0 := by
  have hm : m ≠ 0 := fun e => h (by rw [e])
  unfold tz
  rw [Num.digs_pos (by decide) hm, List.takeWhile_cons]
  simp [h]
theorem tz_ten {m : Nat} (hm : m ≠ 0) : tz (10 * m) = 1 + tz m := by
  unfold tz
  rw [Num.digs_pos (by decide) (show 10 * m ≠ 0 by omega), List.takeWhile_cons, Nat.mul_mod_right, Nat.mul_div_cancel_left m (by decide)]
  simp; omega
theorem tz_pow {m : Nat} (hm : m ≠ 0) (k : Nat) : tz (m * 10 ^ k) = k + tz m := by
  induction k with
  | zero => simp
  | succ k ih =>
    have h0 : m * 10 ^ k ≠ 0 := Nat.mul_ne_zero hm (Nat.ne_of_gt (Nat.pow_pos (by decide)))
    rw [Nat.pow_succ, ← Nat.mul_assoc, Nat.mul_comm, tz_ten h0, ih]; omega
theorem tz_split {m : Nat} (hm : m ≠ 0) : m / 10 ^ tz m * 10 ^ tz m = m ∧ tz (m / 10 ^ tz m) = 0 ∧ m / 10 ^ tz m ≠ 0 := by
  induction m using Num.digs_ind (b := 10) (by decide) with
  | h0 => exact absurd rfl hm
  | h1 m hm' ih =>
    by_cases h : m % 10 = 0
    · obtain ⟨q, hq⟩ : ∃ q, q = m / 10 := ⟨_, rfl⟩
      have hmq : m = 10 * q := by omega
      have hq0 : q ≠ 0 := by omega
      rw [← hq] at ih
      obtain ⟨i1, i2, i3⟩ := ih hq0
      have e : m / 10 ^ tz m = q / 10 ^ tz q := by
        rw [hmq, tz_ten hq0, Nat.pow_add, Nat.pow_one, Nat.mul_div_mul_left _ _ (by decide)]
      rw [e]
      refine ⟨?_, i2, i3⟩
      rw [hmq, tz_ten hq0, Nat.pow_add, Nat.pow_one, Nat.mul_comm 10 (10 ^ _), ← Nat.mul_assoc, i1, Nat.mul_comm]
    · rw [tz_mod h]; simp [tz_mod h, hm]

/-- A number is plain. -/
def IsPlain (d : D) : Prop := (d.m = 0 → d = zeroD) ∧ tz d.m = 0
theorem plain_zero : IsPlain zeroD := ⟨fun _ => rfl, rfl⟩
theorem plainD_zero (g : Bool) (e : Int) : plainD g 0 e = zeroD := by unfold plainD; rw [if_pos rfl]; rfl
theorem plainD_plain (g : Bool) (m : Nat) (e : Int) : IsPlain (plainD g m e) := by
  by_cases h : m = 0
  · subst h; rw [plainD_zero]; exact plain_zero
  · have := tz_split h
    unfold plainD
    rw [if_neg h]
    exact ⟨fun e => absurd e this.2.2, this.2.1⟩
theorem plainD_mul {d : D} (h : IsPlain d) (k : Nat) : plainD d.neg (d.m * 10 ^ k) (d.e - k) = d := by
  by_cases h0 : d.m = 0
  · rw [h0, Nat.zero_mul, plainD_zero, h.1 h0]
  · have hp : 10 ^ k ≠ 0 := Nat.ne_of_gt (Nat.pow_pos (by decide))
    unfold plainD
    rw [if_neg (Nat.mul_ne_zero h0 hp), tz_pow h0, h.2]
    cases d
    simp only [Nat.add_zero, D.mk.injEq, true_and]
    exact ⟨Nat.mul_div_cancel _ (Nat.pos_of_ne_zero hp), by omega⟩
theorem plainD_self {d : D} (h : IsPlain d) : plainD d.neg d.m d.e = d := by simpa using plainD_mul h 0

/-- What was taken is taken as it is. -/
theorem plain_bounds {d : D} (h : IsPlain d) (hf : fitsB d = true) : (Num.digs 10 d.m).length ≤ 400 ∧ -10400 ≤ d.e ∧ d.e ≤ 10001 := by
  by_cases h0 : d.m = 0
  · rw [h.1 h0]; exact ⟨by decide, by decide, by decide⟩
  · obtain ⟨h1, h2, h3⟩ := fits_iff hf h0
    omega
theorem limbs_400 {m : Nat} (h : (Num.digs 10 m).length ≤ 400) : (Num.limbs m).length ≤ 45 := limbs_pow h (by decide)
theorem taken_self {d : D} (h : IsPlain d) (hf : fitsB d = true) : takenE d.neg (Num.limbs d.m).length (Num.worth (Num.limbs d.m)) d.e = 0 ∧ takenD d.neg (Num.limbs d.m).length (Num.worth (Num.limbs d.m)) d.e = d := by
  obtain ⟨b1, b2, b3⟩ := plain_bounds h hf
  have b4 := limbs_400 b1
  have hn : nearB (Num.limbs d.m).length d.e = true := nearB_iff.2 ⟨by omega, by omega, by omega⟩
  unfold takenE takenD
  rw [if_pos hn, if_pos hn, Num.worth_limbs, plainD_self h, if_pos hf, if_pos hf]
  exact ⟨rfl, rfl⟩
theorem may_self {d : D} (h : IsPlain d) (hf : fitsB d = true) : mayB d.neg (Num.limbs d.m) d.e = true := by
  obtain ⟨h1, h2⟩ := taken_self h hf
  unfold mayB
  rw [h1, h2]
  simp
theorem taken_facts {g : Bool} {n m : Nat} {e : Int} (h : takenE g n m e = 0) : IsPlain (takenD g n m e) ∧ fitsB (takenD g n m e) = true := by
  obtain ⟨_, h2, h3⟩ := taken_zero h
  rw [h2]
  exact ⟨plainD_plain _ _ _, h3⟩
theorem parse_facts {l : List UInt8} (h : (parseR l).2 = 0) : IsPlain (parseR l).1 ∧ fitsB (parseR l).1 = true := by
  unfold parseR at h ⊢
  split at h
  · cases h
  · split at h
    · cases h
    · rename_i h1
      rw [if_neg h1]
      split at h
      · rename_i h2
        rw [if_pos h2]
        exact ⟨plainD_plain _ _ _, h2⟩
      · cases h
theorem parse_zero {l : List UInt8} (h : (parseR l).2 ≠ 0) : (parseR l).1 = zeroD := by
  unfold parseR at h ⊢
  split at h
  · rfl
  · split at h
    · rename_i h1; rw [if_pos h1]
    · rename_i h1
      rw [if_neg h1]
      split at h
      · exact absurd rfl h
      · rename_i h2; rw [if_neg h2]

/- The text. -/
theorem isD_chr {d : Nat} (h : d < 10) : isD (Num.chr d) = true := by
  have : d = 0 ∨ d = 1 ∨ d = 2 ∨ d = 3 ∨ d = 4 ∨ d = 5 ∨ d = 6 ∨ d = 7 ∨ d = 8 ∨ d = 9 := by omega
  rcases this with rfl | rfl | rfl | rfl | rfl | rfl | rfl | rfl | rfl | rfl <;> rfl
theorem chr_val {d : Nat} (h : d < 10) : (UInt8.ofNat (48 + d)).toNat - 48 = d := by
  have : d = 0 ∨ d = 1 ∨ d = 2 ∨ d = 3 ∨ d = 4 ∨ d = 5 ∨ d = 6 ∨ d = 7 ∨ d = 8 ∨ d = 9 := by omega
  rcases this with rfl | rfl | rfl | rfl | rfl | rfl | rfl | rfl | rfl | rfl <;> rfl
theorem dec_digs_all (m : Nat) : Digs (Lib.decDigits m) := by
  induction m using Nat.strongRecOn with
  | ind m ih =>
    rw [Lib.decDigits]
    split
    · intro c hc; rw [List.mem_singleton] at hc; subst hc; exact isD_iff.1 (isD_chr (by omega))
    · intro c hc
      rcases List.mem_append.1 hc with h | h
      · exact ih (m / 10) (by omega) c h
      · rw [List.mem_singleton] at h; subst h; exact isD_iff.1 (isD_chr (Nat.mod_lt _ (by decide)))
theorem num10_dec (m : Nat) : num10 (Lib.decDigits m) 0 = m := by
  induction m using Nat.strongRecOn with
  | ind m ih =>
    rw [Lib.decDigits]
    split
    · simp only [num10]; rw [chr_val (by omega)]; omega
    · rw [num10_append, ih (m / 10) (by omega)]
      simp only [num10]
      rw [chr_val (Nat.mod_lt _ (by decide))]; omega
theorem num10_zeros (k n : Nat) : num10 (List.replicate k 48) n = n * 10 ^ k := by
  induction k generalizing n with
  | zero => simp [num10]
  | succ k ih =>
    rw [List.replicate_succ]; simp only [num10]
    rw [ih, Nat.pow_succ, show (48 : UInt8).toNat - 48 = 0 by rfl, Nat.add_zero, Nat.mul_comm 10 n, Nat.mul_assoc, Nat.mul_comm 10 (10 ^ k)]
theorem decD_head {m : Nat} (hm : m ≠ 0) : ∃ c r, Lib.decDigits m = c :: r ∧ c ≠ 48 := by
  obtain ⟨zs, y, e, hy⟩ := Num.digs_last (b := 10) (by decide) m hm
  refine ⟨Num.chr y, (zs.map Num.chr).reverse, by rw [Num.decDigits_digs m hm, e]; simp, ?_⟩
  have hlt : y < 10 := Num.digs_lt (b := 10) (by decide) m y (by rw [e]; simp)
  intro h
  have := Go.Proofs.YtldhebpkplglcaaGreatDoor.chr_zero hlt
  rw [h] at this
  simp at this
  exact hy this

/-- What does not open with a digit. -/
def NoD (l : List UInt8) : Prop := ∀ c r, l = c :: r → isD c = false
theorem take_join (a b : List UInt8) (ha : Digs a) (hb : NoD b) : (a ++ b).takeWhile isD = a ∧ (a ++ b).dropWhile isD = b := by
  induction a with
  | nil =>
    cases b with
    | nil => exact ⟨rfl, rfl⟩
    | cons c r => simp [hb c r rfl]
  | cons c a ih =>
    have h0 := isD_iff.2 (ha c (by simp))
    obtain ⟨i1, i2⟩ := ih (fun d hd => ha d (by simp [hd]))
    simp [h0, i1, i2]
theorem noD_nil : NoD [] := fun _ _ h => by cases h
theorem noD_cons {c : UInt8} {r : List UInt8} (h : isD c = false) : NoD (c :: r) := fun d s e => by cases e; exact h

theorem scan_join (g : Bool) (wh be tl : List UInt8) (hw : Digs wh) (h0 : wh ≠ []) (h1 : ¬ (1 < wh.length ∧ wh.head? = some 48)) (hb : Digs be) (ht : NoD tl) (ht2 : Lib.hasPrefix tl [46] = false) :
    scanL ((if g = true then [45] else []) ++ (wh ++ ((if be = [] then [] else 46 :: be) ++ tl))) = (tailL tl).map fun x => (g, wh, be, x) := by
  obtain ⟨c, r, hcr⟩ : ∃ c r, wh = c :: r := by cases wh with | nil => exact absurd rfl h0 | cons c r => exact ⟨c, r, rfl⟩
  have hc45 : c ≠ 45 := fun e => by
    have := hw c (by rw [hcr]; simp)
    rw [e] at this; exact absurd this.1 (by decide)
  obtain ⟨X, hX⟩ : ∃ X, X = (if be = [] then [] else 46 :: be) ++ tl := ⟨_, rfl⟩
  have hXn : NoD X := by
    rw [hX]
    by_cases h : be = []
    · rw [if_pos h]; exact ht
    · rw [if_neg h]; exact noD_cons (by decide)
  have e1 : Lib.hasPrefix ((if g = true then [45] else []) ++ (wh ++ X)) [45] = g := by
    unfold Lib.hasPrefix
    cases g
    · rw [hcr]; simp [List.isPrefixOf]; exact fun h => hc45 h.symm
    · simp [List.isPrefixOf]
  have e2 : Lib.trimPrefix ((if g = true then [45] else []) ++ (wh ++ X)) [45] = wh ++ X := by
    unfold Lib.trimPrefix
    rw [e1]
    cases g <;> simp
  obtain ⟨e3, e4⟩ := take_join wh X hw hXn
  unfold scanL
  rw [← hX]
  simp only [e1, e2, e3, e4]
  rw [if_neg (fun h => h.elim h0 h1), hX]
  by_cases h : be = []
  · subst h
    simp only [if_true, List.nil_append]
    rw [if_neg (by simp [ht2])]
  · rw [if_neg h]
    have e5 : Lib.hasPrefix (46 :: be ++ tl) [46] = true := by simp [Lib.hasPrefix, List.isPrefixOf]
    have e6 : Lib.trimPrefix (46 :: be ++ tl) [46] = be ++ tl := by unfold Lib.trimPrefix; rw [if_pos e5]; rfl
    obtain ⟨e7, e8⟩ := take_join be tl hb ht
    rw [if_pos e5, e6, e7, e8, if_neg h]

end Go.Proofs.YtldhebpkplglcaaGreatDoor

namespace Go.Proofs.YtldhebpkplglcaaGreatDoor
open Go.RowKit

/-- Two lists and a power, in memory of the call's own. -/
def OutLL (w : World) (x y : Nat) (k : Int) (e : Ending) (w' : World) : Prop :=
  ∃ a1 c1 a2 c2, e = .returned (.tuple #[.slice a1 (Num.limbs x).length c1, .slice a2 (Num.limbs y).length c2, .int .i64 k]) ∧ Below w.heap.size w w' ∧
    w'.ownsRow w.heap.size 62 1 (.slice a1 (Num.limbs x).length c1) (Num.limbs x).length (u32s (Num.limbs x)) ∧
    w'.ownsRow w.heap.size 62 1 (.slice a2 (Num.limbs y).length c2) (Num.limbs y).length (u32s (Num.limbs y))

theorem keep6 {w W' w1 : World} {N : Nat} {x y z u v t : Value} (h : W'.cell? ⟨N, 0, none⟩ = some x ∧ W'.cell? ⟨N, 1, none⟩ = some y ∧ W'.cell? ⟨N, 2, none⟩ = some z ∧ W'.cell? ⟨N + 1, 0, none⟩ = some u ∧ W'.cell? ⟨N + 1, 1, none⟩ = some v ∧ W'.cell? ⟨N + 1, 2, none⟩ = some t ∧ Below w.heap.size w W') (hb : Below W'.heap.size W' w1) :
    w1.cell? ⟨N, 0, none⟩ = some x ∧ w1.cell? ⟨N, 1, none⟩ = some y ∧ w1.cell? ⟨N, 2, none⟩ = some z ∧ w1.cell? ⟨N + 1, 0, none⟩ = some u ∧ w1.cell? ⟨N + 1, 1, none⟩ = some v ∧ w1.cell? ⟨N + 1, 2, none⟩ = some t ∧ Below w.heap.size w w1 := by
  obtain ⟨h0, h1, h2, h3, h4, h5, h6⟩ := h
  have B := (bcell hb).1
  exact ⟨(B _ _ (cell_lt h0)).trans h0, (B _ _ (cell_lt h1)).trans h1, (B _ _ (cell_lt h2)).trans h2, (B _ _ (cell_lt h3)).trans h3, (B _ _ (cell_lt h4)).trans h4, (B _ _ (cell_lt h5)).trans h5, below_trans h6 hb⟩

theorem limbs_shift_le (m p : Nat) (hm : (Num.digs 10 m).length ≤ 400) (hp : p ≤ 30000) : (Num.limbs (m * 10 ^ p)).length ≤ 3400 := by
  refine limbs_pow (K := 400 + 30000) ((Num.digs_length_le (by decide)).2 ?_) (by decide)
  obtain ⟨k, hk⟩ : ∃ k : Nat, k = 400 := ⟨_, rfl⟩
  obtain ⟨q, hq⟩ : ∃ q : Nat, q = 30000 := ⟨_, rfl⟩
  rw [← hk] at hm ⊢
  rw [← hq] at hp ⊢
  have h1 : m < 10 ^ k := (Num.digs_length_le (by decide)).1 hm
  rw [Nat.pow_add]
  exact Nat.lt_of_le_of_lt (Nat.mul_le_mul_left _ (Nat.pow_le_pow_right (by decide) hp)) (Nat.mul_lt_mul_of_pos_right h1 (Nat.pow_pos (by decide)))
/-- A number's head. -/
def headD (d : D) : Int := d.e + (Num.digs 10 d.m).length - 1
/-- Two sizes held against each other. -/
def sizeC (x y : D) : Int :=
  if headD x ≠ headD y then (if headD x < headD y then -1 else 1)
  else cmpN (x.m * 10 ^ (x.e - min x.e y.e).toNat) (y.m * 10 ^ (y.e - min x.e y.e).toNat)

end Go.Proofs.YtldhebpkplglcaaGreatDoor

namespace Go.Proofs.YtldhebpkplglcaaGreatDoor

/-- A power of ten, counted from the least one. -/
def upE (e : Int) : Nat := (e + 100000).toNat
def topE : Nat := 100000
def sgn (g : Bool) : Int := if g = true then -1 else 1
/-- A number's worth, in the least power. -/
def wo (d : D) : Int := sgn d.neg * ((d.m * 10 ^ upE d.e : Nat) : Int)

theorem pow_pos10 (n : Nat) : 0 < 10 ^ n := Nat.pow_pos (by decide)
theorem upE_add {e : Int} (h : -100000 ≤ e) (t : Nat) : upE (e + t) = upE e + t := by unfold upE; omega
theorem sgn_cases (g : Bool) : sgn g = 1 ∨ sgn g = -1 := by cases g <;> simp [sgn]

theorem wo_plain (g : Bool) (m : Nat) (e : Int) (h : -100000 ≤ e) : wo (plainD g m e) = sgn g * ((m * 10 ^ upE e : Nat) : Int) := by
  unfold plainD
  by_cases h0 : m = 0
  · subst h0; simp [wo]
  · rw [if_neg h0]
    obtain ⟨h1, _, _⟩ := tz_split h0
    unfold wo
    simp only
    rw [upE_add h]
    congr 2
    rw [Nat.add_comm, Nat.pow_add, ← Nat.mul_assoc, h1]

theorem wo_zero_iff (d : D) : wo d = 0 ↔ d.m = 0 := by
  unfold wo
  have := pow_pos10 (upE d.e)
  constructor
  · intro h
    rcases sgn_cases d.neg with h1 | h1 <;> rw [h1] at h
    · have h2 : d.m * 10 ^ upE d.e = 0 := by omega
      rcases Nat.mul_eq_zero.1 h2 with h3 | h3
      · exact h3
      · omega
    · have h2 : d.m * 10 ^ upE d.e = 0 := by omega
      rcases Nat.mul_eq_zero.1 h2 with h3 | h3
      · exact h3
      · omega
  · intro h; rw [h]; simp

/-- Two plain numbers of one worth are one. -/
theorem wo_inj {x y : D} (hx : IsPlain x) (hy : IsPlain y) (ex : -100000 ≤ x.e) (ey : -100000 ≤ y.e) (h : wo x = wo y) : x = y := by
  by_cases h0 : x.m = 0
  · have h1 : y.m = 0 := (wo_zero_iff y).1 (h ▸ (wo_zero_iff x).2 h0)
    rw [hx.1 h0, hy.1 h1]
  · have h1 : y.m ≠ 0 := fun e => h0 ((wo_zero_iff x).1 (h.trans ((wo_zero_iff y).2 e)))
    have p1 : 0 < x.m * 10 ^ upE x.e := Nat.mul_pos (by omega) (pow_pos10 _)
    have p2 : 0 < y.m * 10 ^ upE y.e := Nat.mul_pos (by omega) (pow_pos10 _)
    obtain ⟨g, m, e⟩ := x
    obtain ⟨g2, m2, e2⟩ := y
    simp only at *
    have hs : g = g2 ∧ m * 10 ^ upE e = m2 * 10 ^ upE e2 := by
      unfold wo at h
      simp only at h
      generalize m * 10 ^ upE e = A at *
      generalize m2 * 10 ^ upE e2 = B at *
      have s1 : sgn true = -1 := rfl
      have s2 : sgn false = 1 := rfl
      cases g <;> cases g2 <;> simp only [s1, s2] at h <;> first | exact ⟨rfl, by omega⟩ | omega
    obtain ⟨rfl, hm⟩ := hs
    have ht := congrArg tz hm
    have q1 : tz m = 0 := hx.2
    have q2 : tz m2 = 0 := hy.2
    rw [tz_pow h0, tz_pow h1, q1, q2] at ht
    have he : e = e2 := by unfold upE at ht; omega
    subst he
    have := Nat.eq_of_mul_eq_mul_right (pow_pos10 (upE e)) hm
    subst this
    rfl

/-- The sum, plain. -/
def sumD (x y : D) : D :=
  if x.neg = y.neg then plainD x.neg (x.m * 10 ^ (x.e - min x.e y.e).toNat + y.m * 10 ^ (y.e - min x.e y.e).toNat) (min x.e y.e)
  else if x.m * 10 ^ (x.e - min x.e y.e).toNat < y.m * 10 ^ (y.e - min x.e y.e).toNat then plainD y.neg (y.m * 10 ^ (y.e - min x.e y.e).toNat - x.m * 10 ^ (x.e - min x.e y.e).toNat) (min x.e y.e)
  else plainD x.neg (x.m * 10 ^ (x.e - min x.e y.e).toNat - y.m * 10 ^ (y.e - min x.e y.e).toNat) (min x.e y.e)

theorem sumD_plain (x y : D) : IsPlain (sumD x y) := by unfold sumD; split <;> (try split) <;> exact plainD_plain _ _ _

theorem level_worth (m : Nat) (e k : Int) (h : k ≤ e) (hk : -100000 ≤ k) : m * 10 ^ (e - k).toNat * 10 ^ upE k = m * 10 ^ upE e := by
  rw [Nat.mul_assoc, ← Nat.pow_add]
  congr 2
  unfold upE; omega

theorem wo_sum (x y : D) (hx : -100000 ≤ x.e) (hy : -100000 ≤ y.e) : wo (sumD x y) = wo x + wo y := by
  obtain ⟨k, hk⟩ : ∃ k, k = min x.e y.e := ⟨_, rfl⟩
  have hk1 : -100000 ≤ k := by omega
  have l1 := level_worth x.m x.e k (by omega) hk1
  have l2 := level_worth y.m y.e k (by omega) hk1
  unfold sumD
  rw [← hk]
  obtain ⟨X, hX⟩ : ∃ X, X = x.m * 10 ^ (x.e - k).toNat := ⟨_, rfl⟩
  obtain ⟨Y, hY⟩ : ∃ Y, Y = y.m * 10 ^ (y.e - k).toNat := ⟨_, rfl⟩
  rw [← hX] at l1 ⊢
  rw [← hY] at l2 ⊢
  obtain ⟨P, hP⟩ : ∃ P, P = 10 ^ upE k := ⟨_, rfl⟩
  have e1 : wo x = sgn x.neg * ((X * P : Nat) : Int) := by unfold wo; rw [hP, l1]
  have e2 : wo y = sgn y.neg * ((Y * P : Nat) : Int) := by unfold wo; rw [hP, l2]
  rw [e1, e2]
  split
  · rename_i h
    rw [wo_plain _ _ _ hk1, ← hP, Nat.add_mul, h]
    rcases sgn_cases y.neg with h1 | h1 <;> rw [h1] <;> omega
  · rename_i h
    have hs : sgn x.neg = - sgn y.neg := by
      cases h1 : x.neg <;> cases h2 : y.neg <;> simp [h1, h2, sgn] at h ⊢
    split
    · rename_i hlt
      have : X * P ≤ Y * P := Nat.mul_le_mul_right _ (by omega)
      rw [wo_plain _ _ _ hk1, ← hP, Nat.sub_mul, hs]
      rcases sgn_cases y.neg with h1 | h1 <;> rw [h1] <;> omega
    · rename_i hlt
      have : Y * P ≤ X * P := Nat.mul_le_mul_right _ (by omega)
      rw [wo_plain _ _ _ hk1, ← hP, Nat.sub_mul, hs]
      rcases sgn_cases y.neg with h1 | h1 <;> rw [h1] <;> omega

theorem plainD_e (g : Bool) (m : Nat) (e k : Int) (h : k ≤ e) (h0 : k ≤ 0) : k ≤ (plainD g m e).e := by
  unfold plainD; split <;> simp only <;> omega
theorem sumD_e (x y : D) (k : Int) (hx : k ≤ x.e) (hy : k ≤ y.e) (h0 : k ≤ 0) : k ≤ (sumD x y).e := by
  unfold sumD; split <;> (try split) <;> exact plainD_e _ _ _ _ (by omega) h0

theorem sumD_comm (x y : D) (hx : -100000 ≤ x.e) (hy : -100000 ≤ y.e) : sumD x y = sumD y x :=
  wo_inj (sumD_plain _ _) (sumD_plain _ _) (sumD_e _ _ _ hx hy (by decide)) (sumD_e _ _ _ hy hx (by decide)) (by rw [wo_sum x y hx hy, wo_sum y x hy hx]; omega)

theorem sumD_zero_left {x y : D} (hx : -100000 ≤ x.e) (hy : -100000 ≤ y.e) (py : IsPlain y) (h0 : x.m = 0) : sumD x y = y :=
  wo_inj (sumD_plain _ _) py (sumD_e _ _ _ hx hy (by decide)) hy (by rw [wo_sum x y hx hy, (wo_zero_iff x).2 h0]; omega)
theorem sumD_zero_right {x y : D} (hx : -100000 ≤ x.e) (hy : -100000 ≤ y.e) (px : IsPlain x) (h0 : y.m = 0) : sumD x y = x :=
  wo_inj (sumD_plain _ _) px (sumD_e _ _ _ hx hy (by decide)) hx (by rw [wo_sum x y hx hy, (wo_zero_iff y).2 h0]; omega)

/-- What a call tells of a plain number. -/
def tellR (d : D) : D × Nat := if fitsB d = true then (d, 0) else (zeroD, 3)
/-- Sum and product of what may be, and what is told. -/
def addR (x y : D) : D × Nat := tellR (sumD x y)
def prodD (x y : D) : D := plainD (x.neg != y.neg) (x.m * y.m) (x.e + y.e)
def mulR (x y : D) : D × Nat := tellR (prodD x y)

/-- A sum of two that are far apart has too many digits. -/
theorem far_one {x y : D} (hx0 : x.m ≠ 0) (hy0 : y.m ≠ 0) (py : tz y.m = 0) (fy : (Num.digs 10 y.m).length ≤ 400) (hp : y.e + 402 ≤ x.e) : fitsB (sumD x y) = false := by
  obtain ⟨p, hpe⟩ : ∃ p : Nat, x.e = y.e + p ∧ 402 ≤ p := ⟨(x.e - y.e).toNat, by omega, by omega⟩
  have hm : min x.e y.e = y.e := by omega
  have t1 : (x.e - y.e).toNat = p := by omega
  have t2 : (y.e - y.e).toNat = 0 := by omega
  obtain ⟨k, hk⟩ : ∃ k : Nat, k = 400 := ⟨_, rfl⟩
  have hy1 : y.m < 10 ^ k := (Num.digs_length_le (by decide)).1 (by omega)
  have hy2 : y.m % 10 ≠ 0 := fun e => by
    obtain ⟨c, hc⟩ : ∃ c, y.m = 10 * c := ⟨y.m / 10, by omega⟩
    rw [hc] at py hy0
    rw [tz_ten (by omega)] at py
    omega
  obtain ⟨q, hq⟩ : ∃ q, p = k + 2 + q := ⟨p - (k + 2), by omega⟩
  have hX : 100 * 10 ^ k ≤ x.m * 10 ^ p := by
    have h1 : 10 ^ p = 10 ^ k * 100 * 10 ^ q := by rw [hq, Nat.pow_add, Nat.pow_add]
    have h2 := pow_pos10 q
    have h3 : 10 ^ k * 100 * 1 ≤ 10 ^ k * 100 * 10 ^ q := Nat.mul_le_mul_left _ h2
    have h4 : 1 * 10 ^ p ≤ x.m * 10 ^ p := Nat.mul_le_mul_right _ (by omega)
    omega
  have hX10 : (x.m * 10 ^ p) % 10 = 0 := by
    obtain ⟨r, hr⟩ : ∃ r, p = r + 1 := ⟨p - 1, by omega⟩
    rw [hr, Nat.pow_succ, ← Nat.mul_assoc]
    omega
  have key : ∀ (g : Bool) (S : Nat), S % 10 ≠ 0 → 10 ^ k ≤ S → fitsB (plainD g S y.e) = false := by
    intro g S h1 h2
    have h0 : S ≠ 0 := by omega
    have hl : 400 < (Num.digs 10 S).length := by
      have : ¬ (Num.digs 10 S).length ≤ k := fun h => by
        have := (Num.digs_length_le (b := 10) (by decide)).1 h
        omega
      omega
    unfold plainD
    rw [if_neg h0, tz_mod h1]
    unfold fitsB
    simp only [Nat.pow_zero, Nat.div_one, h0, decide_false, Bool.false_or]
    rw [decide_eq_false (by omega)]
    rfl
  have hpk : 0 < 10 ^ k := pow_pos10 k
  unfold sumD
  rw [hm, t1, t2, Nat.pow_zero, Nat.mul_one]
  split
  · exact key _ _ (by omega) (by omega)
  · rw [if_neg (by omega)]
    exact key _ _ (by omega) (by omega)

theorem far_two {x y : D} (hx0 : x.m ≠ 0) (hy0 : y.m ≠ 0) (px : tz x.m = 0) (py : tz y.m = 0) (fx : (Num.digs 10 x.m).length ≤ 400) (fy : (Num.digs 10 y.m).length ≤ 400) (bx : -100000 ≤ x.e) (by' : -100000 ≤ y.e)
    (h : 800 < max (headD x) (headD y) - min x.e y.e) : fitsB (sumD x y) = false := by
  unfold headD at h
  by_cases hle : y.e ≤ x.e
  · exact far_one hx0 hy0 py fy (by omega)
  · rw [sumD_comm x y bx by']
    exact far_one hy0 hx0 px fx (by omega)

theorem tell_ok {d p : D} {k : Nat} (h : tellR d = (p, k)) (h0 : k = 0) : p = d ∧ fitsB d = true := by
  unfold tellR at h
  split at h
  · rename_i hf; injection h with h1 h2; exact ⟨h1.symm, hf⟩
  · injection h with h1 h2; omega

/-- The opposite. -/
theorem wo_neg (d : D) : wo (negD d) = - wo d := by
  unfold negD
  split
  · rename_i h; rw [(wo_zero_iff d).2 h]; rfl
  · unfold wo; simp only; cases d.neg <;> simp [sgn]
theorem neg_plain {d : D} (h : IsPlain d) : IsPlain (negD d) := by
  unfold negD
  split
  · exact h
  · rename_i h0; exact ⟨fun e => absurd e h0, h.2⟩
theorem neg_fits {d : D} (h : fitsB d = true) : fitsB (negD d) = true := by
  unfold negD
  split
  · exact h
  · exact h
theorem neg_e (d : D) : (negD d).e = d.e := by unfold negD; split <;> rfl

/-- The product. -/
theorem sgn_mul (a b : Bool) : sgn (a != b) = sgn a * sgn b := by cases a <;> cases b <;> decide
theorem prod_plain (x y : D) : IsPlain (prodD x y) := plainD_plain _ _ _
theorem wo_prod (x y : D) (hx : -50000 ≤ x.e) (hy : -50000 ≤ y.e) : wo (prodD x y) * ((10 ^ topE : Nat) : Int) = wo x * wo y := by
  unfold prodD
  rw [wo_plain _ _ _ (by omega), sgn_mul]
  unfold wo
  obtain ⟨T, hT⟩ : ∃ T : Nat, T = topE := ⟨_, rfl⟩
  rw [← hT]
  have hT : T = 100000 := hT
  have h1 : upE (x.e + y.e) + T = upE x.e + upE y.e := by unfold upE; omega
  have h2 : 10 ^ upE (x.e + y.e) * 10 ^ T = 10 ^ upE x.e * 10 ^ upE y.e := by rw [← Nat.pow_add, h1, Nat.pow_add]
  have h3 : x.m * y.m * 10 ^ upE (x.e + y.e) * 10 ^ T = (x.m * 10 ^ upE x.e) * (y.m * 10 ^ upE y.e) := by
    rw [Nat.mul_assoc (x.m * y.m), h2, Nat.mul_mul_mul_comm]
  rw [Int.mul_assoc, ← Int.natCast_mul, h3, Int.natCast_mul]
  generalize ((x.m * 10 ^ upE x.e : Nat) : Int) = a
  generalize ((y.m * 10 ^ upE y.e : Nat) : Int) = b
  rw [Int.mul_assoc, Int.mul_assoc, Int.mul_left_comm (sgn y.neg) a b]

theorem prod_comm (x y : D) : prodD x y = prodD y x := by
  unfold prodD
  rw [Nat.mul_comm, Int.add_comm]
  congr 1
  cases x.neg <;> cases y.neg <;> rfl

end Go.Proofs.YtldhebpkplglcaaGreatDoor

namespace Go.Proofs.YtldhebpkplglcaaGreatDoor
open Go.RowKit

/-- Two numbers held against each other. -/
def cmpR (x y : D) : Int := if signD x < signD y then -1 else if signD y < signD x then 1 else if signD x = 0 then 0 else signD x * sizeC x y

/-- But for block R the world w' is, as far as w goes, as w was. -/
structure But (R : Nat) (w w' : World) : Prop where
  os : w'.os = w.os
  tape : w'.tape = w.tape
  output : w'.output = w.output
  size : w.heap.size ≤ w'.heap.size
  block : ∀ k, k < w.heap.size → k ≠ R → w'.heap[k]? = w.heap[k]?
theorem But.refl (R : Nat) (w : World) : But R w w := ⟨rfl, rfl, rfl, Nat.le_refl _, fun _ _ _ => rfl⟩
theorem But.drew {R : Nat} {w w' : World} (h : But R w w') : But R w w'.drew := ⟨h.os, h.tape, h.output, h.size, h.block⟩
theorem But.step {R : Nat} {w w1 w2 : World} (h : But R w w1) (hb : Below w1.heap.size w1 w2) : But R w w2 :=
  ⟨hb.os.trans h.os, hb.tape.trans h.tape, hb.output.trans h.output, Nat.le_trans h.size hb.size, fun k hk hr => (hb.block k (Nat.lt_of_lt_of_le hk h.size)).trans (h.block k hk hr)⟩
theorem But.setCell {R : Nat} {w w1 : World} (h : But R w w1) (o : Nat) (u : Value) : But R w (w1.setCell ⟨R, o, none⟩ u) :=
  ⟨h.os, h.tape, h.output, by simpa [World.setCell] using h.size, fun k hk hr => (Below.heap_setCell _ _ _ _ hr).trans (h.block k hk hr)⟩
theorem But.below {R B : Nat} {a w w' : World} (h : But R w w') (hb : Below B a w) (h1 : B ≤ R) (h2 : B ≤ w.heap.size) : Below B a w' :=
  hb.trans ⟨h.os, h.tape, h.output, h.size, fun k hk => h.block k (by omega) (by omega)⟩
theorem But.owns {R : Nat} {w w' : World} {base : Nat} {e : TypeId} {size : Nat} {v : Value} {n : Nat} {xs : List Value} (hb : But R w w') (h : w.ownsRow base e size v n xs) (hR : R < base) : w'.ownsRow base e size v n xs := by
  refine ⟨h.1, ?_⟩
  rcases h.2 with h | ⟨g, cap, cur, h1, h2, h3, h4⟩
  · exact .inl h
  · exact .inr ⟨g, cap, cur, h1, h2, by rw [hb.block g (Array.getElem?_eq_some_iff.1 h3).1 (by omega)]; exact h3, h4⟩

/-- Two numbers that were taken, in blocks of their own, from block B on. -/
structure TwoD (w : World) (B : Nat) (w' : World) (x y : D) (N M : Nat) (b1 : Option Addr) (c1 : Nat) (b2 : Option Addr) (c2 : Nat) : Prop where
  h1 : w'.heap[N]? = some (.cells #[.bool x.neg, .slice b1 (Num.limbs x.m).length c1, .int .i64 x.e] 24)
  h2 : w'.heap[M]? = some (.cells #[.bool y.neg, .slice b2 (Num.limbs y.m).length c2, .int .i64 y.e] 24)
  l1 : B ≤ N
  l2 : B ≤ M
  o1 : w'.ownsRow B 62 1 (.slice b1 (Num.limbs x.m).length c1) (Num.limbs x.m).length (u32s (Num.limbs x.m))
  o2 : w'.ownsRow B 62 1 (.slice b2 (Num.limbs y.m).length c2) (Num.limbs y.m).length (u32s (Num.limbs y.m))
  bel : Below w.heap.size w w'
theorem TwoD.i1 {w w' : World} {B : Nat} {x y : D} {N M c1 c2 : Nat} {b1 b2 : Option Addr} (h : TwoD w B w' x y N M b1 c1 b2 c2) : InD w' x b1 c1 := ⟨u32_limbs h.o1⟩
theorem TwoD.i2 {w w' : World} {B : Nat} {x y : D} {N M c1 c2 : Nat} {b1 b2 : Option Addr} (h : TwoD w B w' x y N M b1 c1 b2 c2) : InD w' y b2 c2 := ⟨u32_limbs h.o2⟩
theorem keepT {B : Nat} {w W' w1 : World} {N M : Nat} {x y z u v t : Value} (h : W'.cell? ⟨N, 0, none⟩ = some x ∧ W'.cell? ⟨N, 1, none⟩ = some y ∧ W'.cell? ⟨N, 2, none⟩ = some z ∧ W'.cell? ⟨M, 0, none⟩ = some u ∧ W'.cell? ⟨M, 1, none⟩ = some v ∧ W'.cell? ⟨M, 2, none⟩ = some t ∧ Below B w W') (hB : B ≤ w.heap.size) (hb : Below W'.heap.size W' w1) :
    w1.cell? ⟨N, 0, none⟩ = some x ∧ w1.cell? ⟨N, 1, none⟩ = some y ∧ w1.cell? ⟨N, 2, none⟩ = some z ∧ w1.cell? ⟨M, 0, none⟩ = some u ∧ w1.cell? ⟨M, 1, none⟩ = some v ∧ w1.cell? ⟨M, 2, none⟩ = some t ∧ Below B w w1 := by
  obtain ⟨h0, h1, h2, h3, h4, h5, h6⟩ := h
  have B' := (bcell hb).1
  exact ⟨(B' _ _ (cell_lt h0)).trans h0, (B' _ _ (cell_lt h1)).trans h1, (B' _ _ (cell_lt h2)).trans h2, (B' _ _ (cell_lt h3)).trans h3, (B' _ _ (cell_lt h4)).trans h4, (B' _ _ (cell_lt h5)).trans h5, h6.trans (hb.mono (Nat.le_trans hB h6.size))⟩

theorem TwoD.new {w w0 w1 : World} {x y : D} {b1 b2 : Option Addr} {c1 c2 B : Nat} (hb : Below w.heap.size w w1) (hB : B ≤ w0.heap.size) (o1 : OwnD w0 w1 x b1 c1) (o2 : OwnD w0 w1 y b2 c2) :
    TwoD w B ((w1.alloc (.cells #[.bool x.neg, .slice b1 (Num.limbs x.m).length c1, .int .i64 x.e] 24)).alloc (.cells #[.bool y.neg, .slice b2 (Num.limbs y.m).length c2, .int .i64 y.e] 24)) x y w1.heap.size (w1.heap.size + 1) b1 c1 b2 c2 := by
  have k1 := (Below.refl w1.heap.size w1).alloc (Nat.le_refl _) (.cells #[.bool x.neg, .slice b1 (Num.limbs x.m).length c1, .int .i64 x.e] 24)
  have k2 := k1.alloc (by simp) (.cells #[.bool y.neg, .slice b2 (Num.limbs y.m).length c2, .int .i64 y.e] 24)
  have hs := o1.1.size
  exact ⟨blk_alloc (blk_new w1 _) _, blk_new2 w1 _ _, by omega, by omega, owns_mono (owns_below o1.2 k2) hB, owns_mono (owns_below o2.2 k2) hB, below_trans hb k2⟩

theorem cmpN_bd (x y : Nat) : -1 ≤ cmpN x y ∧ cmpN x y ≤ 1 := by unfold cmpN; split <;> (try split) <;> omega
theorem sizeC_bd (x y : D) : -1 ≤ sizeC x y ∧ sizeC x y ≤ 1 := by
  unfold sizeC; split
  · split <;> omega
  · exact cmpN_bd _ _
theorem signD_cases (x : D) : signD x = 0 ∨ signD x = 1 ∨ signD x = -1 := by unfold signD; split <;> (try split) <;> simp
theorem bothE_zero {x y : Nat} (h : bothE x y = 0) : x = 0 ∧ y = 0 := by unfold bothE at h; split at h <;> (try split at h) <;> omega

end Go.Proofs.YtldhebpkplglcaaGreatDoor

namespace Go.Proofs.YtldhebpkplglcaaGreatDoor
open Go.RowKit

/-- Block R has three cells that may be written. -/
def Cells3 (W : World) (R : Nat) : Prop := ∃ x y z T, W.heap[R]? = some (.cells #[x, y, z] T)
theorem Cells3.below {W W' : World} {R : Nat} (h : Cells3 W R) (hb : Below W.heap.size W W') : Cells3 W' R := by
  obtain ⟨x, y, z, T, h⟩ := h
  exact ⟨x, y, z, T, blk_below h hb⟩
theorem Cells3.frozen {W : World} {R : Nat} (h : Cells3 W R) (j : Nat) : W.frozen? ⟨R, j, none⟩ = false := by
  obtain ⟨x, y, z, T, h⟩ := h
  exact blk_frozen h j
theorem Cells3.get {W : World} {R : Nat} (h : Cells3 W R) : ∃ x y z, W.cell? ⟨R, 0, none⟩ = some x ∧ W.cell? ⟨R, 1, none⟩ = some y ∧ W.cell? ⟨R, 2, none⟩ = some z := by
  obtain ⟨x, y, z, T, h⟩ := h
  exact ⟨x, y, z, (blk_three h).1⟩
theorem Cells3.set3 {W : World} {R : Nat} (h : Cells3 W R) (u v t : Value) : Cells3 (((W.setCell ⟨R, 0, none⟩ u).setCell ⟨R, 1, none⟩ v).setCell ⟨R, 2, none⟩ t) R := by
  obtain ⟨x, y, z, T, h⟩ := h
  exact ⟨u, v, t, T, by simp [World.setCell, Array.getElem?_modify, h]⟩

/-- What is held of the world while a statement goes on that ends with a store into block R. -/
theorem keepR {W0 W w1 : World} {N M R : Nat} {x y z u v t : Value} (h : W.cell? ⟨N, 0, none⟩ = some x ∧ W.cell? ⟨N, 1, none⟩ = some y ∧ W.cell? ⟨N, 2, none⟩ = some z ∧ W.cell? ⟨M, 0, none⟩ = some u ∧ W.cell? ⟨M, 1, none⟩ = some v ∧ W.cell? ⟨M, 2, none⟩ = some t ∧
      W.frozen? ⟨R, 0, none⟩ = false ∧ W.frozen? ⟨R, 1, none⟩ = false ∧ W.frozen? ⟨R, 2, none⟩ = false ∧ Cells3 W R ∧ But R W0 W) (hb : Below W.heap.size W w1) :
    w1.cell? ⟨N, 0, none⟩ = some x ∧ w1.cell? ⟨N, 1, none⟩ = some y ∧ w1.cell? ⟨N, 2, none⟩ = some z ∧ w1.cell? ⟨M, 0, none⟩ = some u ∧ w1.cell? ⟨M, 1, none⟩ = some v ∧ w1.cell? ⟨M, 2, none⟩ = some t ∧
      w1.frozen? ⟨R, 0, none⟩ = false ∧ w1.frozen? ⟨R, 1, none⟩ = false ∧ w1.frozen? ⟨R, 2, none⟩ = false ∧ Cells3 w1 R ∧ But R W0 w1 := by
  obtain ⟨h0, h1, h2, h3, h4, h5, _, _, _, h6, h7⟩ := h
  have B' := (bcell hb).1
  have c6 := h6.below hb
  exact ⟨(B' _ _ (cell_lt h0)).trans h0, (B' _ _ (cell_lt h1)).trans h1, (B' _ _ (cell_lt h2)).trans h2, (B' _ _ (cell_lt h3)).trans h3, (B' _ _ (cell_lt h4)).trans h4, (B' _ _ (cell_lt h5)).trans h5, c6.frozen 0, c6.frozen 1, c6.frozen 2, c6, h7.step hb⟩
theorem keepRs {W0 W : World} {N M R : Nat} {x y z u v t : Value} (h : W.cell? ⟨N, 0, none⟩ = some x ∧ W.cell? ⟨N, 1, none⟩ = some y ∧ W.cell? ⟨N, 2, none⟩ = some z ∧ W.cell? ⟨M, 0, none⟩ = some u ∧ W.cell? ⟨M, 1, none⟩ = some v ∧ W.cell? ⟨M, 2, none⟩ = some t ∧
      W.frozen? ⟨R, 0, none⟩ = false ∧ W.frozen? ⟨R, 1, none⟩ = false ∧ W.frozen? ⟨R, 2, none⟩ = false ∧ Cells3 W R ∧ But R W0 W) (p q r : Value) (hN : N ≠ R) (hM : M ≠ R) (w1 : World) (hw : w1 = ((W.setCell ⟨R, 0, none⟩ p).setCell ⟨R, 1, none⟩ q).setCell ⟨R, 2, none⟩ r) :
    w1.cell? ⟨N, 0, none⟩ = some x ∧ w1.cell? ⟨N, 1, none⟩ = some y ∧ w1.cell? ⟨N, 2, none⟩ = some z ∧ w1.cell? ⟨M, 0, none⟩ = some u ∧ w1.cell? ⟨M, 1, none⟩ = some v ∧ w1.cell? ⟨M, 2, none⟩ = some t ∧
      w1.frozen? ⟨R, 0, none⟩ = false ∧ w1.frozen? ⟨R, 1, none⟩ = false ∧ w1.frozen? ⟨R, 2, none⟩ = false ∧ Cells3 w1 R ∧ But R W0 w1 := by
  subst hw
  obtain ⟨h0, h1, h2, h3, h4, h5, _, _, _, h6, h7⟩ := h
  have c6 := h6.set3 p q r
  have hc : ∀ (K j : Nat), K ≠ R → (((W.setCell ⟨R, 0, none⟩ p).setCell ⟨R, 1, none⟩ q).setCell ⟨R, 2, none⟩ r).cell? ⟨K, j, none⟩ = W.cell? ⟨K, j, none⟩ := fun K j hK => by
    refine World.cell?_of_block ?_
    simp only
    rw [Below.heap_setCell _ _ _ _ hK, Below.heap_setCell _ _ _ _ hK, Below.heap_setCell _ _ _ _ hK]
  exact ⟨(hc _ _ hN).trans h0, (hc _ _ hN).trans h1, (hc _ _ hN).trans h2, (hc _ _ hM).trans h3, (hc _ _ hM).trans h4, (hc _ _ hM).trans h5, c6.frozen 0, c6.frozen 1, c6.frozen 2, c6, ((h7.setCell _ _).setCell _ _).setCell _ _⟩

theorem owns_set3 {w : World} {base : Nat} {e : TypeId} {size : Nat} {v : Value} {n : Nat} {xs : List Value} (h : w.ownsRow base e size v n xs) {R : Nat} (hR : R < base) (p q r : Value) :
    (((w.setCell ⟨R, 0, none⟩ p).setCell ⟨R, 1, none⟩ q).setCell ⟨R, 2, none⟩ r).ownsRow base e size v n xs :=
  ownsRow_setCell_below (ownsRow_setCell_below (ownsRow_setCell_below h hR p) hR q) hR r

/-- What a call tells that takes two. -/
def binR (er : Nat) (r : D × Nat) : D × Nat := if er = 0 then r else (zeroD, er)
theorem tell_yes {d : D} (h : fitsB d = true) : tellR d = (d, 0) := if_pos h
theorem tell_no {d : D} (h : ¬ fitsB d = true) : tellR d = (zeroD, 3) := if_neg h

theorem digs_mul_le {m n : Nat} (hm : (Num.digs 10 m).length ≤ 400) (hn : (Num.digs 10 n).length ≤ 400) : (Num.digs 10 (m * n)).length ≤ 800 := by
  obtain ⟨k, hk⟩ : ∃ k : Nat, k = 400 := ⟨_, rfl⟩
  rw [← hk] at hm hn
  have h1 : m < 10 ^ k := (Num.digs_length_le (by decide)).1 hm
  have h2 : n < 10 ^ k := (Num.digs_length_le (by decide)).1 hn
  rw [show 800 = k + k by omega]
  refine (Num.digs_length_le (by decide)).2 ?_
  rw [Nat.pow_add]
  exact Nat.mul_lt_mul'' h1 h2

end Go.Proofs.YtldhebpkplglcaaGreatDoor

namespace Go.Proofs.YtldhebpkplglcaaGreatDoor

/-- What a call took, and an error's number. -/
def Tk (er : Nat) (x : D) : Prop := (er = 0 ∧ IsPlain x ∧ fitsB x = true) ∨ (er ≠ 0 ∧ er ≤ 3 ∧ x = zeroD)
theorem fits_zero : fitsB zeroD = true := rfl
theorem tk_taken (g : Bool) (n m : Nat) (e : Int) : Tk (takenE g n m e) (takenD g n m e) := by
  by_cases h : takenE g n m e = 0
  · exact .inl ⟨h, taken_facts h⟩
  · refine .inr ⟨h, ?_, ?_⟩
    · unfold takenE; split <;> (try split) <;> omega
    · rcases takenE_cases g n m e with h1 | h1
      · exact absurd h1 h
      · exact h1.2
theorem Tk.good {er : Nat} {x : D} (h : Tk er x) : IsPlain x ∧ fitsB x = true := by
  rcases h with h | h
  · exact h.2
  · rw [h.2.2]; exact ⟨plain_zero, fits_zero⟩
theorem Tk.le {er : Nat} {x : D} (h : Tk er x) : er ≤ 3 := by rcases h with h | h <;> omega
theorem tell_good {d : D} (h : IsPlain d) : IsPlain (tellR d).1 ∧ fitsB (tellR d).1 = true := by
  unfold tellR; split
  · rename_i hf; exact ⟨h, hf⟩
  · exact ⟨plain_zero, fits_zero⟩
theorem tell_le (d : D) : (tellR d).2 ≤ 3 := by unfold tellR; split <;> simp
theorem tell_zero {d : D} (h : (tellR d).2 = 0) : (tellR d).1 = d := by
  unfold tellR at h ⊢; split
  · rfl
  · rename_i hf; rw [if_neg hf] at h; simp at h
theorem bin_good {er : Nat} {d : D} (h : IsPlain d) : IsPlain (binR er (tellR d)).1 ∧ fitsB (binR er (tellR d)).1 = true := by
  unfold binR; split
  · exact tell_good h
  · exact ⟨plain_zero, fits_zero⟩
theorem bin_le {er : Nat} {d : D} (h : er ≤ 3) : (binR er (tellR d)).2 ≤ 3 := by
  unfold binR; split
  · exact tell_le d
  · exact h
theorem bin_zero {er : Nat} {d : D} (h : (binR er (tellR d)).2 = 0) : er = 0 ∧ (binR er (tellR d)).1 = d := by
  unfold binR at h ⊢; split
  · rename_i h0; rw [if_pos h0] at h; exact ⟨h0, tell_zero h⟩
  · rename_i h0; rw [if_neg h0] at h; exact absurd h h0
theorem bothE_comm {x y : Nat} {a b : D} (hx : Tk x a) (hy : Tk y b) (hxv : x = 0 ∨ x = 1 ∨ x = 3) (hyv : y = 0 ∨ y = 1 ∨ y = 3) : bothE x y = bothE y x := by
  unfold bothE
  rcases hxv with rfl | rfl | rfl <;> rcases hyv with rfl | rfl | rfl <;> rfl
theorem takenE_vals (g : Bool) (n m : Nat) (e : Int) : takenE g n m e = 0 ∨ takenE g n m e = 1 ∨ takenE g n m e = 3 := by unfold takenE; split <;> (try split) <;> simp
theorem bothE_le {x y : Nat} (hx : x ≤ 3) (hy : y ≤ 3) : bothE x y ≤ 3 := by unfold bothE; split <;> (try split) <;> omega

theorem lowE {x : D} (h : IsPlain x ∧ fitsB x = true) : -10400 ≤ x.e := (plain_bounds h.1 h.2).2.1

/-- The order of whole numbers. -/
def cmpI (a b : Int) : Int := if a < b then -1 else if b < a then 1 else 0
theorem cmpI_neg (a b : Int) : cmpI a b = - cmpI b a := by unfold cmpI; split <;> split <;> (try split) <;> omega
theorem cmpN_mul (X Y : Nat) {P : Nat} (h : 0 < P) : cmpN (X * P) (Y * P) = cmpN X Y := by
  unfold cmpN
  have h1 : X * P < Y * P ↔ X < Y := Nat.mul_lt_mul_right h
  have h2 : Y * P < X * P ↔ Y < X := Nat.mul_lt_mul_right h
  simp only [h1, h2]
theorem head_low {m : Nat} (e : Int) (hm : m ≠ 0) (he : -100000 ≤ e) : 10 ^ upE (e + (Num.digs 10 m).length - 1) ≤ m * 10 ^ upE e := by
  have hl := Num.length_pos (b := 10) (by decide) hm
  obtain ⟨k, hk⟩ : ∃ k, (Num.digs 10 m).length = k + 1 := ⟨(Num.digs 10 m).length - 1, by omega⟩
  have h1 : 10 ^ k ≤ m := Num.pow_le_of_lt_length (by decide) (by omega)
  have h2 : upE (e + (Num.digs 10 m).length - 1) = k + upE e := by unfold upE; omega
  rw [h2, Nat.pow_add]
  exact Nat.mul_le_mul_right _ h1
theorem head_high {m : Nat} (e : Int) (he : -100000 ≤ e) : m * 10 ^ upE e < 10 ^ upE (e + (Num.digs 10 m).length) := by
  have h1 : m < 10 ^ (Num.digs 10 m).length := Num.lt_pow_length (by decide) m
  have h2 : upE (e + (Num.digs 10 m).length) = (Num.digs 10 m).length + upE e := by unfold upE; omega
  rw [h2, Nat.pow_add]
  exact Nat.mul_lt_mul_of_pos_right h1 (pow_pos10 _)
theorem size_lt {x y : D} (hx : -100000 ≤ x.e) (hy : -100000 ≤ y.e) (y0 : y.m ≠ 0) (h : headD x < headD y) : x.m * 10 ^ upE x.e < y.m * 10 ^ upE y.e := by
  unfold headD at h
  refine Nat.lt_of_lt_of_le (head_high x.e hx) (Nat.le_trans ?_ (head_low y.e y0 hy))
  exact Nat.pow_le_pow_right (by decide) (by unfold upE; omega)
theorem size_worth {x y : D} (hx : -100000 ≤ x.e) (hy : -100000 ≤ y.e) (x0 : x.m ≠ 0) (y0 : y.m ≠ 0) : sizeC x y = cmpN (x.m * 10 ^ upE x.e) (y.m * 10 ^ upE y.e) := by
  unfold sizeC
  by_cases he : headD x = headD y
  · rw [if_neg (by simpa using he)]
    obtain ⟨k, hk⟩ : ∃ k, k = min x.e y.e := ⟨_, rfl⟩
    rw [← hk, ← level_worth x.m x.e k (by omega) (by omega), ← level_worth y.m y.e k (by omega) (by omega), cmpN_mul _ _ (pow_pos10 _)]
  · rw [if_pos he]
    by_cases hlt : headD x < headD y
    · rw [if_pos hlt, cmpN_lt (size_lt hx hy y0 hlt)]
    · rw [if_neg hlt, cmpN_gt (size_lt hy hx x0 (by omega))]
theorem cmp_core (s t a b z : Int) (X Y : Nat) (hX : 0 < X) (hY : 0 < Y) (hs : s = 1 ∨ s = -1) (ht : t = 1 ∨ t = -1) (ha : a = s * (X : Int)) (hb : b = t * (Y : Int)) (hz : z = cmpN X Y) :
    (if s < t then (-1 : Int) else if t < s then 1 else if s = 0 then 0 else s * z) = cmpI a b := by
  unfold cmpI
  have h3 : (X < Y ∧ z = -1) ∨ (Y < X ∧ z = 1) ∨ (X = Y ∧ z = 0) := by
    unfold cmpN at hz
    by_cases h1 : X < Y
    · exact .inl ⟨h1, by rw [hz, if_pos h1]⟩
    · by_cases h2 : Y < X
      · exact .inr (.inl ⟨h2, by rw [hz, if_neg h1, if_pos h2]⟩)
      · exact .inr (.inr ⟨by omega, by rw [hz, if_neg h1, if_neg h2]⟩)
  clear hz
  rcases hs with rfl | rfl <;> rcases ht with rfl | rfl <;> rcases h3 with ⟨h3, rfl⟩ | ⟨h3, rfl⟩ | ⟨h3, rfl⟩ <;> (repeat (first | omega | split))
theorem cmpR_worth {x y : D} (hx : -100000 ≤ x.e) (hy : -100000 ≤ y.e) : cmpR x y = cmpI (wo x) (wo y) := by
  have sx : signD x = if x.m = 0 then 0 else sgn x.neg := rfl
  have sy : signD y = if y.m = 0 then 0 else sgn y.neg := rfl
  have pos : ∀ (d : D), d.m ≠ 0 → 0 < d.m * 10 ^ upE d.e := fun d h => Nat.mul_pos (by omega) (pow_pos10 _)
  unfold cmpR
  rw [sx, sy]
  by_cases x0 : x.m = 0
  · rw [if_pos x0, (wo_zero_iff x).2 x0]
    by_cases y0 : y.m = 0
    · rw [if_pos y0, (wo_zero_iff y).2 y0]; rfl
    · rw [if_neg y0]
      have hw : wo y = sgn y.neg * ((y.m * 10 ^ upE y.e : Nat) : Int) := rfl
      have := pos y y0
      generalize y.m * 10 ^ upE y.e = Y at *
      rw [hw]
      unfold cmpI
      rcases sgn_cases y.neg with h | h <;> rw [h] <;> (repeat (first | omega | split))
  · rw [if_neg x0]
    by_cases y0 : y.m = 0
    · rw [if_pos y0, (wo_zero_iff y).2 y0]
      have hw : wo x = sgn x.neg * ((x.m * 10 ^ upE x.e : Nat) : Int) := rfl
      have := pos x x0
      generalize x.m * 10 ^ upE x.e = X at *
      rw [hw]
      unfold cmpI
      rcases sgn_cases x.neg with h | h <;> rw [h] <;> (repeat (first | omega | split))
    · rw [if_neg y0]
      exact cmp_core _ _ _ _ _ _ _ (pos x x0) (pos y y0) (sgn_cases _) (sgn_cases _) rfl rfl (size_worth hx hy x0 y0)

theorem cmpR_anti {x y : D} (hx : -100000 ≤ x.e) (hy : -100000 ≤ y.e) : cmpR x y = - cmpR y x := by rw [cmpR_worth hx hy, cmpR_worth hy hx]; exact cmpI_neg _ _
theorem cmpI_cases (a b : Int) : (a < b ∧ cmpI a b = -1) ∨ (b < a ∧ cmpI a b = 1) ∨ (a = b ∧ cmpI a b = 0) := by
  unfold cmpI
  by_cases h1 : a < b
  · exact .inl ⟨h1, if_pos h1⟩
  · by_cases h2 : b < a
    · exact .inr (.inl ⟨h2, by rw [if_neg h1, if_pos h2]⟩)
    · exact .inr (.inr ⟨by omega, by rw [if_neg h1, if_neg h2]⟩)

/- What DecRing says. -/
theorem ring_comm {er er' : Nat} {x y : D} (hx : IsPlain x ∧ fitsB x = true) (hy : IsPlain y ∧ fitsB y = true) (h : er = er') : binR er (addR x y) = binR er' (addR y x) ∧ binR er (mulR x y) = binR er' (mulR y x) := by
  subst h
  have a := lowE hx
  have b := lowE hy
  constructor
  · unfold addR; rw [sumD_comm x y (by omega) (by omega)]
  · unfold mulR; rw [prod_comm]
theorem ring_back {ex ey : Nat} {x y : D} (hx : Tk ex x) (hy : Tk ey y) (h1 : (binR (bothE ex ey) (addR x y)).2 = 0) (h3 : (binR (bothE 0 0) (addR (binR (bothE ex ey) (addR x y)).1 (negD y))).2 = 0) :
    (binR (bothE 0 0) (addR (binR (bothE ex ey) (addR x y)).1 (negD y))).1 = x := by
  unfold addR at h1 h3 ⊢
  obtain ⟨_, e1⟩ := bin_zero h1
  obtain ⟨_, e2⟩ := bin_zero h3
  have a := lowE hx.good
  have b := lowE hy.good
  have gs := bin_good (er := bothE ex ey) (sumD_plain x y)
  have c := lowE gs
  rw [e2]
  refine wo_inj (sumD_plain _ _) hx.good.1 (sumD_e _ _ _ (by omega) (by rw [neg_e]; omega) (by omega)) (by omega) ?_
  rw [wo_sum _ _ (by omega) (by rw [neg_e]; omega), wo_neg, e1, wo_sum _ _ (by omega) (by omega)]
  omega
theorem ring_dist {ex ey ez : Nat} {x y z : D} (hx : Tk ex x) (hy : Tk ey y) (hz : Tk ez z) {ab ac bc one two : D × Nat}
    (e1 : ab = binR (bothE ex ey) (addR x y)) (e2 : ac = binR (bothE ex ez) (mulR x z)) (e3 : bc = binR (bothE ey ez) (mulR y z)) (e4 : one = binR (bothE 0 ez) (mulR ab.1 z)) (e5 : two = binR (bothE 0 0) (addR ac.1 bc.1))
    (h1 : ab.2 = 0) (h2 : ac.2 = 0) (h3 : bc.2 = 0) (h4 : one.2 = 0) (h5 : two.2 = 0) : one.1 = two.1 := by
  have a := lowE hx.good
  have b := lowE hy.good
  have c := lowE hz.good
  have g1 := bin_good (er := bothE ex ey) (sumD_plain x y)
  have g2 := bin_good (er := bothE ex ez) (prod_plain x z)
  have g3 := bin_good (er := bothE ey ez) (prod_plain y z)
  unfold addR mulR at *
  rw [← e1] at g1
  rw [← e2] at g2
  rw [← e3] at g3
  have l1 := lowE g1
  have l2 := lowE g2
  have l3 := lowE g3
  have q1 : ab.1 = sumD x y := by rw [e1] at h1 ⊢; exact (bin_zero h1).2
  have q2 : ac.1 = prodD x z := by rw [e2] at h2 ⊢; exact (bin_zero h2).2
  have q3 : bc.1 = prodD y z := by rw [e3] at h3 ⊢; exact (bin_zero h3).2
  have q4 : one.1 = prodD ab.1 z := by rw [e4] at h4 ⊢; exact (bin_zero h4).2
  have q5 : two.1 = sumD ac.1 bc.1 := by rw [e5] at h5 ⊢; exact (bin_zero h5).2
  have w1 : wo ab.1 = wo x + wo y := by rw [q1]; exact wo_sum _ _ (by omega) (by omega)
  have w2 : wo ac.1 * ((10 ^ topE : Nat) : Int) = wo x * wo z := by rw [q2]; exact wo_prod _ _ (by omega) (by omega)
  have w3 : wo bc.1 * ((10 ^ topE : Nat) : Int) = wo y * wo z := by rw [q3]; exact wo_prod _ _ (by omega) (by omega)
  have w4 : wo one.1 * ((10 ^ topE : Nat) : Int) = wo ab.1 * wo z := by rw [q4]; exact wo_prod _ _ (by omega) (by omega)
  have w5 : wo two.1 = wo ac.1 + wo bc.1 := by rw [q5]; exact wo_sum _ _ (by omega) (by omega)
  have hT : ((10 ^ topE : Nat) : Int) ≠ 0 := by have := pow_pos10 topE; omega
  rw [q4, q5]
  refine wo_inj (prod_plain _ _) (sumD_plain _ _) ?_ (sumD_e _ _ _ (by omega) (by omega) (by omega)) ?_
  · exact plainD_e _ _ _ _ (by omega) (by omega)
  · rw [← q4, ← q5]
    refine Int.eq_of_mul_eq_mul_right hT ?_
    rw [w4, w5, w1, Int.add_mul, Int.add_mul, w2, w3]

/- What DecOrder says. -/
theorem wo_eq_iff {x y : D} (hx : IsPlain x ∧ fitsB x = true) (hy : IsPlain y ∧ fitsB y = true) : x = y ↔ wo x = wo y := by
  have a := lowE hx
  have b := lowE hy
  exact ⟨fun h => by rw [h], fun h => wo_inj hx.1 hy.1 (by omega) (by omega) h⟩
theorem wo_neg_iff {d : D} (h : IsPlain d) : wo d < 0 ↔ d.neg = true := by
  have hw : wo d = sgn d.neg * ((d.m * 10 ^ upE d.e : Nat) : Int) := rfl
  by_cases h0 : d.m = 0
  · rw [h.1 h0]; simp [wo, zeroD]
  · have := Nat.mul_pos (show 0 < d.m by omega) (pow_pos10 (upE d.e))
    generalize d.m * 10 ^ upE d.e = X at *
    rw [hw]
    cases hn : d.neg
    · rw [show sgn false = 1 from rfl]; simp
    · rw [show sgn true = -1 from rfl]; simp; omega
/-- The difference's sign is the order. -/
theorem order_diff2 {x y : D} (hx : IsPlain x ∧ fitsB x = true) (hy : IsPlain y ∧ fitsB y = true) {d : D × Nat} (hd : d = binR (bothE 0 0) (addR x (negD y))) (h : d.2 = 0) :
    (cmpR x y < 0 ↔ d.1.neg = true) ∧ (cmpR x y = 0 ↔ d.1.m = 0) := by
  have a := lowE hx
  have b := lowE hy
  have q : d.1 = sumD x (negD y) := by rw [hd] at h ⊢; unfold addR at h ⊢; exact (bin_zero h).2
  have hp : IsPlain d.1 := by rw [q]; exact sumD_plain _ _
  have hw : wo d.1 = wo x - wo y := by rw [q, wo_sum _ _ (by omega) (by rw [neg_e]; omega), wo_neg]; omega
  rw [cmpR_worth (by omega) (by omega), ← wo_neg_iff hp, ← wo_zero_iff, hw]
  rcases cmpI_cases (wo x) (wo y) with ⟨h1, h2⟩ | ⟨h1, h2⟩ | ⟨h1, h2⟩ <;> rw [h2] <;> constructor <;> constructor <;> intro h3 <;> omega
theorem order_eq {x y : D} (hx : IsPlain x ∧ fitsB x = true) (hy : IsPlain y ∧ fitsB y = true) : cmpR x y = 0 ↔ x = y := by
  have a := lowE hx
  have b := lowE hy
  rw [wo_eq_iff hx hy, cmpR_worth (by omega) (by omega)]
  rcases cmpI_cases (wo x) (wo y) with ⟨h1, h2⟩ | ⟨h1, h2⟩ | ⟨h1, h2⟩ <;> rw [h2] <;> constructor <;> intro h3 <;> omega
theorem order_trans {x y z : D} (hx : IsPlain x ∧ fitsB x = true) (hy : IsPlain y ∧ fitsB y = true) (hz : IsPlain z ∧ fitsB z = true) (h1 : cmpR x y ≤ 0) (h2 : cmpR y z ≤ 0) : cmpR x z ≤ 0 := by
  have a := lowE hx
  have b := lowE hy
  have c := lowE hz
  rw [cmpR_worth (by omega) (by omega)] at h1 h2 ⊢
  rcases cmpI_cases (wo x) (wo y) with ⟨p1, p2⟩ | ⟨p1, p2⟩ | ⟨p1, p2⟩ <;> rcases cmpI_cases (wo y) (wo z) with ⟨q1, q2⟩ | ⟨q1, q2⟩ | ⟨q1, q2⟩ <;> rcases cmpI_cases (wo x) (wo z) with ⟨r1, r2⟩ | ⟨r1, r2⟩ | ⟨r1, r2⟩ <;> omega
theorem order_sums {ex ey ez : Nat} {x y z : D} (hx : Tk ex x) (hy : Tk ey y) (hz : Tk ez z) {ac bc : D × Nat} (e1 : ac = binR (bothE ex ez) (addR x z)) (e2 : bc = binR (bothE ey ez) (addR y z)) (h1 : ac.2 = 0) (h2 : bc.2 = 0) :
    cmpR ac.1 bc.1 = cmpR x y := by
  have a := lowE hx.good
  have b := lowE hy.good
  have c := lowE hz.good
  unfold addR at *
  have g1 := bin_good (er := bothE ex ez) (sumD_plain x z)
  have g2 := bin_good (er := bothE ey ez) (sumD_plain y z)
  rw [← e1] at g1
  rw [← e2] at g2
  have l1 := lowE g1
  have l2 := lowE g2
  have q1 : ac.1 = sumD x z := by rw [e1] at h1 ⊢; exact (bin_zero h1).2
  have q2 : bc.1 = sumD y z := by rw [e2] at h2 ⊢; exact (bin_zero h2).2
  have w1 : wo ac.1 = wo x + wo z := by rw [q1]; exact wo_sum _ _ (by omega) (by omega)
  have w2 : wo bc.1 = wo y + wo z := by rw [q2]; exact wo_sum _ _ (by omega) (by omega)
  rw [cmpR_worth (by omega) (by omega), cmpR_worth (by omega) (by omega), w1, w2]
  unfold cmpI
  have k1 : wo x + wo z < wo y + wo z ↔ wo x < wo y := by omega
  have k2 : wo y + wo z < wo x + wo z ↔ wo y < wo x := by omega
  simp only [k1, k2]

end Go.Proofs.YtldhebpkplglcaaGreatDoor

namespace Go.Proofs.YtldhebpkplglcaaGreatDoor
open Go.RowKit

theorem TwoD.next {w w' w'' : World} {B : Nat} {x y : D} {N M c1 c2 : Nat} {b1 b2 : Option Addr} (h : TwoD w B w' x y N M b1 c1 b2 c2) (hb : Below w'.heap.size w' w'') : TwoD w B w'' x y N M b1 c1 b2 c2 :=
  ⟨blk_below h.h1 hb, blk_below h.h2 hb, h.l1, h.l2, owns_below h.o1 hb, owns_below h.o2 hb, below_trans h.bel hb⟩

/-- What is held of the world while a statement goes on that reads one cell and ends with a store into block R. -/
theorem keepQ {W0 W w1 : World} {N R : Nat} {x : Value} (h : W.cell? ⟨N, 0, none⟩ = some x ∧ W.frozen? ⟨R, 0, none⟩ = false ∧ W.frozen? ⟨R, 1, none⟩ = false ∧ W.frozen? ⟨R, 2, none⟩ = false ∧ Cells3 W R ∧ But R W0 W) (hb : Below W.heap.size W w1) :
    w1.cell? ⟨N, 0, none⟩ = some x ∧ w1.frozen? ⟨R, 0, none⟩ = false ∧ w1.frozen? ⟨R, 1, none⟩ = false ∧ w1.frozen? ⟨R, 2, none⟩ = false ∧ Cells3 w1 R ∧ But R W0 w1 := by
  obtain ⟨h0, _, _, _, h6, h7⟩ := h
  have c6 := h6.below hb
  exact ⟨((bcell hb).1 _ _ (cell_lt h0)).trans h0, c6.frozen 0, c6.frozen 1, c6.frozen 2, c6, h7.step hb⟩
theorem keepQs {W0 W : World} {N R : Nat} {x : Value} (h : W.cell? ⟨N, 0, none⟩ = some x ∧ W.frozen? ⟨R, 0, none⟩ = false ∧ W.frozen? ⟨R, 1, none⟩ = false ∧ W.frozen? ⟨R, 2, none⟩ = false ∧ Cells3 W R ∧ But R W0 W) (p q r : Value) (hN : N ≠ R) (w1 : World) (hw : w1 = ((W.setCell ⟨R, 0, none⟩ p).setCell ⟨R, 1, none⟩ q).setCell ⟨R, 2, none⟩ r) :
    w1.cell? ⟨N, 0, none⟩ = some x ∧ w1.frozen? ⟨R, 0, none⟩ = false ∧ w1.frozen? ⟨R, 1, none⟩ = false ∧ w1.frozen? ⟨R, 2, none⟩ = false ∧ Cells3 w1 R ∧ But R W0 w1 := by
  subst hw
  obtain ⟨h0, _, _, _, h6, h7⟩ := h
  have c6 := h6.set3 p q r
  have hc : (((W.setCell ⟨R, 0, none⟩ p).setCell ⟨R, 1, none⟩ q).setCell ⟨R, 2, none⟩ r).cell? ⟨N, 0, none⟩ = W.cell? ⟨N, 0, none⟩ := by
    refine World.cell?_of_block ?_
    simp only
    rw [Below.heap_setCell _ _ _ _ hN, Below.heap_setCell _ _ _ _ hN, Below.heap_setCell _ _ _ _ hN]
  exact ⟨hc.trans h0, c6.frozen 0, c6.frozen 1, c6.frozen 2, c6, ((h7.setCell _ _).setCell _ _).setCell _ _⟩

theorem digs_lt {m k : Nat} (h : (Num.digs 10 m).length ≤ k) : m < 10 ^ k := (Num.digs_length_le (by decide)).1 h
theorem digs_shift_le {m p K : Nat} (hm : (Num.digs 10 m).length ≤ 400) (hp : 400 + p ≤ K) : (Num.digs 10 (m * 10 ^ p)).length ≤ K := by
  obtain ⟨k, hk⟩ : ∃ k : Nat, k = 400 := ⟨_, rfl⟩
  rw [← hk] at hm hp
  refine Nat.le_trans ((Num.digs_length_le (k := k + p) (by decide)).2 ?_) hp
  rw [Nat.pow_add]
  exact Nat.mul_lt_mul_of_pos_right (digs_lt hm) (pow_pos10 p)
theorem digs_add_le {X Y K : Nat} (hx : (Num.digs 10 X).length ≤ K) (hy : (Num.digs 10 Y).length ≤ K) : (Num.digs 10 (X + Y)).length ≤ K + 1 := by
  refine (Num.digs_length_le (by decide)).2 ?_
  have h1 := digs_lt hx
  have h2 := digs_lt hy
  rw [Nat.pow_succ]; omega

theorem Cells3.other {W : World} {R N : Nat} (h : Cells3 W R) (hN : N ≠ R) (o : Nat) (u : Value) : Cells3 (W.setCell ⟨N, o, none⟩ u) R := by
  obtain ⟨x, y, z, T, h⟩ := h
  exact ⟨x, y, z, T, by rw [Below.heap_setCell _ _ _ _ (by simpa using Ne.symm hN)]; exact h⟩
theorem plain_bds {g : Bool} {P : Nat} {k : Int} (hP : (Num.digs 10 P).length ≤ 1201) (hk : -10400 ≤ k ∧ k ≤ 10001) : (Num.limbs (plainD g P k).m).length ≤ 10000000 ∧ -3000000 ≤ (plainD g P k).e ∧ (plainD g P k).e ≤ 3000000 := by
  have h1 := plain_e g P k (by omega) (by omega)
  have h2 : (Num.limbs P).length ≤ 134 := limbs_pow hP (by decide)
  have h3 : (Num.limbs (plainD g P k).m).length ≤ 134 := Nat.le_trans (Num.digs_length_mono Num.two_le_B9 (plain_m_le _ _ _)) h2
  exact ⟨by omega, by omega, by omega⟩
theorem limbs_1200 {X : Nat} (h : (Num.digs 10 X).length ≤ 1200) : (Num.limbs X).length ≤ 134 := limbs_pow h (by decide)
theorem digs_sub_le {X Y K : Nat} (hx : (Num.digs 10 X).length ≤ K) : (Num.digs 10 (X - Y)).length ≤ K := Nat.le_trans (Num.digs_length_mono (by decide) (Nat.sub_le _ _)) hx

/-- What is known at the head of what follows 'both'. -/
structure AddAt (w wc : World) (x y : D) (N M : Nat) (b1 : Option Addr) (c1 : Nat) (b2 : Option Addr) (c2 : Nat) : Prop where
  two : TwoD w (w.heap.size + 1 + 1 + 1) wc x y N M b1 c1 b2 c2
  res : Cells3 wc (w.heap.size + 1 + 1)
theorem AddAt.next {w w' w'' : World} {x y : D} {N M c1 c2 : Nat} {b1 b2 : Option Addr} (h : AddAt w w' x y N M b1 c1 b2 c2) (hb : Below w'.heap.size w' w'') : AddAt w w'' x y N M b1 c1 b2 c2 := ⟨h.two.next hb, h.res.below hb⟩

end Go.Proofs.YtldhebpkplglcaaGreatDoor
