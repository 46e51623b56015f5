/- What is written is read again: plain laws. -/
import Derived.Test.YtmdgciolnpkccaaGreatDoorDecJ
import Derived.Test.YtmdgciolnpkccaaGreatDoorDecF
namespace Go.Proofs.YtmdgciolnpkccaaGreatDoor
open Go.RowKit

theorem tz_zero : tz 0 = 0 := rfl
theorem tz_mod {m : Nat} (h : m % 10 ≠ 0) : tz m = 0 := by
  have hm : m ≠ 0 := fun e => h (by rw [e])
  unfold tz
  rw [Num.digs_pos (by decide) hm, List.takeWhile_cons]
  simp [h]
theorem tz_ten {m : Nat} (hm : m ≠ 0) : tz (10 * m) = 1 + tz m := by
  unfold tz
  rw [Num.digs_pos (by decide) (show 10 * m ≠ 0 by omega), List.takeWhile_cons, Nat.mul_mod_right, Nat.mul_div_cancel_left m (by decide)]
  simp; omega
theorem tz_pow {m : Nat} (hm : m ≠ 0) (k : Nat) : tz (m * 10 ^ k) = k + tz m := by
  induction k with
  | zero => simp
  | succ k ih =>
    have h0 : m * 10 ^ k ≠ 0 := Nat.mul_ne_zero hm (Nat.ne_of_gt (Nat.pow_pos (by decide)))
    rw [Nat.pow_succ, ← Nat.mul_assoc, Nat.mul_comm, tz_ten h0, ih]; omega
theorem tz_split {m : Nat} (hm : m ≠ 0) : m / 10 ^ tz m * 10 ^ tz m = m ∧ tz (m / 10 ^ tz m) = 0 ∧ m / 10 ^ tz m ≠ 0 := by
  induction m using Num.digs_ind (b := 10) (by decide) with
  | h0 => exact absurd rfl hm
  | h1 m hm' ih =>
    by_cases h : m % 10 = 0
    · obtain ⟨q, hq⟩ : ∃ q, q = m / 10 := ⟨_, rfl⟩
      have hmq : m = 10 * q := by omega
      have hq0 : q ≠ 0 := by omega
      rw [← hq] at ih
      obtain ⟨i1, i2, i3⟩ := ih hq0
      have e : m / 10 ^ tz m = q / 10 ^ tz q := by
        rw [hmq, tz_ten hq0, Nat.pow_add, Nat.pow_one, Nat.mul_div_mul_left _ _ (by decide)]
      rw [e]
      refine ⟨?_, i2, i3⟩
      rw [hmq, tz_ten hq0, Nat.pow_add, Nat.pow_one, Nat.mul_comm 10 (10 ^ _), ← Nat.mul_assoc, i1, Nat.mul_comm]
    · rw [tz_mod h]; simp [tz_mod h, hm]

/-- A number is plain. -/
def IsPlain (d : D) : Prop := (d.m = 0 → d = zeroD) ∧ tz d.m = 0
theorem plain_zero : IsPlain zeroD := ⟨fun _ => rfl, rfl⟩
theorem plainD_zero (g : Bool) (e : Int) : plainD g 0 e = zeroD := by unfold plainD; rw [if_pos rfl]; rfl
theorem plainD_plain (g : Bool) (m : Nat) (e : Int) : IsPlain (plainD g m e) := by
  by_cases h : m = 0
  · subst h; rw [plainD_zero]; exact plain_zero
  · have := tz_split h
    unfold plainD
    rw [if_neg h]
    exact ⟨fun e => absurd e this.2.2, this.2.1⟩
theorem plainD_mul {d : D} (h : IsPlain d) (k : Nat) : plainD d.neg (d.m * 10 ^ k) (d.e - k) = d := by
  by_cases h0 : d.m = 0
  · rw [h0, Nat.zero_mul, plainD_zero, h.1 h0]
  · have hp : 10 ^ k ≠ 0 := Nat.ne_of_gt (Nat.pow_pos (by decide))
    unfold plainD
    rw [if_neg (Nat.mul_ne_zero h0 hp), tz_pow h0, h.2]
    cases d
    simp only [Nat.add_zero, D.mk.injEq, true_and]
    exact ⟨Nat.mul_div_cancel _ (Nat.pos_of_ne_zero hp), by omega⟩
theorem plainD_self {d : D} (h : IsPlain d) : plainD d.neg d.m d.e = d := by simpa using plainD_mul h 0

/-- What was taken is taken as it is. -/
theorem plain_bounds {d : D} (h : IsPlain d) (hf : fitsB d = true) : (Num.digs 10 d.m).length ≤ 400 ∧ -10400 ≤ d.e ∧ d.e ≤ 10001 := by
  by_cases h0 : d.m = 0
  · rw [h.1 h0]; exact ⟨by decide, by decide, by decide⟩
  · obtain ⟨h1, h2, h3⟩ := fits_iff hf h0
    omega
theorem limbs_400 {m : Nat} (h : (Num.digs 10 m).length ≤ 400) : (Num.limbs m).length ≤ 45 := limbs_pow h (by decide)
theorem taken_self {d : D} (h : IsPlain d) (hf : fitsB d = true) : takenE d.neg (Num.limbs d.m).length (Num.worth (Num.limbs d.m)) d.e = 0 ∧ takenD d.neg (Num.limbs d.m).length (Num.worth (Num.limbs d.m)) d.e = d := by
  obtain ⟨b1, b2, b3⟩ := plain_bounds h hf
  have b4 := limbs_400 b1
  have hn : nearB (Num.limbs d.m).length d.e = true := nearB_iff.2 ⟨by omega, by omega, by omega⟩
  unfold takenE takenD
  rw [if_pos hn, if_pos hn, Num.worth_limbs, plainD_self h, if_pos hf, if_pos hf]
  exact ⟨rfl, rfl⟩
theorem may_self {d : D} (h : IsPlain d) (hf : fitsB d = true) : mayB d.neg (Num.limbs d.m) d.e = true := by
  obtain ⟨h1, h2⟩ := taken_self h hf
  unfold mayB
  rw [h1, h2]
  simp
theorem taken_facts {g : Bool} {n m : Nat} {e : Int} (h : takenE g n m e = 0) : IsPlain (takenD g n m e) ∧ fitsB (takenD g n m e) = true := by
  obtain ⟨_, h2, h3⟩ := taken_zero h
  rw [h2]
  exact ⟨plainD_plain _ _ _, h3⟩
theorem parse_facts {l : List UInt8} (h : (parseR l).2 = 0) : IsPlain (parseR l).1 ∧ fitsB (parseR l).1 = true := by
  unfold parseR at h ⊢
  split at h
  · cases h
  · split at h
    · cases h
    · rename_i h1
      rw [if_neg h1]
      split at h
      · rename_i h2
        rw [if_pos h2]
        exact ⟨plainD_plain _ _ _, h2⟩
      · cases h
theorem parse_zero {l : List UInt8} (h : (parseR l).2 ≠ 0) : (parseR l).1 = zeroD := by
  unfold parseR at h ⊢
  split at h
  · rfl
  · split at h
    · rename_i h1; rw [if_pos h1]
    · rename_i h1
      rw [if_neg h1]
      split at h
      · exact absurd rfl h
      · rename_i h2; rw [if_neg h2]

/- The text. -/
theorem isD_chr {d : Nat} (h : d < 10) : isD (Num.chr d) = true := by
  have : d = 0 ∨ d = 1 ∨ d = 2 ∨ d = 3 ∨ d = 4 ∨ d = 5 ∨ d = 6 ∨ d = 7 ∨ d = 8 ∨ d = 9 := by omega
  rcases this with rfl | rfl | rfl | rfl | rfl | rfl | rfl | rfl | rfl | rfl <;> rfl
theorem chr_val {d : Nat} (h : d < 10) : (UInt8.ofNat (48 + d)).toNat - 48 = d := by
  have : d = 0 ∨ d = 1 ∨ d = 2 ∨ d = 3 ∨ d = 4 ∨ d = 5 ∨ d = 6 ∨ d = 7 ∨ d = 8 ∨ d = 9 := by omega
  rcases this with rfl | rfl | rfl | rfl | rfl | rfl | rfl | rfl | rfl | rfl <;> rfl
theorem dec_digs_all (m : Nat) : Digs (Lib.decDigits m) := by
  induction m using Nat.strongRecOn with
  | ind m ih =>
    rw [Lib.decDigits]
    split
    · intro c hc; rw [List.mem_singleton] at hc; subst hc; exact isD_iff.1 (isD_chr (by omega))
    · intro c hc
      rcases List.mem_append.1 hc with h | h
      · exact ih (m / 10) (by omega) c h
      · rw [List.mem_singleton] at h; subst h; exact isD_iff.1 (isD_chr (Nat.mod_lt _ (by decide)))
theorem num10_dec (m : Nat) : num10 (Lib.decDigits m) 0 = m := by
  induction m using Nat.strongRecOn with
  | ind m ih =>
    rw [Lib.decDigits]
    split
    · simp only [num10]; rw [chr_val (by omega)]; omega
    · rw [num10_append, ih (m / 10) (by omega)]
      simp only [num10]
      rw [chr_val (Nat.mod_lt _ (by decide))]; omega
theorem num10_zeros (k n : Nat) : num10 (List.replicate k 48) n = n * 10 ^ k := by
  induction k generalizing n with
  | zero => simp [num10]
  | succ k ih =>
    rw [List.replicate_succ]; simp only [num10]
    rw [ih, Nat.pow_succ, show (48 : UInt8).toNat - 48 = 0 by rfl, Nat.add_zero, Nat.mul_comm 10 n, Nat.mul_assoc, Nat.mul_comm 10 (10 ^ k)]
theorem decD_head {m : Nat} (hm : m ≠ 0) : ∃ c r, Lib.decDigits m = c :: r ∧ c ≠ 48 := by
  obtain ⟨zs, y, e, hy⟩ := Num.digs_last (b := 10) (by decide) m hm
  refine ⟨Num.chr y, (zs.map Num.chr).reverse, by rw [Num.decDigits_digs m hm, e]; simp, ?_⟩
  have hlt : y < 10 := Num.digs_lt (b := 10) (by decide) m y (by rw [e]; simp)
  intro h
  have := Go.Proofs.YtmdgciolnpkccaaGreatDoor.chr_zero hlt
  rw [h] at this
  simp at this
  exact hy this

/-- What does not open with a digit. -/
def NoD (l : List UInt8) : Prop := ∀ c r, l = c :: r → isD c = false
theorem take_join (a b : List UInt8) (ha : Digs a) (hb : NoD b) : (a ++ b).takeWhile isD = a ∧ (a ++ b).dropWhile isD = b := by
  induction a with
  | nil =>
    cases b with
    | nil => exact ⟨rfl, rfl⟩
    | cons c r => simp [hb c r rfl]
  | cons c a ih =>
    have h0 := isD_iff.2 (ha c (by simp))
    obtain ⟨i1, i2⟩ := ih (fun d hd => ha d (by simp [hd]))
    simp [h0, i1, i2]
theorem noD_nil : NoD [] := fun _ _ h => by cases h
theorem noD_cons {c : UInt8} {r : List UInt8} (h : isD c = false) : NoD (c :: r) := fun d s e => by cases e; exact h

theorem scan_join (g : Bool) (wh be tl : List UInt8) (hw : Digs wh) (h0 : wh ≠ []) (h1 : ¬ (1 < wh.length ∧ wh.head? = some 48)) (hb : Digs be) (ht : NoD tl) (ht2 : Lib.hasPrefix tl [46] = false) :
    scanL ((if g = true then [45] else []) ++ (wh ++ ((if be = [] then [] else 46 :: be) ++ tl))) = (tailL tl).map fun x => (g, wh, be, x) := by
  obtain ⟨c, r, hcr⟩ : ∃ c r, wh = c :: r := by cases wh with | nil => exact absurd rfl h0 | cons c r => exact ⟨c, r, rfl⟩
  have hc45 : c ≠ 45 := fun e => by
    have := hw c (by rw [hcr]; simp)
    rw [e] at this; exact absurd this.1 (by decide)
  obtain ⟨X, hX⟩ : ∃ X, X = (if be = [] then [] else 46 :: be) ++ tl := ⟨_, rfl⟩
  have hXn : NoD X := by
    rw [hX]
    by_cases h : be = []
    · rw [if_pos h]; exact ht
    · rw [if_neg h]; exact noD_cons (by decide)
  have e1 : Lib.hasPrefix ((if g = true then [45] else []) ++ (wh ++ X)) [45] = g := by
    unfold Lib.hasPrefix
    cases g
    · rw [hcr]; simp [List.isPrefixOf]; exact fun h => hc45 h.symm
    · simp [List.isPrefixOf]
  have e2 : Lib.trimPrefix ((if g = true then [45] else []) ++ (wh ++ X)) [45] = wh ++ X := by
    unfold Lib.trimPrefix
    rw [e1]
    cases g <;> simp
  obtain ⟨e3, e4⟩ := take_join wh X hw hXn
  unfold scanL
  rw [← hX]
  simp only [e1, e2, e3, e4]
  rw [if_neg (fun h => h.elim h0 h1), hX]
  by_cases h : be = []
  · subst h
    simp only [if_true, List.nil_append]
    rw [if_neg (by simp [ht2])]
  · rw [if_neg h]
    have e5 : Lib.hasPrefix (46 :: be ++ tl) [46] = true := by simp [Lib.hasPrefix, List.isPrefixOf]
    have e6 : Lib.trimPrefix (46 :: be ++ tl) [46] = be ++ tl := by unfold Lib.trimPrefix; rw [if_pos e5]; rfl
    obtain ⟨e7, e8⟩ := take_join be tl hb ht
    rw [if_pos e5, e6, e7, e8, if_neg h]

end Go.Proofs.YtmdgciolnpkccaaGreatDoor
