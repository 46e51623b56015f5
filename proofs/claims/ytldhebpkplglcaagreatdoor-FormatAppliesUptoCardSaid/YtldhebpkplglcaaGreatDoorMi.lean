/- What is written is read again: plain laws, second part. -/
import Derived.Test.YtldhebpkplglcaaGreatDoorMe
namespace Go.Proofs.YtldhebpkplglcaaGreatDoor
open Go.RowKit

theorem small_dec (n : Nat) (hn : n < 10 ^ 6) : smallN (Lib.decDigits n) = n := by
  have hl := Num.decDigits_le n 6 (by decide) hn
  by_cases h0 : n = 0
  · subst h0
    rw [Num.decDigits_zero]; rfl
  · obtain ⟨c, r, e, hc⟩ := decD_head h0
    have e2 : Lib.trimLeftB (Lib.decDigits n) 48 = Lib.decDigits n := by
      unfold Lib.trimLeftB
      rw [e, List.dropWhile_cons, if_neg (by simpa using hc)]
    unfold smallN
    rw [e2, if_neg (by omega), num10_dec]

theorem tail_itoa (h : Int) (h1 : -10000 ≤ h) (h2 : h ≤ 10000) : tailL (101 :: Lib.itoa h) = some h := by
  have hd := fun n => take_join (Lib.decDigits n) [] (dec_digs_all n) noD_nil
  simp only [List.append_nil] at hd
  have hne : ∀ n, Lib.decDigits n ≠ [] := fun n e => by have := Num.decDigits_pos n; rw [e] at this; simp at this
  unfold tailL
  simp only [show (101 : UInt8).toNat = 101 ∨ (101 : UInt8).toNat = 69 from .inl rfl, if_true]
  by_cases hn : h < 0
  · have e1 : Lib.itoa h = 45 :: Lib.decDigits h.natAbs := by unfold Lib.itoa; rw [if_pos hn]
    have e2 : Lib.hasPrefix (45 :: Lib.decDigits h.natAbs) [45] = true := by simp [Lib.hasPrefix, List.isPrefixOf]
    have e3 : Lib.trimPrefix (45 :: Lib.decDigits h.natAbs) [45] = Lib.decDigits h.natAbs := by unfold Lib.trimPrefix; rw [if_pos e2]; rfl
    rw [e1]
    simp only [e2, if_true, e3, (hd _).1, (hd _).2]
    rw [if_neg (by simp [hne]), small_dec _ (by omega)]
    congr 1; omega
  · have e1 : Lib.itoa h = Lib.decDigits h.toNat := by unfold Lib.itoa; rw [if_neg hn]
    obtain ⟨c, r, e⟩ : ∃ c r, Lib.decDigits h.toNat = c :: r := by
      cases hh : Lib.decDigits h.toNat with | nil => exact absurd hh (hne _) | cons c r => exact ⟨c, r, rfl⟩
    have hc := dec_digs_all h.toNat c (by rw [e]; simp)
    have e2 : Lib.hasPrefix (Lib.decDigits h.toNat) [45] = false := by
      rw [e]; simp [Lib.hasPrefix, List.isPrefixOf]
      intro e; rw [← e] at hc; exact absurd hc.1 (by decide)
    have e3 : Lib.trimPrefix (Lib.decDigits h.toNat) [43] = Lib.decDigits h.toNat := by
      unfold Lib.trimPrefix
      rw [if_neg]
      rw [e]; simp [Lib.hasPrefix, List.isPrefixOf]
      intro e; rw [← e] at hc; exact absurd hc.1 (by decide)
    rw [e1]
    simp only [e2, Bool.false_eq_true, if_false, e3, (hd _).1, (hd _).2]
    rw [if_neg (by simp [hne]), small_dec _ (by omega)]
    congr 1; omega

theorem parse_of {l wh be : List UInt8} {x : Int} {d : D} (j : Nat) (hp : IsPlain d) (hf : fitsB d = true) (hs : scanL l = some (d.neg, wh, be, x)) (hl : l.length ≤ 1000)
    (hm : num10 (wh ++ be) 0 = d.m * 10 ^ j) (hx : x - be.length = d.e - j) : parseR l = (d, 0) := by
  unfold parseR
  rw [hs]
  simp only
  rw [if_neg (by omega), hm, hx, plainD_mul hp, if_pos hf]

theorem tail_nil : tailL [] = some 0 := rfl

theorem text_parse {d : D} (hp : IsPlain d) (hf : fitsB d = true) : parseR (textL d) = (d, 0) ∧ (textL d).length ≤ 1000 := by
  by_cases h0 : d.m = 0
  · rw [hp.1 h0]; exact ⟨rfl, by decide⟩
  · obtain ⟨b1, b2, b3⟩ := fits_iff hf h0
    obtain ⟨M, hM⟩ : ∃ M, M = Lib.decDigits d.m := ⟨_, rfl⟩
    have hMl : M.length = (Num.digs 10 d.m).length := by rw [hM]; exact Num.decDigits_len _ h0
    have hMd : Digs M := by rw [hM]; exact dec_digs_all _
    have hMn : num10 M 0 = d.m := by rw [hM]; exact num10_dec _
    obtain ⟨c, r, hcr, hc⟩ : ∃ c r, M = c :: r ∧ c ≠ 48 := by rw [hM]; exact decD_head h0
    have ht : textL d = (if d.neg = true then [45] else []) ++ figL M d.e (d.e + M.length - 1) := by
      unfold textL; rw [if_neg h0, ← hM, hMl]
    have hsg : (if d.neg = true then [(45 : UInt8)] else []).length ≤ 1 := by split <;> simp
    have hMpos : 1 ≤ M.length := by rw [hcr]; simp
    rw [ht]
    rw [← hMl] at b1 b2 b3
    obtain ⟨h, hh⟩ : ∃ h, h = d.e + M.length - 1 := ⟨_, rfl⟩
    rw [← hh] at b2 b3 ⊢
    unfold figL
    by_cases hA : 0 ≤ d.e ∧ h ≤ 20
    · rw [if_pos hA]
      have S := scan_join d.neg (M ++ List.replicate d.e.toNat 48) [] [] (fun x hx => (List.mem_append.1 hx).elim (hMd x) (fun hx => by rw [List.eq_of_mem_replicate hx]; exact ⟨by decide, by decide⟩)) (by rw [hcr]; simp) (by rw [hcr]; simp [hc]) (fun x hx => by simp at hx) noD_nil rfl
      simp only [if_true, List.append_nil, tail_nil, Option.map_some] at S
      have hlen : ((if d.neg = true then [(45 : UInt8)] else []) ++ (M ++ List.replicate d.e.toNat 48)).length ≤ 1000 := by
        simp only [List.length_append, List.length_replicate]; omega
      refine ⟨parse_of d.e.toNat hp hf S hlen ?_ ?_, hlen⟩
      · rw [List.append_nil, num10_append, hMn, num10_zeros]
      · simp; omega
    · rw [if_neg hA]
      by_cases hB : d.e < 0 ∧ -7 ≤ h
      · rw [if_pos hB]
        simp only
        obtain ⟨zn, hzn⟩ : ∃ zn, zn = (1 - d.e - M.length).toNat := ⟨_, rfl⟩
        rw [← hzn]
        obtain ⟨z, hz⟩ : ∃ z, z = List.replicate zn 48 ++ M := ⟨_, rfl⟩
        rw [← hz]
        have hzl : z.length = zn + M.length := by rw [hz]; simp
        obtain ⟨p, hpp⟩ : ∃ p, p = (z.length + d.e).toNat := ⟨_, rfl⟩
        rw [← hpp]
        have hp1 : 1 ≤ p := by omega
        have hpl : p < z.length := by omega
        have hpe : (z.length : Int) - p = - d.e := by omega
        have hzd : Digs z := fun x hx => by
          rw [hz] at hx
          exact (List.mem_append.1 hx).elim (fun hx => by rw [List.eq_of_mem_replicate hx]; exact ⟨by decide, by decide⟩) (hMd x)
        have hzm : num10 z 0 = d.m := by rw [hz, num10_append, num10_zeros, Nat.zero_mul, hMn]
        have hbe : z.drop p ≠ [] := by intro e; have := congrArg List.length e; simp at this; omega
        have S := scan_join d.neg (z.take p) (z.drop p) [] (fun x hx => hzd x (List.mem_of_mem_take hx)) (by intro e; have := congrArg List.length e; rw [List.length_take, List.length_nil] at this; omega) (by
          rintro ⟨k1, k2⟩
          rw [List.length_take] at k1
          have hz0 : zn = 0 := by omega
          rw [hz, hz0, hcr] at k2
          cases p with
          | zero => omega
          | succ p => simp at k2; exact hc k2) (fun x hx => hzd x (List.mem_of_mem_drop hx)) noD_nil rfl
        rw [if_neg hbe] at S
        simp only [List.append_nil, tail_nil, Option.map_some] at S
        have hlen : ((if d.neg = true then [(45 : UInt8)] else []) ++ (z.take p ++ 46 :: z.drop p)).length ≤ 1000 := by
          simp only [List.length_append, List.length_cons, List.length_take, List.length_drop]; omega
        refine ⟨parse_of 0 hp hf S hlen ?_ ?_, hlen⟩
        · rw [List.take_append_drop, hzm]; simp
        · rw [List.length_drop]; omega
      · rw [if_neg hB]
        have e1 : (if 1 < M.length then M.take 1 ++ 46 :: M.drop 1 else M) = [c] ++ (if r = [] then [] else 46 :: r) := by
          rw [hcr]
          cases r with
          | nil => simp
          | cons a r => simp
        rw [e1]
        have S := scan_join d.neg [c] r (101 :: Lib.itoa h) (fun x hx => by rw [List.mem_singleton] at hx; subst hx; exact hMd x (by rw [hcr]; simp)) (by simp) (by simp) (fun x hx => hMd x (by rw [hcr]; simp [hx])) (noD_cons (by decide)) (by simp [Lib.hasPrefix, List.isPrefixOf])
        rw [tail_itoa h (by omega) (by omega)] at S
        simp only [Option.map_some, ← List.append_assoc] at S
        simp only [← List.append_assoc]
        have hit := itoa_len h ⟨by omega, by omega⟩
        have hrl : r.length + 1 = M.length := by rw [hcr]; simp
        have hr2 : (if r = [] then [] else (46 : UInt8) :: r).length ≤ r.length + 1 := by split <;> simp
        have hlen : ((if d.neg = true then [(45 : UInt8)] else []) ++ [c] ++ (if r = [] then [] else 46 :: r) ++ 101 :: Lib.itoa h).length ≤ 1000 := by
          simp only [List.length_append, List.length_cons, List.length_nil]; omega
        refine ⟨parse_of 0 hp hf S hlen ?_ ?_, hlen⟩
        · rw [show [c] ++ r = M by rw [hcr]; rfl, hMn]; simp
        · omega

end Go.Proofs.YtldhebpkplglcaaGreatDoor
