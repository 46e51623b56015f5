/- The document's answer, fifth part: To of digits. -/
import Derived.Test.YtmdgciolnpkccaaGreatDoorRefE
namespace Go.Proofs.YtmdgciolnpkccaaGreatDoor
open Go.RowKit

theorem b9_pow' (k : Nat) : 10 ^ (9 * k) = Num.B9 ^ k := by rw [Nat.pow_mul]; rfl
/-- What the digits from place t of a row of nine on are worth. -/
def nine (ds : List Nat) (i t : Nat) : Nat := Num.val 10 ((ds.drop (i + t)).take (9 - t))
theorem nine_end (ds : List Nat) (i : Nat) : nine ds i 9 = 0 := by unfold nine; simp [Num.val_nil]
theorem nine_step (ds : List Nat) (i t : Nat) (ht : t < 9) : nine ds i t = ds.getD (i + t) 0 + 10 * nine ds i (t + 1) := by
  unfold nine
  by_cases h : i + t < ds.length
  · rw [Num.drop_getD h, show 9 - t = (9 - (t + 1)) + 1 by omega, List.take_succ_cons, Num.val_cons, show i + (t + 1) = i + t + 1 by omega]
  · rw [List.drop_of_length_le (by omega), List.drop_of_length_le (by omega)]
    simp [List.getElem?_eq_none (show ds.length ≤ i + t by omega), Num.val_nil]
theorem nine_lt (ds : List Nat) (h : ∀ d ∈ ds, d < 10) (i t : Nat) (ht : t ≤ 9) : nine ds i t < 10 ^ (9 - t) := by
  refine Nat.lt_of_lt_of_le (Num.val_lt (b := 10) (by decide) _ (fun x hx => h x (List.mem_of_mem_drop (List.mem_of_mem_take hx)))) (Nat.pow_le_pow_right (by decide) (by simp; omega))
theorem nine_join (ds : List Nat) (j : Nat) (hj : 9 * j ≤ ds.length) : Num.val 10 (ds.take (9 * (j + 1))) = Num.val 10 (ds.take (9 * j)) + nine ds (9 * j) 0 * Num.B9 ^ j := by
  rw [show 9 * (j + 1) = 9 * j + 9 by omega, List.take_add, Num.val_append, ← b9_pow', List.length_take, Nat.min_eq_left hj]
  unfold nine
  rw [Nat.mul_comm (10 ^ (9 * j))]; rfl
theorem limbs_of_worth {m j : Nat} {out : List Nat} (hl : out.length = j) (h9 : ∀ x ∈ out, x < 1000000000) (hw : Num.worth out = m) (hlo : j = 0 ∨ 10 ^ (9 * (j - 1)) ≤ m) : out = Num.limbs m := by
  have hlt := Num.val_lt (b := Num.B9) (by decide) out h9
  rw [hl, show Num.val Num.B9 out = m from hw] at hlt
  have h1 : (Num.limbs m).length ≤ j := limbs_length_le.2 hlt
  have h2 : j ≤ (Num.limbs m).length := by
    rcases hlo with h | h
    · omega
    · by_cases hle : (Num.limbs m).length ≤ j - 1
      · have := limbs_length_le.1 hle
        rw [b9_pow'] at h
        omega
      · omega
  exact Num.val_inj (b := Num.B9) _ _ h9 (Num.limbs_lt m) (by omega) (by show Num.worth out = Num.worth _; rw [hw, Num.worth_limbs])

set_option maxRecDepth 100000 in
set_option maxHeartbeats 1600000 in
theorem ref1_To (a : Option Addr) (cap m : Nat) (w : World) (h : U8 w a (Num.digs 10 m)) (hm : (Num.digs 10 m).length ≤ 1000000) :
    Calls Tryz.prog 162 #[.slice a (Num.digs 10 m).length cap] w (OutU w (Num.limbs m)) := by
  obtain ⟨ds, hds⟩ : ∃ ds, ds = Num.digs 10 m := ⟨_, rfl⟩
  have hlo : ∀ k, k < ds.length → 10 ^ k ≤ m := fun k hk => Num.pow_le_of_lt_length (by decide) (by rw [← hds]; exact hk)
  have hval : Num.val 10 ds = m := by rw [hds]; exact Num.val_digs (by decide) m
  rw [← hds] at h hm ⊢
  have CD := fun W k (hb : Below w.heap.size w W) => ref1_digit a cap k ds W (h.below hb) (by omega)
  have BD := fun k => h.getD_lt k
  have NL := fun i t (ht : t ≤ 9) => nine_lt ds h.lt i t ht
  obtain ⟨n, hn⟩ : ∃ n, n = ds.length := ⟨_, rfl⟩
  rw [← hn] at CD hm hlo ⊢
  replace CD := hid CD
  replace BD := hid BD
  replace NL := hid NL
  have HN := hid hn
  have HLO := hid hlo
  have HV := hid hval
  clear h hds hn hlo hval
  go_enter Tryz.func162, Tryz.ntmps162
  go_wp2
  go_loopw [3, 4, 5, 6] (fun v i _ _ wr => ∃ (j : Nat) (out : List Nat), 9 * j ≤ n + 8 ∧ i = .int .i64 ((9 * j : Nat) : Int) ∧ out.length = j ∧ (∀ x ∈ out, x < 1000000000) ∧ Num.worth out = Num.val 10 (ds.take (9 * j)) ∧ wr.ownsRow w.heap.size 70 1 v j (u32s out) ∧ Below w.heap.size w wr) (fun _ i _ _ _ => n + 9 - (intOf i).toNat)
  case atStart => exact ⟨0, [], by omega, rfl, rfl, by simp, rfl, World.ownsRow_nil _ _ _ _, Below.refl _ _⟩
  case round =>
    obtain ⟨j, out, hj, rfl, hl, h9, hw, hown, hb⟩ := hrel
    have HL := hid hl
    have H9 := hid h9
    have HW := hid hw
    have HO := hid hown
    have HB := hid hb
    clear hl h9 hw hown hb
    obtain ⟨I, hI⟩ : ∃ I, I = 9 * j := ⟨_, rfl⟩
    rw [← hI] at hj ⊢
    have hjb : j ≤ 200000 := by omega
    have HI := hid hI
    clear hI
    by_cases hgo : I < n
    · obtain ⟨wo, rfl⟩ : ∃ wo : World, wo = wr := ⟨_, rfl⟩
      have CD1 := fun t => CD.out wo (I + t) HB.out
      replace CD1 := hid CD1
      go_wp2
      go_loop [5, 6] (fun nn kk => ∃ t : Nat, t ≤ 9 ∧ kk = .int .i64 ((t : Int) - 1) ∧ nn = .int .u32 ((nine ds I t : Nat) : Int)) (fun _ kk => (intOf kk + 1).toNat)
      case atStart => exact ⟨9, Nat.le_refl _, rfl, by rw [nine_end]; rfl⟩
      case round =>
        obtain ⟨t, ht, rfl, rfl⟩ := hrel
        by_cases ht0 : t = 0
        · subst ht0
          have hnl := NL.out I 0 (by omega)
          have hjoin := nine_join ds j (by rw [← HI.out, ← HN.out]; omega)
          rw [← HI.out] at hjoin
          have HJ := hid hjoin
          obtain ⟨V, hV⟩ : ∃ V, V = nine ds I 0 := ⟨_, rfl⟩
          rw [← hV] at hnl HJ ⊢
          have hV9 : V < 1000000000 := hnl
          have hown := HO.out
          have hsz := HB.out.size
          clear hV hnl hjoin HO
          go_wp2_with (at_builtin; refine wpList_push Tryz.u32Slice rfl _ _ rfl w.heap.size (w0 := wo) hown rfl rfl rfl (by unfold maxLen; omega) (by omega) hsz ?_; intro v' w3 hown' hb')
          have HO3 := hid (show w3.ownsRow w.heap.size 70 1 v' (j + 1) (u32s (out ++ [V])) by simpa [u32s] using hown')
          have HB3 := hid (HB.out.trans hb')
          clear hown hown' hb'
          go_wp2
          go_roundw
          case rel =>
            refine ⟨j + 1, out ++ [V], by have := HI.out; omega, by have := HI.out; go_num, by simp [HL.out], ?_, ?_, HO3.out, HB3.out⟩
            · intro y hy
              rcases List.mem_append.1 hy with h | h
              · exact H9.out y h
              · simp at h; omega
            · have hw2 := HW.out
              rw [← HI.out] at hw2
              rw [HJ.out, ← hw2]
              unfold Num.worth
              rw [Num.val_snoc, HL.out, Nat.mul_comm]
          case measure => simp [intOf]; omega
        · obtain ⟨s, rfl⟩ : ∃ s, t = s + 1 := ⟨t - 1, by omega⟩
          have e1 : ((s + 1 : Nat) : Int) - 1 = (s : Int) := by omega
          rw [e1]
          have hst := nine_step ds I s (by omega)
          have bd := BD.out (I + s)
          have hnl := NL.out I s (by omega)
          have hpow : 10 ^ (9 - s) ≤ 10 ^ 9 := Nat.pow_le_pow_right (by decide) (by omega)
          have CD2 := CD1.out s
          obtain ⟨d, hd⟩ : ∃ d, d = ds.getD (I + s) 0 := ⟨_, rfl⟩
          obtain ⟨V, hV⟩ : ∃ V, V = nine ds I (s + 1) := ⟨_, rfl⟩
          rw [← hd] at CD2 bd hst
          rw [← hV] at hst ⊢
          have hV9 : 10 * V + d < 1000000000 := by
            have : nine ds I s < 1000000000 := Nat.lt_of_lt_of_le hnl hpow
            omega
          have HST := hid hst
          have w1 := hid (show ((I : Int) + s) = ((I + s : Nat) : Int) by omega)
          replace CD2 := hid CD2
          clear hd hV hst hnl hpow e1
          go_wp2_with fail
          rw [w1.out]
          refine (CD2.out).mono ?_
          rintro e1 w1 ⟨rfl, rfl⟩
          clear w1
          go_wp2
          go_round
          case rel => exact ⟨s, by omega, rfl, by rw [HST.out]; go_num⟩
          case measure => simp [intOf]
    · have hT : ds.take I = ds := List.take_of_length_le (by rw [← HN.out]; omega)
      have hout : out = Num.limbs m := by
        refine limbs_of_worth HL.out H9.out ?_ ?_
        · rw [HW.out, ← HI.out, hT, HV.out]
        · by_cases hj0 : j = 0
          · exact .inl hj0
          · exact .inr (HLO.out _ (by have := HI.out; omega))
      have hown := HO.out
      obtain ⟨a', cap', rfl, _, _⟩ := owns_row hown
      have hjl : j = (Num.limbs m).length := by rw [← hout]; exact HL.out.symm
      have HO2 := hid (show wr.ownsRow w.heap.size 70 1 (.slice a' (Num.limbs m).length cap') (Num.limbs m).length (u32s (Num.limbs m)) by rw [← hjl, ← hout]; exact hown)
      have HJL := hid hjl
      clear hT hout hown hjl HO
      go_wp2
      go_ret
      exact ⟨a', cap', by rw [← HJL.out]; rfl, HB.out, HO2.out⟩

end Go.Proofs.YtmdgciolnpkccaaGreatDoor
