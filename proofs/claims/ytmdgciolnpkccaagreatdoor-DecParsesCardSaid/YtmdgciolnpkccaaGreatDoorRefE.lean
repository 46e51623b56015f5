/- The document's answer, fourth part: Sub, Cmp, Shift of digits. -/
import Derived.Test.YtmdgciolnpkccaaGreatDoorRefD
namespace Go.Proofs.YtmdgciolnpkccaaGreatDoor
open Go.RowKit

/-- What holds at the head of a round of 'Sub'. -/
def SubR (w : World) (xs ys : List Nat) (C k : Nat) (v : Value) (wr : World) : Prop :=
  ∃ out : List Nat, out.length = k ∧ (∀ x ∈ out, x < 10) ∧ Num.val 10 out + Num.val 10 (ys.take k) = Num.val 10 (xs.take k) + C * 10 ^ k ∧ wr.ownsRow w.heap.size 5 1 v k (u8s out) ∧ Below w.heap.size w wr
theorem SubR.push {w w1 : World} {xs ys out : List Nat} {C C' k T : Nat} {v' : Value} {x : Int} (h1 : out.length = k) (h2 : ∀ x ∈ out, x < 10) (h3 : Num.val 10 out + Num.val 10 (ys.take k) = Num.val 10 (xs.take k) + C * 10 ^ k)
    (hT : T + ys.getD k 0 + C = xs.getD k 0 + C' * 10) (hT9 : T < 10) (hx : x = (T : Int)) (hown : w1.ownsRow w.heap.size 5 1 v' (k + 1) (u8s out ++ [.int .u8 x])) (hb : Below w.heap.size w w1) : SubR w xs ys C' (k + 1) v' w1 := by
  subst hx
  refine ⟨out ++ [T], by simp [h1], ?_, ?_, by simpa [u8s] using hown, hb⟩
  · intro y hy
    rcases List.mem_append.1 hy with h | h
    · exact h2 y h
    · simp at h; omega
  · rw [Num.val_snoc, h1, Num.val_take_succ, Num.val_take_succ, Nat.pow_succ]
    obtain ⟨P, hP⟩ : ∃ P, P = 10 ^ k := ⟨_, rfl⟩
    rw [← hP] at h3 ⊢
    have e1 : P * (T + ys.getD k 0 + C) = P * (xs.getD k 0 + C' * 10) := by rw [hT]
    rw [Nat.mul_add, Nat.mul_add, Nat.mul_add, Nat.mul_comm P C, show P * (C' * 10) = C' * (P * 10) by ac_rfl] at e1
    omega

set_option maxRecDepth 100000 in
set_option maxHeartbeats 1600000 in
theorem r_Sub_some (b off n cap : Nat) (a2 : Option Addr) (cap2 : Nat) (xs ys : List Nat) (w : World) (hx : xs.length = n) (h : U8 w (some ⟨b, off, none⟩) xs) (h2 : U8 w a2 ys) (hn : n ≤ 1000000000) (hn2 : ys.length ≤ n) (hv : Num.val 10 ys ≤ Num.val 10 xs) :
    Calls Tryz.prog 161 #[.slice (some ⟨b, off, none⟩) n cap, .slice a2 ys.length cap2] w (OutR8 w (Num.digs 10 (Num.val 10 xs - Num.val 10 ys))) := by
  have CX := fun j (hj : j < n) => h.row.u8 (j := j) (by omega)
  have CY := fun W k (hb : Below w.heap.size w W) => ref1_digit a2 cap2 k ys W (h2.below hb) (by omega)
  have BX := fun k => h.getD_lt k
  have BY := fun k => h2.getD_lt k
  obtain ⟨n2, hny⟩ : ∃ n, n = ys.length := ⟨_, rfl⟩
  rw [← hny] at CY hn2 ⊢
  replace CX := hid CX
  replace CY := hid CY
  replace BX := hid BX
  replace BY := hid BY
  have HX := hid hx
  have HNY := hid hny
  have HV := hid hv
  clear h h2 hx hny hv
  go_enter Tryz.func161, Tryz.ntmps161
  go_wp2
  go_loopw [5, 6, 7, 8] (fun v c i _ wr => ∃ (k C : Nat), k ≤ n ∧ i = .int .i64 k ∧ c = .int .i64 C ∧ C ≤ 1 ∧ SubR w xs ys C k v wr) (fun _ _ i _ _ => n - (intOf i).toNat)
  case atStart => exact ⟨0, 0, Nat.zero_le _, rfl, rfl, by omega, [], rfl, by simp, by simp [Num.val_nil], World.ownsRow_nil _ _ _ _, Below.refl _ _⟩
  case round =>
    obtain ⟨k, C, hk, rfl, rfl, hC, out, hl, hlt, hS, hown, hb⟩ := hrel
    have HL := hid hl
    have HLT := hid hlt
    have HS := hid hS
    have HB := hid hb
    have HO := hid hown
    clear hl hlt hS hb hown
    by_cases hgo : k < n
    · have bx := BX.out k
      have bY := BY.out k
      obtain ⟨x, hx⟩ : ∃ x, x = xs.getD k 0 := ⟨_, rfl⟩
      obtain ⟨y, hy⟩ : ∃ y, y = ys.getD k 0 := ⟨_, rfl⟩
      have g0 := CX.out k hgo
      have g1 : wr.cell? ⟨b, off + k, none⟩ = some (.int .u8 (x : Int)) := by rw [hx]; exact (HB.out.cell (cell_lt g0)).trans g0
      have CY1 : ∀ q, Calls Tryz.prog 198 #[.slice a2 n2 cap2, .int .i64 k] (wr.drewN q) fun e w' => e = .returned (.int .i64 (y : Int)) ∧ wr.drewN q = w' := fun q => by
        rw [hy]; exact CY.out (wr.drewN q) k (below_drewN HB.out q)
      rw [← hx] at bx
      rw [← hy] at bY
      have CY1 := hid CY1
      have HXE := hid hx
      have HYE := hid hy
      clear hx hy g0
      go_wp2_with fail
      go_quiet (exact quiet_same (CY1.out _))
      clear CY1
      have HB1 := hid (below_drewN HB.out nq)
      have hsz := HB1.out.size
      have hown : (wr.drewN nq).ownsRow w.heap.size 5 1 _ k (u8s out) := HO.out
      clear HO
      by_cases hd : (x : Int) - y - C < 0
      · go_wp2_with (at_builtin; refine wpList_push numSlice rfl _ _ rfl w.heap.size (w0 := wr.drewN nq) hown rfl rfl rfl (by unfold maxLen; omega) (by omega) hsz ?_; intro v' w3 hown' hb')
        have R := hid (SubR.push (C' := 1) (T := x + 10 - y - C) HL.out HLT.out HS.out (by rw [← HXE.out, ← HYE.out]; omega) (by omega) (by omega) hown' (HB1.out.trans hb'))
        clear hown hown' hb'
        go_wp2
        go_roundw
        case rel => exact ⟨k + 1, 1, by omega, by go_num, by go_num, by omega, R.out⟩
        case measure => simp [intOf]; omega
      · go_wp2_with (at_builtin; refine wpList_push numSlice rfl _ _ rfl w.heap.size (w0 := wr.drewN nq) hown rfl rfl rfl (by unfold maxLen; omega) (by omega) hsz ?_; intro v' w3 hown' hb')
        have R := hid (SubR.push (C' := 0) (T := x - y - C) HL.out HLT.out HS.out (by rw [← HXE.out, ← HYE.out]; omega) (by omega) (by omega) hown' (HB1.out.trans hb'))
        clear hown hown' hb'
        go_wp2
        go_roundw
        case rel => exact ⟨k + 1, 0, by omega, by go_num, by go_num, by omega, R.out⟩
        case measure => simp [intOf]; omega
    · obtain rfl : n = k := by omega
      have hout : Num.val 10 out = Num.val 10 xs - Num.val 10 ys := by
        have e := HS.out
        rw [List.take_of_length_le (by rw [← HNY.out]; omega), List.take_of_length_le (by have := HX.out; omega)] at e
        have hlt := Num.val_lt (b := 10) (by decide) out HLT.out
        rw [HL.out] at hlt
        have hv := HV.out
        have : C = 0 := by
          rcases Nat.lt_or_ge C 1 with h | h
          · omega
          · obtain rfl : C = 1 := by omega
            rw [Nat.one_mul] at e; omega
        subst this
        omega
      have hown := HO.out
      obtain ⟨a', cap', rfl, _, _⟩ := owns_row hown
      have CT := hid (r_trim_out a' n cap' out w wr HL.out HLT.out hown HB.out)
      have HV := hid hout
      clear hgo hown HO hout
      go_wp2_with fail
      refine (CT.out).mono ?_
      rintro e w' ⟨ho, rfl⟩
      rw [HV.out] at ho
      have HO := hid ho
      clear ho
      obtain ⟨a3, cap3, rfl, h3⟩ := HO.out
      have H3 := hid h3
      clear h3 HO
      go_wp2
      go_ret
      exact ⟨a3, cap3, rfl, H3.out⟩
theorem r_Sub_nil (a a2 : Option Addr) (cap cap2 : Nat) (w : World) :
    Calls Tryz.prog 161 #[.slice a 0 cap, .slice a2 0 cap2] w (OutR8 w []) := by
  go_enter Tryz.func161, Tryz.ntmps161
  go_wp2
  refine wp_loop_rounds 1 ?_
  rw [rounds_succ]
  go_wp2_with fail
  refine (r_trim_empty none 0 w).mono ?_
  rintro e w' ⟨rfl, rfl⟩
  go_wp2
  go_ret
  exact OutR8.nil (Below.refl _ _)
theorem ref1_Sub (a a2 : Option Addr) (cap cap2 m n : Nat) (w : World) (h : U8 w a (Num.digs 10 m)) (h2 : U8 w a2 (Num.digs 10 n)) (hn : (Num.digs 10 m).length ≤ 1000000000) (hv : n ≤ m) :
    Calls Tryz.prog 161 #[.slice a (Num.digs 10 m).length cap, .slice a2 (Num.digs 10 n).length cap2] w (OutR8 w (Num.digs 10 (m - n))) := by
  by_cases h0 : m = 0
  · subst h0
    obtain rfl : n = 0 := by omega
    exact r_Sub_nil a a2 cap cap2 w
  · obtain ⟨b, off, rfl⟩ := h.isSome (fun e => h0 ((Num.digs_eq_nil (by decide)).1 e))
    have := r_Sub_some b off _ cap a2 cap2 (Num.digs 10 m) (Num.digs 10 n) w rfl h h2 hn (Num.digs_length_mono (by decide) hv) (by rw [Num.val_digs (by decide), Num.val_digs (by decide)]; exact hv)
    rwa [Num.val_digs (by decide), Num.val_digs (by decide)] at this

set_option maxRecDepth 100000 in
set_option maxHeartbeats 1600000 in
theorem r_Cmp_same (b off b2 off2 n cap cap2 : Nat) (xs ys : List Nat) (w : World) (hn : n ≤ 1000000000) (hx : xs.length = n) (hy : ys.length = n) (lx : ∀ x ∈ xs, x < 10) (ly : ∀ x ∈ ys, x < 10)
    (c1 : ∀ j, j < n → w.cell? ⟨b, off + j, none⟩ = some (.int .u8 ((xs.getD j 0 : Nat) : Int))) (c2 : ∀ j, j < n → w.cell? ⟨b2, off2 + j, none⟩ = some (.int .u8 ((ys.getD j 0 : Nat) : Int))) :
    Calls Tryz.prog 157 #[.slice (some ⟨b, off, none⟩) n cap, .slice (some ⟨b2, off2, none⟩) n cap2] w fun e w' => e = .returned (.int .i64 (cmpN (Num.val 10 xs) (Num.val 10 ys))) ∧ ∃ q, w' = w.drewN q := by
  have HX := hid hx
  have HY := hid hy
  have LX := hid lx
  have LY := hid ly
  have C1 := hid c1
  have C2 := hid c2
  clear hx hy lx ly c1 c2
  go_enter Tryz.func157, Tryz.ntmps157
  go_wp2
  go_loopw [5] (fun i wr => ∃ k : Nat, k ≤ n ∧ i = .int .i64 ((k : Int) - 1) ∧ xs.drop k = ys.drop k ∧ ∃ q, wr = w.drewN q) (fun i _ => (intOf i + 1).toNat)
  case atStart => exact ⟨n, Nat.le_refl _, rfl, by rw [List.drop_of_length_le (by have := HX.out; omega), List.drop_of_length_le (by have := HY.out; omega)], 0, rfl⟩
  case round =>
    obtain ⟨k, hk, rfl, hd, hq⟩ := hrel
    have HD := hid hd
    have HQ := hid hq
    clear hd
    by_cases hk0 : k = 0
    · subst hk0
      go_wp2
      go_ret
      exact ⟨ret_int (cmpN_eq.2 (show Num.val 10 xs = Num.val 10 ys from congrArg (Num.val 10) HD.out)).symm, HQ.out⟩
    · obtain ⟨m, rfl⟩ : ∃ m, k = m + 1 := ⟨k - 1, by omega⟩
      have e1 : ((m + 1 : Nat) : Int) - 1 = (m : Int) := by omega
      rw [e1]
      obtain ⟨x, hxe⟩ : ∃ x, x = xs.getD m 0 := ⟨_, rfl⟩
      obtain ⟨y, hye⟩ : ∃ y, y = ys.getD m 0 := ⟨_, rfl⟩
      have g1 : wr.cell? ⟨b, off + m, none⟩ = some (.int .u8 ((xs.getD m 0 : Nat) : Int)) := by obtain ⟨q, rfl⟩ := hq; exact C1.out m (by omega)
      have g2 : wr.cell? ⟨b2, off2 + m, none⟩ = some (.int .u8 ((ys.getD m 0 : Nat) : Int)) := by obtain ⟨q, rfl⟩ := hq; exact C2.out m (by omega)
      clear hq
      rw [← hxe] at g1
      rw [← hye] at g2
      have hm1 : m < xs.length := by have := HX.out; omega
      have hm2 : m < ys.length := by have := HY.out; omega
      have hmn : m < n := by omega
      have HXE := hid hxe
      have HYE := hid hye
      have HL : Hid (x < y → cmpN (Num.val 10 xs) (Num.val 10 ys) = -1) := fun h => cmpN_lt (Num.val_lt_top (by decide) xs ys LX.out m hm1 hm2 HD.out (by rw [← HXE.out, ← HYE.out]; exact h))
      have HG : Hid (y < x → cmpN (Num.val 10 xs) (Num.val 10 ys) = 1) := fun h => cmpN_gt (Num.val_lt_top (by decide) ys xs LY.out m hm2 hm1 HD.out.symm (by rw [← HXE.out, ← HYE.out]; exact h))
      have HE : Hid (x = y → xs.drop m = ys.drop m) := fun h => by rw [Num.drop_getD hm1, Num.drop_getD hm2, HD.out, ← HXE.out, ← HYE.out, h]
      clear hxe hye e1 hm1 hm2
      go_wp2_with fail
      go_quiet (fail)
      have h3 : x < y ∨ y < x ∨ x = y := by omega
      rcases h3 with h | h | h
      · have HR := hid (HL.out h)
        go_wp2_with fail
        go_ret
        exact ⟨ret_int HR.out.symm, drewN_more HQ.out nq⟩
      · have HR := hid (HG.out h)
        have hnl : ¬ x < y := by omega
        go_wp2_with fail
        go_quiet (fail)
        go_wp2_with fail
        go_ret
        exact ⟨ret_int HR.out.symm, by first | exact drewN_more HQ.out _ | exact drewN_more (drewN_more HQ.out _) nq⟩
      · have HR := hid (HE.out h)
        subst h
        go_wp2_with fail
        go_quiet (fail)
        go_wp2
        go_roundw
        case rel => exact ⟨m, by omega, by go_num, HR.out, by first | exact drewN_more HQ.out _ | exact drewN_more (drewN_more HQ.out _) nq⟩
        case measure => simp [intOf]
theorem r_Cmp_diff (a a2 : Option Addr) (n n2 cap cap2 : Nat) (c : Int) (w : World) (_hn : n ≤ 1000000000) (_hn2 : n2 ≤ 1000000000) (hne : n ≠ n2) (hc : c = cmpN n n2) :
    Calls Tryz.prog 157 #[.slice a n cap, .slice a2 n2 cap2] w fun e w' => e = .returned (.int .i64 c) ∧ ∃ q, w' = w.drewN q := by
  have h1 : ((n : Int) != (n2 : Int)) = true := by rw [bne_iff_ne]; omega
  by_cases hlt : n < n2
  · rw [cmpN_lt hlt] at hc
    subst hc
    clear hne
    go_enter Tryz.func157, Tryz.ntmps157
    go_wp2
    go_ret
    exact ⟨rfl, 0, rfl⟩
  · rw [cmpN_gt (by omega)] at hc
    subst hc
    clear hne
    go_enter Tryz.func157, Tryz.ntmps157
    go_wp2
    go_ret
    exact ⟨rfl, 0, rfl⟩
theorem r_Cmp_zero (a a2 : Option Addr) (cap cap2 : Nat) (w : World) :
    Calls Tryz.prog 157 #[.slice a 0 cap, .slice a2 0 cap2] w fun e w' => e = .returned (.int .i64 0) ∧ ∃ q, w' = w.drewN q := by
  go_enter Tryz.func157, Tryz.ntmps157
  go_wp2
  refine wp_loop_rounds 1 ?_
  rw [rounds_succ]
  go_wp2
  go_ret
  exact ⟨rfl, 0, rfl⟩
theorem ref1_Cmp (a a2 : Option Addr) (cap cap2 m n : Nat) (w : World) (h : U8 w a (Num.digs 10 m)) (h2 : U8 w a2 (Num.digs 10 n)) (hm : (Num.digs 10 m).length ≤ 1000000000) (hn : (Num.digs 10 n).length ≤ 1000000000) :
    Calls Tryz.prog 157 #[.slice a (Num.digs 10 m).length cap, .slice a2 (Num.digs 10 n).length cap2] w fun e w' => e = .returned (.int .i64 (cmpN m n)) ∧ ∃ q, w' = w.drewN q := by
  by_cases hl : (Num.digs 10 m).length = (Num.digs 10 n).length
  · by_cases h0 : m = 0
    · subst h0
      have h1 : n = 0 := (Num.digs_eq_nil (b := 10) (by decide)).1 (List.length_eq_zero_iff.1 (by rw [← hl]; rfl))
      subst h1
      exact r_Cmp_zero a a2 cap cap2 w
    · have hn0 : n ≠ 0 := fun e => h0 ((Num.digs_eq_nil (b := 10) (by decide)).1 (List.length_eq_zero_iff.1 (by rw [hl, e]; rfl)))
      obtain ⟨b, off, rfl⟩ := h.isSome (fun e => h0 ((Num.digs_eq_nil (by decide)).1 e))
      obtain ⟨b2, off2, rfl⟩ := h2.isSome (fun e => hn0 ((Num.digs_eq_nil (by decide)).1 e))
      have := r_Cmp_same b off b2 off2 (Num.digs 10 m).length cap cap2 (Num.digs 10 m) (Num.digs 10 n) w hm rfl hl.symm (digs_ten_lt _) (digs_ten_lt _) (fun j hj => h.row.u8 hj) (fun j hj => h2.row.u8 (by omega))
      rw [Num.val_digs (by decide), Num.val_digs (by decide)] at this
      rw [← hl]; exact this
  · refine r_Cmp_diff a a2 _ _ cap cap2 _ w hm hn hl ?_
    rcases Nat.lt_trichotomy (Num.digs 10 m).length (Num.digs 10 n).length with h1 | h1 | h1
    · rw [cmpN_lt h1, cmpN_lt (Num.lt_of_digs_length (by decide) h1)]
    · exact absurd h1 hl
    · rw [cmpN_gt h1, cmpN_gt (Num.lt_of_digs_length (by decide) h1)]

theorem u8s_one (xs : List Nat) : ∀ u ∈ u8s xs, u.oneCell' = true := by
  intro u hu
  obtain ⟨d, _, rfl⟩ := List.mem_map.1 (show u ∈ xs.map _ from hu)
  rfl
set_option maxRecDepth 100000 in
theorem ref1_Shift (a : Option Addr) (cap m k : Nat) (w : World) (h : U8 w a (Num.digs 10 m)) (hc : a = none → cap = 0) (hm : (Num.digs 10 m).length ≤ 1000000000) (hk : k ≤ 1000000000) :
    Calls Tryz.prog 96 #[.slice a (Num.digs 10 m).length cap, .int .i64 k] w (OutR8 w (Num.digs 10 (m * 10 ^ k))) := by
  by_cases h0 : m = 0
  · subst h0
    rw [Nat.zero_mul]
    show Calls Tryz.prog 96 #[.slice a 0 cap, .int .i64 k] w _
    clear h hc hm
    go_enter Tryz.func96, Tryz.ntmps96
    go_wp2
    go_ret
    exact OutR8.nil (Below.refl _ _)
  · have hl : 0 < (Num.digs 10 m).length := Num.length_pos (by decide) h0
    have hlz : (((Num.digs 10 m).length : Int) == 0) = false := by rw [beq_eq_false_iff_ne]; omega
    rw [Num.digs_mul_pow (by decide) h0]
    obtain ⟨ds, hds⟩ : ∃ ds, ds = Num.digs 10 m := ⟨_, rfl⟩
    rw [← hds] at h hm hl hlz ⊢
    have hlt : ∀ d ∈ ds, d < 10 := h.lt
    have H := hid h
    have HC := hid hc
    have HLT := hid hlt
    obtain ⟨n, hn⟩ : ∃ n, n = ds.length := ⟨_, rfl⟩
    rw [← hn] at hm hl hlz ⊢
    have HN := hid hn
    clear h hc hlt hds hn
    go_enter Tryz.func96, Tryz.ntmps96
    have hrl : (u8s ds).length = n := by rw [HN.out]; simp [u8s]
    have HRL := hid hrl
    clear hrl
    go_wp2_with (first | (at_make; refine wpList_full numSlice rfl _ _ rfl k rfl rfl rfl rfl (by omega) (by unfold maxLen; omega) ?_; intro w1 hown0 hb1; have hown : w1.ownsRow w.heap.size 5 1 (.slice (some ⟨w.heap.size, 0, none⟩) k k) k (u8s (List.replicate k 0)) := (by simpa [u8s] using hown0); have hrow := (H.out.row).below hb1; have hsz := hb1.size; clear hown0) | (at_builtin; refine wpList_extend numSlice rfl _ _ rfl w.heap.size hown rfl rfl hrow HRL.out HC.out (u8s_one ds) (by unfold maxLen; omega) (by omega) hsz ?_; intro v' w3 hown' hb'))
    have HO := hid hown'
    have HB3 := hid (hb1.trans hb')
    clear hown hown' hb' hrow hb1
    go_wp2
    go_ret
    have hU : u8s (List.replicate k 0) ++ u8s ds = u8s (List.replicate k 0 ++ ds) := by simp [u8s]
    have ho := HO.out
    rw [hU] at ho
    obtain ⟨a3, cap3, rfl, _, hlen⟩ := owns_row ho
    have hl3 : (List.replicate k 0 ++ ds).length = k + n := by simp [HN.out]
    refine OutN.read ⟨a3, cap3, by rw [hl3]; rfl, HB3.out, by rw [hl3]; exact ho⟩ ?_
    intro d hd
    rcases List.mem_append.1 hd with h | h
    · have := List.eq_of_mem_replicate h; omega
    · exact HLT.out d h

end Go.Proofs.YtmdgciolnpkccaaGreatDoor
