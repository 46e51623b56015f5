/- The document's answer, third part: trim, Add, Sub of digits. -/
import Derived.Test.YtmdgciolnpkccaaGreatDoorRefC
import Derived.Test.YtmdgciolnpkccaaGreatDoorDecN
namespace Go.Proofs.YtmdgciolnpkccaaGreatDoor
open Go.RowKit

/-- Digits that read, wherever they lie. -/
def OutR8 (w : World) (ds : List Nat) (e : Ending) (w' : World) : Prop :=
  ∃ a cap, e = .returned (.slice a ds.length cap) ∧ Below w.heap.size w w' ∧ U8 w' a ds ∧ ds.length ≤ cap ∧ cap ≤ 9223372036854775807 ∧ (a = none → cap = 0)
theorem OutR8.nil {w w' : World} (h : Below w.heap.size w w') : OutR8 w [] (.returned (.slice none 0 0)) w' :=
  ⟨none, 0, rfl, h, ⟨Row.nil _ _, fun d hd => by cases hd⟩, Nat.le_refl _, by decide, fun _ => rfl⟩
theorem OutR8.of_below {w w1 w' : World} {ds : List Nat} {e : Ending} (h : OutR8 w1 ds e w') (hb : Below w.heap.size w w1) : OutR8 w ds e w' := by
  obtain ⟨a, cap, h1, h2, h3⟩ := h
  exact ⟨a, cap, h1, below_trans hb h2, h3⟩
theorem owns_none {w : World} {base : Nat} {e : TypeId} {n cap m : Nat} {xs : List Value} {a : Option Addr} (h : w.ownsRow base e 1 (.slice a n cap) m xs) : a = none → cap = 0 := by
  intro ha
  subst ha
  rcases h.2 with ⟨e1, rfl⟩ | ⟨g, cap', cur, e1, _⟩
  · injection e1
  · injection e1 with e1; cases e1
theorem OutN.read {w w' : World} {ds : List Nat} {e : Ending} (h : OutN w ds e w') (hd : ∀ d ∈ ds, d < 10) : OutR8 w ds e w' := by
  obtain ⟨a, cap, h1, h2, h3⟩ := h
  exact ⟨a, cap, h1, h2, u8_of h3 hd, (owns_cap h3).1, (owns_cap h3).2, owns_none h3⟩
theorem digs_ten_lt (n : Nat) : ∀ d ∈ Num.digs 10 n, d < 10 := Num.digs_lt (by decide) n
theorem trim_ten (xs : List Nat) (h : ∀ x ∈ xs, x < 10) : Num.trim xs = Num.digs 10 (Num.val 10 xs) := Num.trim_eq (by decide) xs h

set_option maxHeartbeats 400000 in
theorem r_trim_some (b off n cap : Nat) (xs : List Nat) (w : World) (_hn : n ≤ 9223372036854775807) (hx : xs.length = n) (hc : ∀ j, j < n → w.cell? ⟨b, off + j, none⟩ = some (.int .u8 ((xs.getD j 0 : Nat) : Int))) (hcap : n ≤ cap) (hcap2 : cap ≤ 9223372036854775807) :
    Calls Tryz.prog 128 #[.slice (some ⟨b, off, none⟩) n cap] w fun e w' => e = .returned (.slice (some ⟨b, off, none⟩) (trimLen xs) cap) ∧ w = w' := by
  have H : Hid (xs.length = n) := hx
  clear hx
  go_enter Tryz.func128, Tryz.ntmps128
  go_wp2
  go_loop [3] (fun l => ∃ k : Nat, k ≤ n ∧ l = .int .i64 k ∧ trimLen (xs.take k) = trimLen xs) (fun l => (intOf l).toNat)
  case atStart => exact ⟨n, Nat.le_refl _, rfl, by rw [← H.out, List.take_length]⟩
  case round =>
    obtain ⟨k, hk, rfl, hrel⟩ := hrel
    by_cases hk0 : k = 0
    · subst hk0
      have HR := hid hrel
      clear hrel hc H
      go_wp2
      go_ret
      exact ⟨by rw [← HR.out]; rfl, rfl⟩
    · obtain ⟨m, rfl⟩ : ∃ m, k = m + 1 := ⟨k - 1, by omega⟩
      have hc1 := hc m (by omega)
      have hlen : m < xs.length := by have := H.out; omega
      have hsub : ((m + 1 : Nat) : Int) - 1 = (m : Int) := by omega
      by_cases h0 : xs.getD m 0 = 0
      · have HR := hid ((trimLen_go xs m hlen h0).symm.trans hrel)
        rw [h0] at hc1
        clear hrel hc H h0 hsub
        go_wp2
        go_round
        case rel => exact ⟨m, by omega, by go_num, HR.out⟩
        case measure => simp [intOf]
      · have HR := hid ((trimLen_stop xs m hlen h0).symm.trans hrel)
        obtain ⟨x, hx⟩ : ∃ x, x = xs.getD m 0 := ⟨_, rfl⟩
        rw [← hx] at hc1 h0
        have hne : ((x : Int) == 0) = false := by simpa using h0
        clear hrel hc H h0 hsub hx hlen
        go_wp2
        go_ret
        exact ⟨by rw [← HR.out]; rfl, rfl⟩
theorem r_trim_empty (a : Option Addr) (cap : Nat) (w : World) :
    Calls Tryz.prog 128 #[.slice a 0 cap] w fun e w' => e = .returned (.slice a 0 cap) ∧ w = w' := by
  go_enter Tryz.func128, Tryz.ntmps128
  go_wp2
  refine wp_loop_rounds 1 ?_
  rw [rounds_succ]
  go_wp2
  go_ret
  exact ⟨rfl, rfl⟩
theorem r_trim (a : Option Addr) (n cap : Nat) (xs : List Nat) (w : World) (hl : xs.length = n) (h : Row w a (u8s xs)) (hcap : n ≤ cap) (hcap2 : cap ≤ 9223372036854775807) :
    Calls Tryz.prog 128 #[.slice a n cap] w fun e w' => e = .returned (.slice a (trimLen xs) cap) ∧ w = w' := by
  subst hl
  by_cases hx : xs = []
  · subst hx; exact r_trim_empty a cap w
  · obtain ⟨b, off, rfl⟩ := h.isSome (by intro e; exact hx (by simpa [u8s] using e))
    exact r_trim_some b off _ cap xs w (by omega) rfl (fun j hj => Row.u8 h hj) hcap hcap2
/-- 'trim' at the end of a function that has laid digits down. -/
theorem r_trim_out (a : Option Addr) (n cap : Nat) (out : List Nat) (w wr : World) (hl : out.length = n) (h9 : ∀ x ∈ out, x < 10) (ho : wr.ownsRow w.heap.size 5 1 (.slice a n cap) n (u8s out)) (hb : Below w.heap.size w wr) :
    Calls Tryz.prog 128 #[.slice a n cap] wr fun e w' => OutR8 w (Num.digs 10 (Num.val 10 out)) e w' ∧ wr = w' := by
  refine (r_trim a n cap out wr hl (owned_row ho) (owns_cap ho).1 (owns_cap ho).2).mono ?_
  rintro e w' ⟨rfl, rfl⟩
  refine ⟨?_, rfl⟩
  have e1 := trim_ten out h9
  have e0 : (Num.digs 10 (Num.val 10 out)).length = trimLen out := by rw [← e1]; rfl
  have hle := trimLen_le out
  refine ⟨a, cap, by rw [e0], hb, ⟨?_, digs_ten_lt _⟩, by rw [e0]; have := (owns_cap ho).1; omega, (owns_cap ho).2, owns_none ho⟩
  rw [← e1, ← take_trimLen]
  have := (owned_row ho).take (trimLen out)
  simpa [u8s, List.map_take] using this

/-- What holds at the head of a round of 'Add'. -/
def AddR (w : World) (xs ys : List Nat) (C k : Nat) (v : Value) (wr : World) : Prop :=
  ∃ out : List Nat, out.length = k ∧ (∀ x ∈ out, x < 10) ∧ Num.val 10 out + C * 10 ^ k = Num.val 10 (xs.take k) + Num.val 10 (ys.take k) ∧ wr.ownsRow w.heap.size 5 1 v k (u8s out) ∧ Below w.heap.size w wr
theorem AddR.push {w w1 : World} {xs ys out : List Nat} {C k T : Nat} {v' : Value} {x : Int} (h1 : out.length = k) (h2 : ∀ x ∈ out, x < 10) (h3 : Num.val 10 out + C * 10 ^ k = Num.val 10 (xs.take k) + Num.val 10 (ys.take k))
    (hT : T = xs.getD k 0 + ys.getD k 0 + C) (hx : x = ((T % 10 : Nat) : Int)) (hown : w1.ownsRow w.heap.size 5 1 v' (k + 1) (u8s out ++ [.int .u8 x])) (hb : Below w.heap.size w w1) : AddR w xs ys (T / 10) (k + 1) v' w1 := by
  subst hx
  refine ⟨out ++ [T % 10], by simp [h1], ?_, ?_, by simpa [u8s] using hown, hb⟩
  · intro y hy
    rcases List.mem_append.1 hy with h | h
    · exact h2 y h
    · simp at h; omega
  · rw [Num.val_snoc, h1, Num.val_take_succ, Num.val_take_succ, Nat.pow_succ]
    obtain ⟨P, hP⟩ : ∃ P, P = 10 ^ k := ⟨_, rfl⟩
    rw [← hP] at h3 ⊢
    have e1 : P * (T % 10) + T / 10 * (P * 10) = P * T := by
      have := Nat.mod_add_div T 10
      rw [Nat.mul_comm P 10, ← Nat.mul_assoc, Nat.mul_comm (T / 10 * 10) P, ← Nat.mul_add]
      congr 1; omega
    have e2 : P * T = P * xs.getD k 0 + P * ys.getD k 0 + C * P := by rw [hT, Nat.mul_add, Nat.mul_add, Nat.mul_comm P C]
    omega

set_option maxRecDepth 100000 in
set_option maxHeartbeats 1600000 in
theorem ref1_Add (a a2 : Option Addr) (cap cap2 : Nat) (xs ys : List Nat) (w : World) (h : U8 w a xs) (h2 : U8 w a2 ys) (hn : xs.length ≤ 1000000000) (hn2 : ys.length ≤ 1000000000) :
    Calls Tryz.prog 158 #[.slice a xs.length cap, .slice a2 ys.length cap2] w (OutR8 w (Num.digs 10 (Num.val 10 xs + Num.val 10 ys))) := by
  have CX := fun W k (hb : Below w.heap.size w W) => ref1_digit a cap k xs W (h.below hb) (by omega)
  have CY := fun W k (hb : Below w.heap.size w W) => ref1_digit a2 cap2 k ys W (h2.below hb) (by omega)
  have BX := fun k => h.getD_lt k
  have BY := fun k => h2.getD_lt k
  obtain ⟨n, hnx⟩ : ∃ n, n = xs.length := ⟨_, rfl⟩
  obtain ⟨n2, hny⟩ : ∃ n, n = ys.length := ⟨_, rfl⟩
  rw [← hnx] at CX hn ⊢
  rw [← hny] at CY hn2 ⊢
  obtain ⟨M, hM⟩ : ∃ M, M = max n n2 := ⟨_, rfl⟩
  have hM1 : n ≤ M := by omega
  have hM2 : n2 ≤ M := by omega
  have hM3 : M ≤ 1000000000 := by omega
  have ZX : ∀ k, n ≤ k → xs.getD k 0 = 0 := fun k hk => by simp [List.getElem?_eq_none (show xs.length ≤ k by omega)]
  have ZY : ∀ k, n2 ≤ k → ys.getD k 0 = 0 := fun k hk => by simp [List.getElem?_eq_none (show ys.length ≤ k by omega)]
  replace CX := hid CX
  replace CY := hid CY
  replace BX := hid BX
  replace BY := hid BY
  replace ZX := hid ZX
  replace ZY := hid ZY
  have HNX := hid hnx
  have HNY := hid hny
  clear h h2 hnx hny hM
  go_enter Tryz.func158, Tryz.ntmps158
  go_wp2
  go_loopw [5, 6, 7] (fun v c i wr => ∃ (k C : Nat), k ≤ M + 1 ∧ i = .int .i64 k ∧ c = .int .i64 C ∧ C ≤ 1 ∧ (M < k → C = 0) ∧ AddR w xs ys C k v wr) (fun _ _ i _ => M + 2 - (intOf i).toNat)
  case atStart => exact ⟨0, 0, Nat.zero_le _, rfl, rfl, by omega, fun _ => rfl, [], rfl, by simp, by simp [Num.val_nil], World.ownsRow_nil _ _ _ _, Below.refl _ _⟩
  case round =>
    obtain ⟨k, C, hk, rfl, rfl, hC, hMC, out, hl, hlt, hS, hown, hb⟩ := hrel
    have HL := hid hl
    have HLT := hid hlt
    have HS := hid hS
    have HB := hid hb
    have hsz := hb.size
    clear hl hlt hS hb
    by_cases hgo : k < n ∨ k < n2 ∨ 0 < C
    · have hkM : k ≤ M := by
        rcases hgo with h | h | h
        · omega
        · omega
        · have := fun h' => hMC h'; omega
      have bx := BX.out k
      have bY := BY.out k
      obtain ⟨x, hx⟩ : ∃ x, x = xs.getD k 0 := ⟨_, rfl⟩
      obtain ⟨y, hy⟩ : ∃ y, y = ys.getD k 0 := ⟨_, rfl⟩
      have CX1 := CX.out wr k HB.out
      have CY1 := CY.out wr k HB.out
      rw [← hx] at CX1 bx
      rw [← hy] at CY1 bY
      have hzz : M < k + 1 → (x + y + C) / 10 = 0 := fun h => by
        have h1 := ZX.out k
        have h2 := ZY.out k
        omega
      have HZZ := hid hzz
      have CX1 := hid CX1
      have CY1 := hid CY1
      have HX := hid hx
      have HY := hid hy
      have HMC := hid hMC
      clear hx hy hMC hzz
      have hcases : k < n ∨ (¬ k < n ∧ k < n2) ∨ (¬ k < n ∧ ¬ k < n2 ∧ 0 < C) := by omega
      clear hgo
      rcases hcases with h1 | ⟨h1, h3⟩ | ⟨h1, h3, h4⟩
      all_goals
        go_wp2_with fail
        refine (CX1.out).mono ?_
        rintro e1 w1 ⟨rfl, rfl⟩
        go_wp2_with fail
        refine (CY1.out).mono ?_
        rintro e1 w1 ⟨rfl, rfl⟩
        go_wp2_with (at_builtin; refine wpList_push numSlice rfl _ _ rfl w.heap.size (w0 := wr) hown rfl rfl rfl (by unfold maxLen; omega) (by omega) hsz ?_; intro v' w3 hown' hb')
        have R := hid (AddR.push (T := x + y + C) HL.out HLT.out HS.out (by rw [← HX.out, ← HY.out]) (by omega) hown' (HB.out.trans hb'))
        have hq : ((x : Int) + y + C) / 10 = (((x + y + C) / 10 : Nat) : Int) := by omega
        clear hown hown' hb'
        go_wp2
        go_roundw
        case rel => exact ⟨k + 1, (x + y + C) / 10, by omega, by go_num, by go_num, by omega, HZZ.out, R.out⟩
        case measure => simp [intOf]; omega
    · obtain rfl : C = 0 := by omega
      have hk1 : ¬ k < n := by omega
      have hk2 : ¬ k < n2 := by omega
      have HV : Hid (Num.val 10 out = Num.val 10 xs + Num.val 10 ys) := by
        have := HS.out
        rw [List.take_of_length_le (by rw [← HNX.out]; omega), List.take_of_length_le (by rw [← HNY.out]; omega)] at this
        show _ = _; omega
      obtain ⟨a', cap', rfl, _, _⟩ := owns_row hown
      have CT := hid (r_trim_out a' k cap' out w wr HL.out HLT.out hown HB.out)
      clear hgo hown hMC
      go_wp2_with fail
      refine (CT.out).mono ?_
      rintro e w' ⟨ho, rfl⟩
      rw [HV.out] at ho
      have HO := hid ho
      clear ho
      obtain ⟨a3, cap3, rfl, h3⟩ := HO.out
      have H3 := hid h3
      clear h3 HO
      go_wp2
      go_ret
      exact ⟨a3, cap3, rfl, H3.out⟩

end Go.Proofs.YtmdgciolnpkccaaGreatDoor
