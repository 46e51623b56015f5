/- Layer 1, first part: trim, at, carried and what they are called with. -/
import Derived.Test.YtmdgciolnpkccaaGreatDoorChecked
import Derived.Test.YtmdgciolnpkccaaGreatDoorNum
import Derived.Test.YtmdgciolnpkccaaGreatDoorBase
namespace Go.Proofs.YtmdgciolnpkccaaGreatDoor
open Go.RowKit

theorem at_in (b off n cap i : Nat) (x : Int) (w : World) (hi : i < n) (_hn : n ≤ 9223372036854775807) (hc : w.cell? ⟨b, off + i, none⟩ = some (.int .u32 x)) (h0 : 0 ≤ x) (h1 : x < 4294967296) :
    Calls Tryz.prog 170 #[.slice (some ⟨b, off, none⟩) n cap, .int .i64 i] w fun e w' => e = .returned (.int .u64 x) ∧ w = w' := by
  go_enter Tryz.func170, Tryz.ntmps170
  go_wp2
  go_ret
  exact ⟨rfl, rfl⟩
theorem at_out (a : Option Addr) (n cap i : Nat) (w : World) (hi : n ≤ i) :
    Calls Tryz.prog 170 #[.slice a n cap, .int .i64 i] w fun e w' => e = .returned (.int .u64 0) ∧ w = w' := by
  go_enter Tryz.func170, Tryz.ntmps170
  go_wp2
  go_ret
  exact ⟨rfl, rfl⟩
theorem limb_at (a : Option Addr) (cap i : Nat) (xs : List Nat) (w : World) (h : Row w a (u32s xs)) (hn : xs.length ≤ 9223372036854775807) (hlt : ∀ x ∈ xs, x < 4294967296) :
    Calls Tryz.prog 170 #[.slice a xs.length cap, .int .i64 i] w fun e w' => e = .returned (.int .u64 ((xs.getD i 0 : Nat) : Int)) ∧ w = w' := by
  by_cases hi : i < xs.length
  · obtain ⟨b, off, rfl⟩ := h.isSome (by intro e; rw [← length_u32s, e] at hi; simp at hi)
    refine at_in b off xs.length cap i _ w hi hn (h.u32 hi) (by omega) ?_
    have := hlt (xs.getD i 0) (by simp [hi])
    omega
  · refine (at_out a xs.length cap i w (by omega)).mono fun e w' ⟨he, hw⟩ => ⟨?_, hw⟩
    rw [he]; simp [List.getElem?_eq_none (show xs.length ≤ i by omega)]

/-- How many limbs are left. -/
def trimLen (xs : List Nat) : Nat := (Num.trim xs).length
theorem trimLen_le (xs : List Nat) : trimLen xs ≤ xs.length := by
  obtain ⟨n, hn, e⟩ := Num.trim_take xs
  rw [trimLen, e]; simp; omega
theorem take_trimLen (xs : List Nat) : xs.take (trimLen xs) = Num.trim xs := by
  obtain ⟨n, hn, e⟩ := Num.trim_take xs
  rw [trimLen, e, List.length_take, Nat.min_eq_left hn]
theorem trimLen_stop (xs : List Nat) (k : Nat) (hk : k < xs.length) (h : xs.getD k 0 ≠ 0) : trimLen (xs.take (k + 1)) = k + 1 := by
  rw [List.take_add_one, List.getElem?_eq_getElem hk, trimLen]
  simp only [Option.toList_some]
  rw [Num.trim_snoc_pos]
  · simp; omega
  · simpa [hk] using h
theorem trimLen_go (xs : List Nat) (k : Nat) (hk : k < xs.length) (h : xs.getD k 0 = 0) : trimLen (xs.take (k + 1)) = trimLen (xs.take k) := by
  have h' : xs[k] = 0 := by simpa [hk] using h
  rw [List.take_add_one, List.getElem?_eq_getElem hk, trimLen, trimLen]
  simp only [Option.toList_some]
  rw [h', Num.trim_snoc_zero]

set_option maxHeartbeats 400000 in
theorem trim_some (b off n cap : Nat) (xs : List Nat) (w : World) (_hn : n ≤ 9223372036854775807) (hx : xs.length = n) (hc : ∀ j, j < n → w.cell? ⟨b, off + j, none⟩ = some (.int .u32 ((xs.getD j 0 : Nat) : Int))) (hcap : n ≤ cap) (hcap2 : cap ≤ 9223372036854775807) :
    Calls Tryz.prog 123 #[.slice (some ⟨b, off, none⟩) n cap] w fun e w' => e = .returned (.slice (some ⟨b, off, none⟩) (trimLen xs) cap) ∧ w = w' := by
  have H : Hid (xs.length = n) := hx
  clear hx
  go_enter Tryz.func123, Tryz.ntmps123
  go_wp2
  go_loop [0] (fun l => ∃ k : Nat, k ≤ n ∧ l = .slice (some ⟨b, off, none⟩) k cap ∧ trimLen (xs.take k) = trimLen xs) (fun l => match l with | .slice _ k _ => k | _ => 0)
  case atStart => exact ⟨n, Nat.le_refl _, rfl, by rw [← H.out, List.take_length]⟩
  case round =>
    obtain ⟨k, hk, rfl, hrel⟩ := hrel
    by_cases hk0 : k = 0
    · subst hk0
      have HR := hid hrel
      clear hrel hc H
      go_wp2
      go_ret
      exact ⟨by rw [← HR.out]; rfl, rfl⟩
    · obtain ⟨m, rfl⟩ : ∃ m, k = m + 1 := ⟨k - 1, by omega⟩
      have hc1 := hc m (by omega)
      have hlen : m < xs.length := by have := H.out; omega
      have hsub : ((m + 1 : Nat) : Int) - 1 = (m : Int) := by omega
      by_cases h0 : xs.getD m 0 = 0
      · have HR := hid ((trimLen_go xs m hlen h0).symm.trans hrel)
        rw [h0] at hc1
        clear hrel hc H h0 hsub
        go_wp2
        go_round
        case rel => exact ⟨m, by omega, rfl, HR.out⟩
        case measure => simp
      · have HR := hid ((trimLen_stop xs m hlen h0).symm.trans hrel)
        obtain ⟨x, hx⟩ : ∃ x, x = xs.getD m 0 := ⟨_, rfl⟩
        rw [← hx] at hc1 h0
        have hne : ((x : Int) == 0) = false := by simpa using h0
        clear hrel hc H h0 hsub hx hlen
        go_wp2
        go_ret
        exact ⟨by rw [← HR.out]; rfl, rfl⟩

theorem trim_empty (a : Option Addr) (cap : Nat) (w : World) :
    Calls Tryz.prog 123 #[.slice a 0 cap] w fun e w' => e = .returned (.slice a 0 cap) ∧ w = w' := by
  go_enter Tryz.func123, Tryz.ntmps123
  go_wp2
  refine wp_loop_rounds 1 ?_
  rw [rounds_succ]
  go_wp2
  go_ret
  exact ⟨rfl, rfl⟩
theorem limb_trim (a : Option Addr) (cap : Nat) (xs : List Nat) (w : World) (h : Row w a (u32s xs)) (hcap : xs.length ≤ cap) (hcap2 : cap ≤ 9223372036854775807) :
    Calls Tryz.prog 123 #[.slice a xs.length cap] w fun e w' => e = .returned (.slice a (trimLen xs) cap) ∧ w = w' := by
  by_cases hx : xs = []
  · subst hx; exact trim_empty a cap w
  · obtain ⟨b, off, rfl⟩ := h.isSome (by intro e; exact hx (by simpa [u32s] using e))
    exact trim_some b off _ cap xs w (by omega) rfl (fun j hj => h.u32 hj) hcap hcap2

theorem Tryz.infoU32 : (Tryz.prog.info? 70).map (fun i => (i.zero, i.size, i.bytes)) = some (some (.int .u32 0), 1, 4) := by kernel_rfl

/-- The sums that are laid down don't go round, with the carry. -/
def Small (s : Nat → Nat) (n : Nat) : Prop := ∀ i, i < n → s i + (if i = 0 then 0 else 18446744073) < 18446744073709551616

/-- What holds at the head of a round of 'carried': the sum that is laid down so far. -/
def Car (S : Nat) (w : World) (C k : Nat) (v : Value) (wr : World) : Prop :=
  ∃ out : List Nat, out.length = k ∧ (∀ x ∈ out, x < 1000000000) ∧ Num.worth out + C * Num.B9 ^ k = S ∧ wr.ownsRow w.heap.size 70 1 v k (u32s out) ∧ Below w.heap.size w wr

theorem Car.push {S S' C T k : Nat} {w w1 : World} {v' : Value} {out : List Nat} {x : Int} (h1 : out.length = k) (h2 : ∀ x ∈ out, x < 1000000000) (h3 : Num.worth out + C * Num.B9 ^ k = S)
    (hS : S' + C * Num.B9 ^ k = S + T * Num.B9 ^ k) (hx : x = ((T % 1000000000 : Nat) : Int))
    (hown : w1.ownsRow w.heap.size 70 1 v' (k + 1) (u32s out ++ [.int .u32 x])) (hb : Below w.heap.size w w1) : Car S' w (T / 1000000000) (k + 1) v' w1 := by
  subst hx
  refine ⟨out ++ [T % 1000000000], by simp [h1], ?_, ?_, by simpa [u32s] using hown, hb⟩
  · intro y hy
    rcases List.mem_append.1 hy with h | h
    · exact h2 y h
    · simp at h; omega
  · have e := Nat.mod_add_div T 1000000000
    have e2 : T * Num.B9 ^ k = (T % 1000000000) * Num.B9 ^ k + (T / 1000000000) * (Num.B9 ^ k * Num.B9) := by
      rw [Nat.mul_comm (Num.B9 ^ k), ← Nat.mul_assoc, ← Nat.add_mul]
      congr 1
      rw [Nat.mul_comm (T / 1000000000), Num.B9_eq]; omega
    have e3 : Num.worth (out ++ [T % 1000000000]) = Num.worth out + (T % 1000000000) * Num.B9 ^ k := by
      unfold Num.worth
      rw [Num.val_snoc, h1, Nat.mul_comm (Num.B9 ^ k)]
    rw [e3, Nat.pow_succ]
    omega

/-- Slices of 32-bit numbers. -/
theorem Tryz.u32Slice : SliceOf Tryz.prog 23 70 (.int .u32 0) 4 := ⟨Tryz.underlying23, by kernel_rfl, rfl⟩

set_option maxRecDepth 100000 in
set_option maxHeartbeats 400000 in
theorem carried_any (n f : Nat) (cs : Array Value) (s : Nat → Nat) (w : World) (hn : n ≤ 1000000000) (hs : Small s n) (hcall : ∀ args W, (callFunc f args).run Tryz.prog W = .ok (.enter f args) W)
    (hF : ∀ i W, i < n → Below w.heap.size w W → Calls Tryz.prog f (#[.int .i64 (i : Nat)] ++ cs) W fun e W' => e = .returned (.int .u64 (s i : Nat)) ∧ ∃ q, W' = W.drewN q) :
    Calls Tryz.prog 168 #[.int .i64 n, .func (.func f) #[] cs] w fun e w' => ∃ v, e = .returned v ∧ Below w.heap.size w w' ∧ w'.ownsRow w.heap.size 70 1 v (Num.limbs (Num.laid s n)).length (u32s (Num.limbs (Num.laid s n))) := by
  have HF := hid hF
  have HS := hid hs
  clear hF hs
  go_enter Tryz.func168, Tryz.ntmps168
  go_wp2_with (at_make; refine wpList_made Tryz.u32Slice rfl _ _ rfl (n + 2) rfl rfl (by go_num) (by omega) (by unfold maxLen; omega) ?_; intro w1 hown hb1)
  go_loopw [5, 6, 12] (fun v c i wr => ∃ (k C : Nat), k ≤ n ∧ i = .int .i64 k ∧ c = .int .u64 C ∧ C ≤ (if k = 0 then 0 else 18446744073) ∧ Car (Num.laid s k) w C k v wr) (fun _ _ i _ => n - (intOf i).toNat)
  case atStart =>
    exact ⟨0, 0, Nat.zero_le _, rfl, rfl, by simp, [], rfl, by simp, rfl, hown, hb1⟩
  case round =>
    clear hown hb1
    obtain ⟨k, C, hk, rfl, rfl, hC, out, hl, hlt9, hS, hown, hb⟩ := hrel
    have HL := hid hl
    have HS' := hid hS
    have H9 := hid hlt9
    have HB := hid hb
    have hsz := hb.size
    clear hl hS hlt9 hb
    by_cases hlt : k < n
    · have hsk : (C : Int) + (s k : Nat) ≤ 18446744073709551615 := by
        have := HS.out k hlt; split at this <;> simp_all <;> omega
      have HC := hid hC
      clear hC
      go_wp2_with fail
      refine (HF.out k wr hlt HB.out).mono ?_
      rintro e w2 ⟨rfl, q, rfl⟩
      go_wp2_with (at_builtin; refine wpList_push Tryz.u32Slice rfl _ _ rfl w.heap.size (w0 := wr.drewN q) hown rfl rfl rfl (by unfold maxLen; omega) (by omega) hsz ?_; intro v' w3 hown' hb')
      have R : Car (Num.laid s (k + 1)) w ((C + s k) / 1000000000) (k + 1) v' w3 :=
        Car.push HL.out H9.out HS'.out (by unfold Num.laid; simp only [Num.upto]; rw [Nat.add_mul]; omega) (by omega) hown' ((below_drewN HB.out q).trans hb')
      have R := hid R
      have hc2 : ((C : Int) + (s k : Nat)) / 1000000000 = (((C + s k) / 1000000000 : Nat) : Int) := by omega
      clear hown hown' hb' HS'
      go_wp2
      go_roundw
      case rel => exact ⟨k + 1, (C + s k) / 1000000000, by omega, by go_num, by go_num, by simp; omega, R.out⟩
      case measure => simp [intOf]; omega
    · obtain rfl : n = k := by omega
      have hC2 : C ≤ 18446744073 := by split at hC <;> omega
      have HO := hid hown
      clear hC hown hlt
      go_wp2
      go_loopw [5, 6] (fun v c wr => ∃ (k C : Nat), c = .int .u64 C ∧ k + C ≤ n + 18446744073 ∧ Car (Num.laid s n) w C k v wr) (fun _ c _ => (intOf c).toNat)
      case atStart => exact ⟨n, C, rfl, by omega, out, HL.out, H9.out, HS'.out, HO.out, HB.out⟩
      case round =>
        clear HB HO HL H9 HS' hsz hC2
        obtain ⟨k, C, rfl, hC, out, hl, hlt9, hS, hown, hb⟩ := hrel
        have HL := hid hl
        have HS' := hid hS
        have H9 := hid hlt9
        have HB := hid hb
        have hsz := hb.size
        clear hl hS hlt9 hb
        by_cases hlt : 0 < C
        · go_wp2_with (at_builtin; refine wpList_push Tryz.u32Slice rfl _ _ rfl w.heap.size hown rfl rfl rfl (by unfold maxLen; omega) (by omega) hsz ?_; intro v' w3 hown' hb')
          have R : Car (Num.laid s n) w (C / 1000000000) (k + 1) v' w3 :=
            Car.push HL.out H9.out HS'.out rfl (by omega) hown' (HB.out.trans hb')
          have R := hid R
          have hc2 : (C : Int) / 1000000000 = ((C / 1000000000 : Nat) : Int) := by omega
          clear hown hown' hb' HS'
          go_wp2
          go_roundw
          case rel => exact ⟨k + 1, C / 1000000000, by go_num, by omega, R.out⟩
          case measure => simp [intOf]; omega
        · obtain rfl : C = 0 := by omega
          obtain ⟨a, cap, rfl, hrow, hlen⟩ := owns_row hown
          have HO := hid hown
          have HR := hid hrow
          clear hown hrow hlen
          have hcap : k ≤ cap ∧ cap ≤ 9223372036854775807 := owns_cap HO.out
          go_wp2_with fail
          have hll := HL.out
          subst hll
          refine (limb_trim a cap out _ HR.out hcap.1 hcap.2).mono ?_
          rintro e w' ⟨rfl, rfl⟩
          go_wp2
          go_ret
          refine ⟨_, rfl, HB.out, ?_⟩
          have e1 := Num.trim_limbs out H9.out
          rw [show Num.worth out = Num.laid s n by have := HS'.out; omega] at e1
          rw [← e1]
          have e2 := owns_cut HO.out (trimLen out) (trimLen_le out)
          have e3 : (u32s out).take (trimLen out) = u32s (Num.trim out) := by rw [← take_trimLen]; simp [u32s, List.map_take]
          rw [e3] at e2
          exact e2

end Go.Proofs.YtmdgciolnpkccaaGreatDoor
