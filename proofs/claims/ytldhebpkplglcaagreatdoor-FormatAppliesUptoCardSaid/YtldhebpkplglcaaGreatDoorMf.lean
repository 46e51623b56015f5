/- The document's answer, second part: digits. The document's answer, third part: trim, Add, Sub of digits. The document's answer, fourth part: Sub, Cmp, Shift of digits. The document's answer, fifth part: From of digits. The document's answer, fifth part: To of digits. The document's answer, sixth part: Make, Head, Fits, To, Tell of numbers. The document's answer and the law, first part: Same, same. The law, second part: shown. -/
import Derived.Test.YtldhebpkplglcaaGreatDoorMd
import Derived.Test.YtldhebpkplglcaaGreatDoorMe
namespace Go.Proofs.YtldhebpkplglcaaGreatDoor
open Go.RowKit

def u8s (ds : List Nat) : List Value := ds.map fun (d : Nat) => Value.int .u8 (d : Int)
/-- Digits, the lowest first, in memory. -/
structure U8 (w : World) (a : Option Addr) (ds : List Nat) : Prop where
  row : Row w a (u8s ds)
  lt : ∀ d ∈ ds, d < 10
theorem U8.below {w w' : World} {a : Option Addr} {ds : List Nat} (h : U8 w a ds) (hb : Below w.heap.size w w') : U8 w' a ds := ⟨h.row.below hb, h.lt⟩
theorem U8.isSome {w : World} {a : Option Addr} {ds : List Nat} (h : U8 w a ds) (hn : ds ≠ []) : ∃ b off, a = some ⟨b, off, none⟩ := h.row.isSome (by intro e; exact hn (by simpa [u8s] using e))
theorem U8.getD_lt {w : World} {a : Option Addr} {ds : List Nat} (h : U8 w a ds) (i : Nat) : ds.getD i 0 < 10 := by
  by_cases hi : i < ds.length
  · have := h.lt (ds.getD i 0) (by simp [hi])
    exact this
  · simp [List.getElem?_eq_none (show ds.length ≤ i by omega)]
theorem Row.u8 {w : World} {b off : Nat} {ds : List Nat} (h : Row w (some ⟨b, off, none⟩) (u8s ds)) {j : Nat} (hj : j < ds.length) : w.cell? ⟨b, off + j, none⟩ = some (.int .u8 ((ds.getD j 0 : Nat) : Int)) := by
  have := h.cellAt (j := j) (by simpa [u8s] using hj)
  rw [this]
  simp [u8s, hj]
/-- Digits in memory of the call's own. -/
def OutN (w : World) (ds : List Nat) (e : Ending) (w' : World) : Prop :=
  ∃ a cap, e = .returned (.slice a ds.length cap) ∧ Below w.heap.size w w' ∧ w'.ownsRow w.heap.size 5 1 (.slice a ds.length cap) ds.length (u8s ds)
theorem u8_of {w : World} {base m cap : Nat} {a : Option Addr} {ds : List Nat} (h : w.ownsRow base 5 1 (.slice a m cap) m (u8s ds)) (hd : ∀ d ∈ ds, d < 10) : U8 w a ds := ⟨owned_row h, hd⟩
theorem numSlice : SliceOf Tryz.prog 166 5 (.int .u8 0) 1 := ⟨Tryz.underlying166, by kernel_rfl, rfl⟩

theorem ref1_digit_in (b off n cap i : Nat) (x : Int) (w : World) (hi : i < n) (_hn : n ≤ 9223372036854775807) (hc : w.cell? ⟨b, off + i, none⟩ = some (.int .u8 x)) (h0 : 0 ≤ x) (h1 : x < 256) :
    Calls Tryz.prog 231 #[.slice (some ⟨b, off, none⟩) n cap, .int .i64 i] w fun e w' => e = .returned (.int .i64 x) ∧ w = w' := by
  go_enter Tryz.func231, Tryz.ntmps231
  go_wp2
  go_ret
  exact ⟨by simp; try omega, rfl⟩
theorem ref1_digit_out (a : Option Addr) (n cap i : Nat) (w : World) (hi : n ≤ i) :
    Calls Tryz.prog 231 #[.slice a n cap, .int .i64 i] w fun e w' => e = .returned (.int .i64 0) ∧ w = w' := by
  go_enter Tryz.func231, Tryz.ntmps231
  go_wp2
  go_ret
  exact ⟨rfl, rfl⟩
theorem ref1_digit (a : Option Addr) (cap i : Nat) (ds : List Nat) (w : World) (h : U8 w a ds) (hn : ds.length ≤ 9223372036854775807) :
    Calls Tryz.prog 231 #[.slice a ds.length cap, .int .i64 i] w fun e w' => e = .returned (.int .i64 ((ds.getD i 0 : Nat) : Int)) ∧ w = w' := by
  by_cases hi : i < ds.length
  · obtain ⟨b, off, rfl⟩ := h.isSome (by intro e; subst e; simp at hi)
    have := h.getD_lt i
    exact ref1_digit_in b off _ cap i _ w hi hn (h.row.u8 hi) (by omega) (by omega)
  · rw [show ds.getD i 0 = 0 by simp [List.getElem?_eq_none (show ds.length ≤ i by omega)]]
    exact ref1_digit_out a _ cap i w (by omega)

set_option maxRecDepth 100000 in
set_option maxHeartbeats 400000 in
theorem ref1_Small (n : Nat) (w : World) (hn : n ≤ 18446744073709551615) :
    Calls Tryz.prog 167 #[.int .u64 n] w (OutN w (Num.digs 10 n)) := by
  have HL : Hid ((Num.digs 10 n).length ≤ 20) := (Num.digs_length_le (by decide)).2 (Nat.lt_of_le_of_lt hn (by decide))
  go_enter Tryz.func167, Tryz.ntmps167
  go_wp2
  go_loopw [0, 3] (fun i v wr => ∃ (m : Nat) (out : List Nat), m ≤ n ∧ i = .int .u64 m ∧ Num.digs 10 n = out ++ Num.digs 10 m ∧ wr.ownsRow w.heap.size 5 1 v out.length (u8s out) ∧ Below w.heap.size w wr) (fun i _ _ => (intOf i).toNat)
  case atStart => exact ⟨n, [], Nat.le_refl _, rfl, rfl, World.ownsRow_nil _ _ _ _, Below.refl _ _⟩
  case round =>
    obtain ⟨m, out, hm, rfl, hd, hown, hb⟩ := hrel
    by_cases h0 : m = 0
    · subst h0
      have HD := hid (show Num.digs 10 n = out by rw [hd, Num.digs_zero, List.append_nil])
      have HO := hid hown
      have HB := hid hb
      clear hd hown hb
      go_wp2
      go_ret
      obtain ⟨a, cap, rfl, _, _⟩ := owns_row HO.out
      refine ⟨a, cap, by rw [HD.out]; rfl, HB.out, ?_⟩
      rw [HD.out]; exact HO.out
    · have e := Num.digs_pos (b := 10) (by decide) h0
      have hlen : out.length + 1 ≤ 20 := by
        have := HL.out
        rw [hd, e, List.length_append, List.length_cons] at this; omega
      have HD := hid (show Num.digs 10 n = (out ++ [m % 10]) ++ Num.digs 10 (m / 10) by rw [hd, e]; simp)
      have hsz := hb.size
      have HB := hid hb
      have hpos : (0 : Int) < (m : Int) := by omega
      clear hd e hb
      go_wp2_with (at_builtin; refine wpList_push numSlice rfl _ _ rfl w.heap.size (w0 := wr) hown rfl rfl rfl (by unfold maxLen; omega) (by omega) hsz ?_; intro v' w3 hown' hb')
      have HOW := hid (show w3.ownsRow w.heap.size 5 1 v' (out ++ [m % 10]).length (u8s (out ++ [m % 10])) by simpa [u8s] using hown')
      have HB3 := hid (HB.out.trans hb')
      have hlt : m / 10 < m := by omega
      clear hown' hb' hown HB
      go_wp2
      go_roundw
      case rel => exact ⟨m / 10, out ++ [m % 10], by omega, by go_num, HD.out, HOW.out, HB3.out⟩
      case measure => simp [intOf]; omega

end Go.Proofs.YtldhebpkplglcaaGreatDoor

namespace Go.Proofs.YtldhebpkplglcaaGreatDoor
open Go.RowKit

/-- Digits that read, wherever they lie. -/
def OutR8 (w : World) (ds : List Nat) (e : Ending) (w' : World) : Prop :=
  ∃ a cap, e = .returned (.slice a ds.length cap) ∧ Below w.heap.size w w' ∧ U8 w' a ds ∧ ds.length ≤ cap ∧ cap ≤ 9223372036854775807 ∧ (a = none → cap = 0)
theorem OutR8.nil {w w' : World} (h : Below w.heap.size w w') : OutR8 w [] (.returned (.slice none 0 0)) w' :=
  ⟨none, 0, rfl, h, ⟨Row.nil _ _, fun d hd => by cases hd⟩, Nat.le_refl _, by decide, fun _ => rfl⟩
theorem OutR8.of_below {w w1 w' : World} {ds : List Nat} {e : Ending} (h : OutR8 w1 ds e w') (hb : Below w.heap.size w w1) : OutR8 w ds e w' := by
  obtain ⟨a, cap, h1, h2, h3⟩ := h
  exact ⟨a, cap, h1, below_trans hb h2, h3⟩
theorem owns_none {w : World} {base : Nat} {e : TypeId} {n cap m : Nat} {xs : List Value} {a : Option Addr} (h : w.ownsRow base e 1 (.slice a n cap) m xs) : a = none → cap = 0 := by
  intro ha
  subst ha
  rcases h.2 with ⟨e1, rfl⟩ | ⟨g, cap', cur, e1, _⟩
  · injection e1
  · injection e1 with e1; cases e1
theorem OutN.read {w w' : World} {ds : List Nat} {e : Ending} (h : OutN w ds e w') (hd : ∀ d ∈ ds, d < 10) : OutR8 w ds e w' := by
  obtain ⟨a, cap, h1, h2, h3⟩ := h
  exact ⟨a, cap, h1, h2, u8_of h3 hd, (owns_cap h3).1, (owns_cap h3).2, owns_none h3⟩
theorem digs_ten_lt (n : Nat) : ∀ d ∈ Num.digs 10 n, d < 10 := Num.digs_lt (by decide) n
theorem trim_ten (xs : List Nat) (h : ∀ x ∈ xs, x < 10) : Num.trim xs = Num.digs 10 (Num.val 10 xs) := Num.trim_eq (by decide) xs h

set_option maxHeartbeats 400000 in
theorem r_trim_some (b off n cap : Nat) (xs : List Nat) (w : World) (_hn : n ≤ 9223372036854775807) (hx : xs.length = n) (hc : ∀ j, j < n → w.cell? ⟨b, off + j, none⟩ = some (.int .u8 ((xs.getD j 0 : Nat) : Int))) (hcap : n ≤ cap) (hcap2 : cap ≤ 9223372036854775807) :
    Calls Tryz.prog 232 #[.slice (some ⟨b, off, none⟩) n cap] w fun e w' => e = .returned (.slice (some ⟨b, off, none⟩) (trimLen xs) cap) ∧ w = w' := by
  have H : Hid (xs.length = n) := hx
  clear hx
  go_enter Tryz.func232, Tryz.ntmps232
  go_wp2
  go_loop [3] (fun l => ∃ k : Nat, k ≤ n ∧ l = .int .i64 k ∧ trimLen (xs.take k) = trimLen xs) (fun l => (intOf l).toNat)
  case atStart => exact ⟨n, Nat.le_refl _, rfl, by rw [← H.out, List.take_length]⟩
  case round =>
    obtain ⟨k, hk, rfl, hrel⟩ := hrel
    by_cases hk0 : k = 0
    · subst hk0
      have HR := hid hrel
      clear hrel hc H
      go_wp2
      go_ret
      exact ⟨by rw [← HR.out]; rfl, rfl⟩
    · obtain ⟨m, rfl⟩ : ∃ m, k = m + 1 := ⟨k - 1, by omega⟩
      have hc1 := hc m (by omega)
      have hlen : m < xs.length := by have := H.out; omega
      have hsub : ((m + 1 : Nat) : Int) - 1 = (m : Int) := by omega
      by_cases h0 : xs.getD m 0 = 0
      · have HR := hid ((trimLen_go xs m hlen h0).symm.trans hrel)
        rw [h0] at hc1
        clear hrel hc H h0 hsub
        go_wp2
        go_round
        case rel => exact ⟨m, by omega, by go_num, HR.out⟩
        case measure => simp [intOf]
      · have HR := hid ((trimLen_stop xs m hlen h0).symm.trans hrel)
        obtain ⟨x, hx⟩ : ∃ x, x = xs.getD m 0 := ⟨_, rfl⟩
        rw [← hx] at hc1 h0
        have hne : ((x : Int) == 0) = false := by simpa using h0
        clear hrel hc H h0 hsub hx hlen
        go_wp2
        go_ret
        exact ⟨by rw [← HR.out]; rfl, rfl⟩
theorem r_trim_empty (a : Option Addr) (cap : Nat) (w : World) :
    Calls Tryz.prog 232 #[.slice a 0 cap] w fun e w' => e = .returned (.slice a 0 cap) ∧ w = w' := by
  go_enter Tryz.func232, Tryz.ntmps232
  go_wp2
  refine wp_loop_rounds 1 ?_
  rw [rounds_succ]
  go_wp2
  go_ret
  exact ⟨rfl, rfl⟩
theorem r_trim (a : Option Addr) (n cap : Nat) (xs : List Nat) (w : World) (hl : xs.length = n) (h : Row w a (u8s xs)) (hcap : n ≤ cap) (hcap2 : cap ≤ 9223372036854775807) :
    Calls Tryz.prog 232 #[.slice a n cap] w fun e w' => e = .returned (.slice a (trimLen xs) cap) ∧ w = w' := by
  subst hl
  by_cases hx : xs = []
  · subst hx; exact r_trim_empty a cap w
  · obtain ⟨b, off, rfl⟩ := h.isSome (by intro e; exact hx (by simpa [u8s] using e))
    exact r_trim_some b off _ cap xs w (by omega) rfl (fun j hj => Row.u8 h hj) hcap hcap2
/-- Digits that read, and lie behind all that was there. -/
def OutO (w : World) (ds : List Nat) (e : Ending) (w' : World) : Prop :=
  ∃ a cap, e = .returned (.slice a ds.length cap) ∧ Below w.heap.size w w' ∧ U8 w' a ds ∧ ds.length ≤ cap ∧ cap ≤ 9223372036854775807 ∧ (a = none → cap = 0) ∧ (∀ A, a = some A → w.heap.size ≤ A.block)
theorem OutO.read {w w' : World} {ds : List Nat} {e : Ending} (h : OutO w ds e w') : OutR8 w ds e w' := by
  obtain ⟨a, cap, h1, h2, h3, h4, h5, h6, _⟩ := h
  exact ⟨a, cap, h1, h2, h3, h4, h5, h6⟩
theorem OutO.nil {w w' : World} (h : Below w.heap.size w w') : OutO w [] (.returned (.slice none 0 0)) w' :=
  ⟨none, 0, rfl, h, ⟨Row.nil _ _, fun d hd => by cases hd⟩, Nat.le_refl _, by decide, fun _ => rfl, fun _ h => by cases h⟩
theorem owns_block {w : World} {base : Nat} {e : TypeId} {n cap m : Nat} {xs : List Value} {a : Option Addr} (h : w.ownsRow base e 1 (.slice a n cap) m xs) : ∀ A, a = some A → base ≤ A.block := by
  intro A hA
  subst hA
  rcases h.2 with ⟨e1, rfl⟩ | ⟨g, cap', cur, e1, hb, _⟩
  · injection e1 with e1; cases e1
  · injection e1 with e1; cases e1; exact hb
/-- 'trim' at the end of a function that has laid digits down. -/
theorem r_trim_own (a : Option Addr) (n cap : Nat) (out : List Nat) (w wr : World) (hl : out.length = n) (h9 : ∀ x ∈ out, x < 10) (ho : wr.ownsRow w.heap.size 5 1 (.slice a n cap) n (u8s out)) (hb : Below w.heap.size w wr) :
    Calls Tryz.prog 232 #[.slice a n cap] wr fun e w' => OutO w (Num.digs 10 (Num.val 10 out)) e w' ∧ wr = w' := by
  refine (r_trim a n cap out wr hl (owned_row ho) (owns_cap ho).1 (owns_cap ho).2).mono ?_
  rintro e w' ⟨rfl, rfl⟩
  refine ⟨?_, rfl⟩
  have e1 := trim_ten out h9
  have e0 : (Num.digs 10 (Num.val 10 out)).length = trimLen out := by rw [← e1]; rfl
  have hle := trimLen_le out
  refine ⟨a, cap, by rw [e0], hb, ⟨?_, digs_ten_lt _⟩, by rw [e0]; have := (owns_cap ho).1; omega, (owns_cap ho).2, owns_none ho, owns_block ho⟩
  rw [← e1, ← take_trimLen]
  have := (owned_row ho).take (trimLen out)
  simpa [u8s, List.map_take] using this
theorem r_trim_out (a : Option Addr) (n cap : Nat) (out : List Nat) (w wr : World) (hl : out.length = n) (h9 : ∀ x ∈ out, x < 10) (ho : wr.ownsRow w.heap.size 5 1 (.slice a n cap) n (u8s out)) (hb : Below w.heap.size w wr) :
    Calls Tryz.prog 232 #[.slice a n cap] wr fun e w' => OutR8 w (Num.digs 10 (Num.val 10 out)) e w' ∧ wr = w' := by
  refine (r_trim_own a n cap out w wr hl h9 ho hb).mono ?_
  rintro e w' ⟨h, rfl⟩
  exact ⟨h.read, rfl⟩

/-- What holds at the head of a round of 'Add'. -/
def AddR (w : World) (xs ys : List Nat) (C k : Nat) (v : Value) (wr : World) : Prop :=
  ∃ out : List Nat, out.length = k ∧ (∀ x ∈ out, x < 10) ∧ Num.val 10 out + C * 10 ^ k = Num.val 10 (xs.take k) + Num.val 10 (ys.take k) ∧ wr.ownsRow w.heap.size 5 1 v k (u8s out) ∧ Below w.heap.size w wr
theorem AddR.push {w w1 : World} {xs ys out : List Nat} {C k T : Nat} {v' : Value} {x : Int} (h1 : out.length = k) (h2 : ∀ x ∈ out, x < 10) (h3 : Num.val 10 out + C * 10 ^ k = Num.val 10 (xs.take k) + Num.val 10 (ys.take k))
    (hT : T = xs.getD k 0 + ys.getD k 0 + C) (hx : x = ((T % 10 : Nat) : Int)) (hown : w1.ownsRow w.heap.size 5 1 v' (k + 1) (u8s out ++ [.int .u8 x])) (hb : Below w.heap.size w w1) : AddR w xs ys (T / 10) (k + 1) v' w1 := by
  subst hx
  refine ⟨out ++ [T % 10], by simp [h1], ?_, ?_, by simpa [u8s] using hown, hb⟩
  · intro y hy
    rcases List.mem_append.1 hy with h | h
    · exact h2 y h
    · simp at h; omega
  · rw [Num.val_snoc, h1, Num.val_take_succ, Num.val_take_succ, Nat.pow_succ]
    obtain ⟨P, hP⟩ : ∃ P, P = 10 ^ k := ⟨_, rfl⟩
    rw [← hP] at h3 ⊢
    have e1 : P * (T % 10) + T / 10 * (P * 10) = P * T := by
      have := Nat.mod_add_div T 10
      rw [Nat.mul_comm P 10, ← Nat.mul_assoc, Nat.mul_comm (T / 10 * 10) P, ← Nat.mul_add]
      congr 1; omega
    have e2 : P * T = P * xs.getD k 0 + P * ys.getD k 0 + C * P := by rw [hT, Nat.mul_add, Nat.mul_add, Nat.mul_comm P C]
    omega

set_option maxRecDepth 100000 in
set_option maxHeartbeats 1600000 in
theorem ref1_Add (a a2 : Option Addr) (cap cap2 : Nat) (xs ys : List Nat) (w : World) (h : U8 w a xs) (h2 : U8 w a2 ys) (hn : xs.length ≤ 1000000000) (hn2 : ys.length ≤ 1000000000) :
    Calls Tryz.prog 206 #[.slice a xs.length cap, .slice a2 ys.length cap2] w (OutR8 w (Num.digs 10 (Num.val 10 xs + Num.val 10 ys))) := by
  have CX := fun W k (hb : Below w.heap.size w W) => ref1_digit a cap k xs W (h.below hb) (by omega)
  have CY := fun W k (hb : Below w.heap.size w W) => ref1_digit a2 cap2 k ys W (h2.below hb) (by omega)
  have BX := fun k => h.getD_lt k
  have BY := fun k => h2.getD_lt k
  obtain ⟨n, hnx⟩ : ∃ n, n = xs.length := ⟨_, rfl⟩
  obtain ⟨n2, hny⟩ : ∃ n, n = ys.length := ⟨_, rfl⟩
  rw [← hnx] at CX hn ⊢
  rw [← hny] at CY hn2 ⊢
  obtain ⟨M, hM⟩ : ∃ M, M = max n n2 := ⟨_, rfl⟩
  have hM1 : n ≤ M := by omega
  have hM2 : n2 ≤ M := by omega
  have hM3 : M ≤ 1000000000 := by omega
  have ZX : ∀ k, n ≤ k → xs.getD k 0 = 0 := fun k hk => by simp [List.getElem?_eq_none (show xs.length ≤ k by omega)]
  have ZY : ∀ k, n2 ≤ k → ys.getD k 0 = 0 := fun k hk => by simp [List.getElem?_eq_none (show ys.length ≤ k by omega)]
  replace CX := hid CX
  replace CY := hid CY
  replace BX := hid BX
  replace BY := hid BY
  replace ZX := hid ZX
  replace ZY := hid ZY
  have HNX := hid hnx
  have HNY := hid hny
  clear h h2 hnx hny hM
  go_enter Tryz.func206, Tryz.ntmps206
  go_wp2
  go_loopw [5, 6, 7] (fun v c i wr => ∃ (k C : Nat), k ≤ M + 1 ∧ i = .int .i64 k ∧ c = .int .i64 C ∧ C ≤ 1 ∧ (M < k → C = 0) ∧ AddR w xs ys C k v wr) (fun _ _ i _ => M + 2 - (intOf i).toNat)
  case atStart => exact ⟨0, 0, Nat.zero_le _, rfl, rfl, by omega, fun _ => rfl, [], rfl, by simp, by simp [Num.val_nil], World.ownsRow_nil _ _ _ _, Below.refl _ _⟩
  case round =>
    obtain ⟨k, C, hk, rfl, rfl, hC, hMC, out, hl, hlt, hS, hown, hb⟩ := hrel
    have HL := hid hl
    have HLT := hid hlt
    have HS := hid hS
    have HB := hid hb
    have hsz := hb.size
    clear hl hlt hS hb
    by_cases hgo : k < n ∨ k < n2 ∨ 0 < C
    · have hkM : k ≤ M := by
        rcases hgo with h | h | h
        · omega
        · omega
        · have := fun h' => hMC h'; omega
      have bx := BX.out k
      have bY := BY.out k
      obtain ⟨x, hx⟩ : ∃ x, x = xs.getD k 0 := ⟨_, rfl⟩
      obtain ⟨y, hy⟩ : ∃ y, y = ys.getD k 0 := ⟨_, rfl⟩
      have CX1 := CX.out wr k HB.out
      have CY1 := CY.out wr k HB.out
      rw [← hx] at CX1 bx
      rw [← hy] at CY1 bY
      have hzz : M < k + 1 → (x + y + C) / 10 = 0 := fun h => by
        have h1 := ZX.out k
        have h2 := ZY.out k
        omega
      have HZZ := hid hzz
      have CX1 := hid CX1
      have CY1 := hid CY1
      have HX := hid hx
      have HY := hid hy
      have HMC := hid hMC
      clear hx hy hMC hzz
      have hcases : k < n ∨ (¬ k < n ∧ k < n2) ∨ (¬ k < n ∧ ¬ k < n2 ∧ 0 < C) := by omega
      clear hgo
      rcases hcases with h1 | ⟨h1, h3⟩ | ⟨h1, h3, h4⟩
      all_goals
        go_wp2_with fail
        refine (CX1.out).mono ?_
        rintro e1 w1 ⟨rfl, rfl⟩
        go_wp2_with fail
        refine (CY1.out).mono ?_
        rintro e1 w1 ⟨rfl, rfl⟩
        go_wp2_with (at_builtin; refine wpList_push numSlice rfl _ _ rfl w.heap.size (w0 := wr) hown rfl rfl rfl (by unfold maxLen; omega) (by omega) hsz ?_; intro v' w3 hown' hb')
        have R := hid (AddR.push (T := x + y + C) HL.out HLT.out HS.out (by rw [← HX.out, ← HY.out]) (by omega) hown' (HB.out.trans hb'))
        have hq : ((x : Int) + y + C) / 10 = (((x + y + C) / 10 : Nat) : Int) := by omega
        clear hown hown' hb'
        go_wp2
        go_roundw
        case rel => exact ⟨k + 1, (x + y + C) / 10, by omega, by go_num, by go_num, by omega, HZZ.out, R.out⟩
        case measure => simp [intOf]; omega
    · obtain rfl : C = 0 := by omega
      have hk1 : ¬ k < n := by omega
      have hk2 : ¬ k < n2 := by omega
      have HV : Hid (Num.val 10 out = Num.val 10 xs + Num.val 10 ys) := by
        have := HS.out
        rw [List.take_of_length_le (by rw [← HNX.out]; omega), List.take_of_length_le (by rw [← HNY.out]; omega)] at this
        show _ = _; omega
      obtain ⟨a', cap', rfl, _, _⟩ := owns_row hown
      have CT := hid (r_trim_out a' k cap' out w wr HL.out HLT.out hown HB.out)
      clear hgo hown hMC
      go_wp2_with fail
      refine (CT.out).mono ?_
      rintro e w' ⟨ho, rfl⟩
      rw [HV.out] at ho
      have HO := hid ho
      clear ho
      obtain ⟨a3, cap3, rfl, h3⟩ := HO.out
      have H3 := hid h3
      clear h3 HO
      go_wp2
      go_ret
      exact ⟨a3, cap3, rfl, H3.out⟩

end Go.Proofs.YtldhebpkplglcaaGreatDoor

namespace Go.Proofs.YtldhebpkplglcaaGreatDoor
open Go.RowKit

/-- What holds at the head of a round of 'Sub'. -/
def SubR (w : World) (xs ys : List Nat) (C k : Nat) (v : Value) (wr : World) : Prop :=
  ∃ out : List Nat, out.length = k ∧ (∀ x ∈ out, x < 10) ∧ Num.val 10 out + Num.val 10 (ys.take k) = Num.val 10 (xs.take k) + C * 10 ^ k ∧ wr.ownsRow w.heap.size 5 1 v k (u8s out) ∧ Below w.heap.size w wr
theorem SubR.push {w w1 : World} {xs ys out : List Nat} {C C' k T : Nat} {v' : Value} {x : Int} (h1 : out.length = k) (h2 : ∀ x ∈ out, x < 10) (h3 : Num.val 10 out + Num.val 10 (ys.take k) = Num.val 10 (xs.take k) + C * 10 ^ k)
    (hT : T + ys.getD k 0 + C = xs.getD k 0 + C' * 10) (hT9 : T < 10) (hx : x = (T : Int)) (hown : w1.ownsRow w.heap.size 5 1 v' (k + 1) (u8s out ++ [.int .u8 x])) (hb : Below w.heap.size w w1) : SubR w xs ys C' (k + 1) v' w1 := by
  subst hx
  refine ⟨out ++ [T], by simp [h1], ?_, ?_, by simpa [u8s] using hown, hb⟩
  · intro y hy
    rcases List.mem_append.1 hy with h | h
    · exact h2 y h
    · simp at h; omega
  · rw [Num.val_snoc, h1, Num.val_take_succ, Num.val_take_succ, Nat.pow_succ]
    obtain ⟨P, hP⟩ : ∃ P, P = 10 ^ k := ⟨_, rfl⟩
    rw [← hP] at h3 ⊢
    have e1 : P * (T + ys.getD k 0 + C) = P * (xs.getD k 0 + C' * 10) := by rw [hT]
    rw [Nat.mul_add, Nat.mul_add, Nat.mul_add, Nat.mul_comm P C, show P * (C' * 10) = C' * (P * 10) by ac_rfl] at e1
    omega

theorem u8s_one (xs : List Nat) : ∀ u ∈ u8s xs, u.oneCell' = true := by
  intro u hu
  obtain ⟨d, _, rfl⟩ := List.mem_map.1 (show u ∈ xs.map _ from hu)
  rfl
set_option maxRecDepth 100000 in
theorem ref1_Shift (a : Option Addr) (cap m k : Nat) (w : World) (h : U8 w a (Num.digs 10 m)) (hc : a = none → cap = 0) (hm : (Num.digs 10 m).length ≤ 1000000000) (hk : k ≤ 1000000000) :
    Calls Tryz.prog 207 #[.slice a (Num.digs 10 m).length cap, .int .i64 k] w (OutR8 w (Num.digs 10 (m * 10 ^ k))) := by
  by_cases h0 : m = 0
  · subst h0
    rw [Nat.zero_mul]
    show Calls Tryz.prog 207 #[.slice a 0 cap, .int .i64 k] w _
    clear h hc hm
    go_enter Tryz.func207, Tryz.ntmps207
    go_wp2
    go_ret
    exact OutR8.nil (Below.refl _ _)
  · have hl : 0 < (Num.digs 10 m).length := Num.length_pos (by decide) h0
    have hlz : (((Num.digs 10 m).length : Int) == 0) = false := by rw [beq_eq_false_iff_ne]; omega
    rw [Num.digs_mul_pow (by decide) h0]
    obtain ⟨ds, hds⟩ : ∃ ds, ds = Num.digs 10 m := ⟨_, rfl⟩
    rw [← hds] at h hm hl hlz ⊢
    have hlt : ∀ d ∈ ds, d < 10 := h.lt
    have H := hid h
    have HC := hid hc
    have HLT := hid hlt
    obtain ⟨n, hn⟩ : ∃ n, n = ds.length := ⟨_, rfl⟩
    rw [← hn] at hm hl hlz ⊢
    have HN := hid hn
    clear h hc hlt hds hn
    go_enter Tryz.func207, Tryz.ntmps207
    have hrl : (u8s ds).length = n := by rw [HN.out]; simp [u8s]
    have HRL := hid hrl
    clear hrl
    go_wp2_with (first | (at_make; refine wpList_full numSlice rfl _ _ rfl k rfl rfl rfl rfl (by omega) (by unfold maxLen; omega) ?_; intro w1 hown0 hb1; have hown : w1.ownsRow w.heap.size 5 1 (.slice (some ⟨w.heap.size, 0, none⟩) k k) k (u8s (List.replicate k 0)) := (by simpa [u8s] using hown0); have hrow := (H.out.row).below hb1; have hsz := hb1.size; clear hown0) | (at_builtin; refine wpList_extend numSlice rfl _ _ rfl w.heap.size hown rfl rfl hrow HRL.out HC.out (u8s_one ds) (by unfold maxLen; omega) (by omega) hsz ?_; intro v' w3 hown' hb'))
    have HO := hid hown'
    have HB3 := hid (hb1.trans hb')
    clear hown hown' hb' hrow hb1
    go_wp2
    go_ret
    have hU : u8s (List.replicate k 0) ++ u8s ds = u8s (List.replicate k 0 ++ ds) := by simp [u8s]
    have ho := HO.out
    rw [hU] at ho
    obtain ⟨a3, cap3, rfl, _, hlen⟩ := owns_row ho
    have hl3 : (List.replicate k 0 ++ ds).length = k + n := by simp [HN.out]
    refine OutN.read ⟨a3, cap3, by rw [hl3]; rfl, HB3.out, by rw [hl3]; exact ho⟩ ?_
    intro d hd
    rcases List.mem_append.1 hd with h | h
    · have := List.eq_of_mem_replicate h; omega
    · exact HLT.out d h

end Go.Proofs.YtldhebpkplglcaaGreatDoor

namespace Go.Proofs.YtldhebpkplglcaaGreatDoor
open Go.RowKit

theorem b9_pow (k : Nat) : 10 ^ (9 * k) = Num.B9 ^ k := by rw [Nat.pow_mul]; rfl
theorem worth_take_succ (xs : List Nat) (k : Nat) : Num.worth (xs.take (k + 1)) = Num.worth (xs.take k) + xs.getD k 0 * 10 ^ (9 * k) := by
  unfold Num.worth; rw [Num.val_take_succ, b9_pow, Nat.mul_comm]
theorem worth_take_digs {xs : List Nat} (h : ∀ x ∈ xs, x < 4294967296) (hl : xs.length ≤ 200) (k : Nat) : (Num.digs 10 (Num.worth (xs.take k))).length ≤ 1809 :=
  (digs_bound (xs := xs.take k) (fun x hx => h x (List.mem_of_mem_take hx)) (by simp; omega)).1

set_option maxRecDepth 100000 in
set_option maxHeartbeats 1600000 in
theorem r_From_some (b off n cap : Nat) (xs : List Nat) (w : World) (hx : xs.length = n) (h : U32 w (some ⟨b, off, none⟩) xs) (hl : n ≤ 200) :
    Calls Tryz.prog 165 #[.slice (some ⟨b, off, none⟩) n cap] w (OutR8 w (Num.digs 10 (Num.worth xs))) := by
  have C1 := fun j (hj : j < n) => h.row.u32 (j := j) (by omega)
  have BX := fun k => h.getD_lt k
  have HD := fun k => worth_take_digs h.lt (by omega) k
  have HX := hid hx
  replace C1 := hid C1
  replace BX := hid BX
  replace HD := hid HD
  clear h hx
  go_enter Tryz.func165, Tryz.ntmps165
  go_wp2
  go_loopw [3, 4] (fun v i wr => ∃ (k : Nat) (ao : Option Addr) (co : Nat), k ≤ n ∧ i = .int .i64 k ∧ v = .slice ao (Num.digs 10 (Num.worth (xs.take k))).length co ∧ U8 wr ao (Num.digs 10 (Num.worth (xs.take k))) ∧ (Num.digs 10 (Num.worth (xs.take k))).length ≤ co ∧ co ≤ 9223372036854775807 ∧ (ao = none → co = 0) ∧ Below w.heap.size w wr) (fun _ i _ => n - (intOf i).toNat)
  case atStart => exact ⟨0, none, 0, Nat.zero_le _, rfl, rfl, ⟨Row.nil _ _, fun d hd => by cases hd⟩, Nat.le_refl _, by decide, fun _ => rfl, Below.refl _ _⟩
  case round =>
    obtain ⟨k, ao, co, hk, rfl, rfl, hu, hc1, hc2, hc3, hb⟩ := hrel
    have HU := hid hu
    have HB := hid hb
    have HC := hid (⟨hc1, hc2, hc3⟩ : _ ∧ _ ∧ _)
    clear hu hb hc1 hc2 hc3
    by_cases hgo : k < n
    · have bx := BX.out k
      have hd := HD.out k
      have hd2 := HD.out (k + 1)
      have g0 := C1.out k hgo
      have es := worth_take_succ xs k
      obtain ⟨x, hx⟩ : ∃ x, x = xs.getD k 0 := ⟨_, rfl⟩
      obtain ⟨S, hS⟩ : ∃ S, S = Num.worth (xs.take k) := ⟨_, rfl⟩
      obtain ⟨S', hS'⟩ : ∃ S, S = Num.worth (xs.take (k + 1)) := ⟨_, rfl⟩
      rw [← hS, ← hS', ← hx] at es
      rw [← hS'] at hd2
      rw [← hS] at hd HU HC ⊢
      rw [← hx] at bx
      have g1 : wr.cell? ⟨b, off + k, none⟩ = some (.int .u32 (x : Int)) := by rw [hx]; exact (HB.out.cell (cell_lt g0)).trans g0
      have CS := ref1_Small x wr (by omega)
      have hxd : (Num.digs 10 x).length ≤ 10 := (Num.digs_length_le (by decide)).2 (by omega)
      have CH := fun W am cm (hu : U8 W am (Num.digs 10 x)) (hc : am = none → cm = 0) => ref1_Shift am cm x (9 * k) W hu hc (by omega) (by omega)
      have hyd : (Num.digs 10 (x * 10 ^ (9 * k))).length ≤ 2000 := by
        refine Nat.le_trans ((Num.digs_length_le (k := 10 + 9 * k) (by decide)).2 ?_) (by omega)
        rw [Nat.pow_add]
        exact Nat.mul_lt_mul_of_pos_right (by omega) (Nat.pow_pos (by decide))
      obtain ⟨Y, hY⟩ : ∃ Y, Y = x * 10 ^ (9 * k) := ⟨_, rfl⟩
      rw [← hY] at CH hyd es
      have CA := fun W am cm (hu : U8 W am (Num.digs 10 Y)) (hb : Below wr.heap.size wr W) => ref1_Add ao am co cm (Num.digs 10 S) (Num.digs 10 Y) W (HU.out.below hb) hu (by omega) (by omega)
      simp only [Num.val_digs (b := 10) (by decide), ← es] at CA
      have w9 := hid (show ((9 : Int) * k) = ((9 * k : Nat) : Int) by omega)
      rw [hS'] at hd2 CA
      replace CS := hid CS
      replace CH := hid CH
      replace CA := hid CA
      clear hx hS hS' hY es g0 hxd hyd hd
      go_wp2_with fail
      refine (CS.out).mono ?_
      rintro e1 w1 ⟨a1, c1, rfl, hb1, ho1⟩
      have HB1 := hid hb1
      have HU1 := hid (u8_of ho1 (digs_ten_lt x))
      have HN1 := hid (owns_none ho1)
      clear hb1 ho1 CS
      go_wp2_with fail
      rw [w9.out]
      refine (CH.out _ _ _ HU1.out HN1.out).mono ?_
      rintro e2 w2 ⟨a2, c2, rfl, hb2, hu2, _⟩
      have HB2 := hid (below_trans HB1.out hb2)
      have HU2 := hid hu2
      clear hb2 hu2 CH HB1 HU1 HN1
      go_wp2_with fail
      refine (CA.out _ _ _ HU2.out HB2.out).mono ?_
      rintro e3 w3 ⟨a3, c3, rfl, hb3, hu3⟩
      have HB3 := hid (below_trans HB.out (below_trans HB2.out hb3))
      have HU3 := hid hu3
      clear hb3 hu3 CA HB2 HU2
      go_wp2
      go_roundw
      case rel => exact ⟨k + 1, a3, c3, by omega, by go_num, rfl, HU3.out.1, HU3.out.2.1, HU3.out.2.2.1, HU3.out.2.2.2, HB3.out⟩
      case measure => simp [intOf]; omega
    · obtain rfl : n = k := by omega
      have hT : xs.take n = xs := List.take_of_length_le (by have := HX.out; omega)
      rw [hT] at HU HC ⊢
      clear hT
      go_wp2
      go_ret
      exact ⟨ao, co, rfl, HB.out, HU.out, HC.out.1, HC.out.2.1, HC.out.2.2⟩
theorem ref1_From (a : Option Addr) (cap : Nat) (xs : List Nat) (w : World) (h : U32 w a xs) (hl : xs.length ≤ 200) :
    Calls Tryz.prog 165 #[.slice a xs.length cap] w (OutR8 w (Num.digs 10 (Num.worth xs))) := by
  by_cases h0 : xs = []
  · subst h0
    show Calls Tryz.prog 165 #[.slice a 0 cap] w (OutR8 w [])
    clear h hl
    go_enter Tryz.func165, Tryz.ntmps165
    go_wp2
    refine wp_loop_rounds 1 ?_
    rw [rounds_succ]
    go_wp2
    go_ret
    exact OutR8.nil (Below.refl _ _)
  · obtain ⟨b, off, rfl⟩ := h.isSome h0
    exact r_From_some b off _ cap xs w rfl h hl

end Go.Proofs.YtldhebpkplglcaaGreatDoor

namespace Go.Proofs.YtldhebpkplglcaaGreatDoor
open Go.RowKit

theorem b9_pow' (k : Nat) : 10 ^ (9 * k) = Num.B9 ^ k := by rw [Nat.pow_mul]; rfl
/-- What the digits from place t of a row of nine on are worth. -/
def nine (ds : List Nat) (i t : Nat) : Nat := Num.val 10 ((ds.drop (i + t)).take (9 - t))
theorem nine_end (ds : List Nat) (i : Nat) : nine ds i 9 = 0 := by unfold nine; simp [Num.val_nil]
theorem nine_step (ds : List Nat) (i t : Nat) (ht : t < 9) : nine ds i t = ds.getD (i + t) 0 + 10 * nine ds i (t + 1) := by
  unfold nine
  by_cases h : i + t < ds.length
  · rw [Num.drop_getD h, show 9 - t = (9 - (t + 1)) + 1 by omega, List.take_succ_cons, Num.val_cons, show i + (t + 1) = i + t + 1 by omega]
  · rw [List.drop_of_length_le (by omega), List.drop_of_length_le (by omega)]
    simp [List.getElem?_eq_none (show ds.length ≤ i + t by omega), Num.val_nil]
theorem nine_lt (ds : List Nat) (h : ∀ d ∈ ds, d < 10) (i t : Nat) (ht : t ≤ 9) : nine ds i t < 10 ^ (9 - t) := by
  refine Nat.lt_of_lt_of_le (Num.val_lt (b := 10) (by decide) _ (fun x hx => h x (List.mem_of_mem_drop (List.mem_of_mem_take hx)))) (Nat.pow_le_pow_right (by decide) (by simp; omega))
theorem nine_join (ds : List Nat) (j : Nat) (hj : 9 * j ≤ ds.length) : Num.val 10 (ds.take (9 * (j + 1))) = Num.val 10 (ds.take (9 * j)) + nine ds (9 * j) 0 * Num.B9 ^ j := by
  rw [show 9 * (j + 1) = 9 * j + 9 by omega, List.take_add, Num.val_append, ← b9_pow', List.length_take, Nat.min_eq_left hj]
  unfold nine
  rw [Nat.mul_comm (10 ^ (9 * j))]; rfl
theorem limbs_of_worth {m j : Nat} {out : List Nat} (hl : out.length = j) (h9 : ∀ x ∈ out, x < 1000000000) (hw : Num.worth out = m) (hlo : j = 0 ∨ 10 ^ (9 * (j - 1)) ≤ m) : out = Num.limbs m := by
  have hlt := Num.val_lt (b := Num.B9) (by decide) out h9
  rw [hl, show Num.val Num.B9 out = m from hw] at hlt
  have h1 : (Num.limbs m).length ≤ j := limbs_length_le.2 hlt
  have h2 : j ≤ (Num.limbs m).length := by
    rcases hlo with h | h
    · omega
    · by_cases hle : (Num.limbs m).length ≤ j - 1
      · have := limbs_length_le.1 hle
        rw [b9_pow'] at h
        omega
      · omega
  exact Num.val_inj (b := Num.B9) _ _ h9 (Num.limbs_lt m) (by omega) (by show Num.worth out = Num.worth _; rw [hw, Num.worth_limbs])

set_option maxRecDepth 100000 in
set_option maxHeartbeats 1600000 in
theorem ref1_To (a : Option Addr) (cap m : Nat) (w : World) (h : U8 w a (Num.digs 10 m)) (hm : (Num.digs 10 m).length ≤ 1000000) :
    Calls Tryz.prog 205 #[.slice a (Num.digs 10 m).length cap] w (OutU w (Num.limbs m)) := by
  obtain ⟨ds, hds⟩ : ∃ ds, ds = Num.digs 10 m := ⟨_, rfl⟩
  have hlo : ∀ k, k < ds.length → 10 ^ k ≤ m := fun k hk => Num.pow_le_of_lt_length (by decide) (by rw [← hds]; exact hk)
  have hval : Num.val 10 ds = m := by rw [hds]; exact Num.val_digs (by decide) m
  rw [← hds] at h hm ⊢
  have CD := fun W k (hb : Below w.heap.size w W) => ref1_digit a cap k ds W (h.below hb) (by omega)
  have BD := fun k => h.getD_lt k
  have NL := fun i t (ht : t ≤ 9) => nine_lt ds h.lt i t ht
  obtain ⟨n, hn⟩ : ∃ n, n = ds.length := ⟨_, rfl⟩
  rw [← hn] at CD hm hlo ⊢
  replace CD := hid CD
  replace BD := hid BD
  replace NL := hid NL
  have HN := hid hn
  have HLO := hid hlo
  have HV := hid hval
  clear h hds hn hlo hval
  go_enter Tryz.func205, Tryz.ntmps205
  go_wp2
  go_loopw [3, 4, 5, 6] (fun v i _ _ wr => ∃ (j : Nat) (out : List Nat), 9 * j ≤ n + 8 ∧ i = .int .i64 ((9 * j : Nat) : Int) ∧ out.length = j ∧ (∀ x ∈ out, x < 1000000000) ∧ Num.worth out = Num.val 10 (ds.take (9 * j)) ∧ wr.ownsRow w.heap.size 62 1 v j (u32s out) ∧ Below w.heap.size w wr) (fun _ i _ _ _ => n + 9 - (intOf i).toNat)
  case atStart => exact ⟨0, [], by omega, rfl, rfl, by simp, rfl, World.ownsRow_nil _ _ _ _, Below.refl _ _⟩
  case round =>
    obtain ⟨j, out, hj, rfl, hl, h9, hw, hown, hb⟩ := hrel
    have HL := hid hl
    have H9 := hid h9
    have HW := hid hw
    have HO := hid hown
    have HB := hid hb
    clear hl h9 hw hown hb
    obtain ⟨I, hI⟩ : ∃ I, I = 9 * j := ⟨_, rfl⟩
    rw [← hI] at hj ⊢
    have hjb : j ≤ 200000 := by omega
    have HI := hid hI
    clear hI
    by_cases hgo : I < n
    · obtain ⟨wo, rfl⟩ : ∃ wo : World, wo = wr := ⟨_, rfl⟩
      have CD1 := fun t => CD.out wo (I + t) HB.out
      replace CD1 := hid CD1
      go_wp2
      go_loop [5, 6] (fun nn kk => ∃ t : Nat, t ≤ 9 ∧ kk = .int .i64 ((t : Int) - 1) ∧ nn = .int .u32 ((nine ds I t : Nat) : Int)) (fun _ kk => (intOf kk + 1).toNat)
      case atStart => exact ⟨9, Nat.le_refl _, rfl, by rw [nine_end]; rfl⟩
      case round =>
        obtain ⟨t, ht, rfl, rfl⟩ := hrel
        by_cases ht0 : t = 0
        · subst ht0
          have hnl := NL.out I 0 (by omega)
          have hjoin := nine_join ds j (by rw [← HI.out, ← HN.out]; omega)
          rw [← HI.out] at hjoin
          have HJ := hid hjoin
          obtain ⟨V, hV⟩ : ∃ V, V = nine ds I 0 := ⟨_, rfl⟩
          rw [← hV] at hnl HJ ⊢
          have hV9 : V < 1000000000 := hnl
          have hown := HO.out
          have hsz := HB.out.size
          clear hV hnl hjoin HO
          go_wp2_with (at_builtin; refine wpList_push Tryz.u32Slice rfl _ _ rfl w.heap.size (w0 := wo) hown rfl rfl rfl (by unfold maxLen; omega) (by omega) hsz ?_; intro v' w3 hown' hb')
          have HO3 := hid (show w3.ownsRow w.heap.size 62 1 v' (j + 1) (u32s (out ++ [V])) by simpa [u32s] using hown')
          have HB3 := hid (HB.out.trans hb')
          clear hown hown' hb'
          go_wp2
          go_roundw
          case rel =>
            refine ⟨j + 1, out ++ [V], by have := HI.out; omega, by have := HI.out; go_num, by simp [HL.out], ?_, ?_, HO3.out, HB3.out⟩
            · intro y hy
              rcases List.mem_append.1 hy with h | h
              · exact H9.out y h
              · simp at h; omega
            · have hw2 := HW.out
              rw [← HI.out] at hw2
              rw [HJ.out, ← hw2]
              unfold Num.worth
              rw [Num.val_snoc, HL.out, Nat.mul_comm]
          case measure => simp [intOf]; omega
        · obtain ⟨s, rfl⟩ : ∃ s, t = s + 1 := ⟨t - 1, by omega⟩
          have e1 : ((s + 1 : Nat) : Int) - 1 = (s : Int) := by omega
          rw [e1]
          have hst := nine_step ds I s (by omega)
          have bd := BD.out (I + s)
          have hnl := NL.out I s (by omega)
          have hpow : 10 ^ (9 - s) ≤ 10 ^ 9 := Nat.pow_le_pow_right (by decide) (by omega)
          have CD2 := CD1.out s
          obtain ⟨d, hd⟩ : ∃ d, d = ds.getD (I + s) 0 := ⟨_, rfl⟩
          obtain ⟨V, hV⟩ : ∃ V, V = nine ds I (s + 1) := ⟨_, rfl⟩
          rw [← hd] at CD2 bd hst
          rw [← hV] at hst ⊢
          have hV9 : 10 * V + d < 1000000000 := by
            have : nine ds I s < 1000000000 := Nat.lt_of_lt_of_le hnl hpow
            omega
          have HST := hid hst
          have w1 := hid (show ((I : Int) + s) = ((I + s : Nat) : Int) by omega)
          replace CD2 := hid CD2
          clear hd hV hst hnl hpow e1
          go_wp2_with fail
          rw [w1.out]
          refine (CD2.out).mono ?_
          rintro e1 w1 ⟨rfl, rfl⟩
          clear w1
          go_wp2
          go_round
          case rel => exact ⟨s, by omega, rfl, by rw [HST.out]; go_num⟩
          case measure => simp [intOf]
    · have hT : ds.take I = ds := List.take_of_length_le (by rw [← HN.out]; omega)
      have hout : out = Num.limbs m := by
        refine limbs_of_worth HL.out H9.out ?_ ?_
        · rw [HW.out, ← HI.out, hT, HV.out]
        · by_cases hj0 : j = 0
          · exact .inl hj0
          · exact .inr (HLO.out _ (by have := HI.out; omega))
      have hown := HO.out
      obtain ⟨a', cap', rfl, _, _⟩ := owns_row hown
      have hjl : j = (Num.limbs m).length := by rw [← hout]; exact HL.out.symm
      have HO2 := hid (show wr.ownsRow w.heap.size 62 1 (.slice a' (Num.limbs m).length cap') (Num.limbs m).length (u32s (Num.limbs m)) by rw [← hjl, ← hout]; exact hown)
      have HJL := hid hjl
      clear hT hout hown hjl HO
      go_wp2
      go_ret
      exact ⟨a', cap', by rw [← HJL.out]; rfl, HB.out, HO2.out⟩

end Go.Proofs.YtldhebpkplglcaaGreatDoor

namespace Go.Proofs.YtldhebpkplglcaaGreatDoor
open Go.RowKit

/-- A number as the document's answer holds it. -/
def refV (d : D) (a : Option Addr) (cap : Nat) : Value := .agg #[.bool d.neg, .slice a (Num.digs 10 d.m).length cap, .int .i64 d.e]
/-- Digits that read, and how far their row goes. -/
def RdD (w : World) (d : D) (a : Option Addr) (cap : Nat) : Prop := U8 w a (Num.digs 10 d.m) ∧ (Num.digs 10 d.m).length ≤ cap ∧ cap ≤ 9223372036854775807 ∧ (a = none → cap = 0)
theorem RdD.below {w w' : World} {d : D} {a : Option Addr} {cap : Nat} (h : RdD w d a cap) (hb : Below w.heap.size w w') : RdD w' d a cap := ⟨h.1.below hb, h.2⟩
theorem rd_zero (w : World) : RdD w zeroD none 0 := ⟨⟨Row.nil _ _, fun d hd => by cases hd⟩, Nat.le_refl _, by decide, fun _ => rfl⟩
def OutRD (w : World) (d : D) (e : Ending) (w' : World) : Prop := ∃ a cap, e = .returned (refV d a cap) ∧ Below w.heap.size w w' ∧ RdD w' d a cap
def OutRDE (w : World) (d : D) (err : Nat) (e : Ending) (w' : World) : Prop := ∃ a cap, e = .returned (.tuple #[refV d a cap, .int .i64 err]) ∧ Below w.heap.size w w' ∧ RdD w' d a cap

theorem tz_stop (ds : List Nat) (k : Nat) (hk : k < ds.length) (h : ∀ j, j < k → ds.getD j 0 = 0) (h0 : ds.getD k 0 ≠ 0) : (ds.takeWhile (· == 0)).length = k := by
  induction ds generalizing k with
  | nil => simp at hk
  | cons d ds ih =>
    cases k with
    | zero => simp at h0; simp [h0]
    | succ k =>
      have hd : d = 0 := by simpa using h 0 (by omega)
      subst hd
      rw [List.takeWhile_cons]
      simp only [beq_self_eq_true, if_true, List.length_cons]
      rw [ih k (by simpa using hk) (fun j hj => by simpa using h (j + 1) (by omega)) (by simpa using h0)]
theorem digs_some (m : Nat) (h0 : m ≠ 0) : ∃ k, k < (Num.digs 10 m).length ∧ (Num.digs 10 m).getD k 0 ≠ 0 := by
  obtain ⟨zs, y, h1, h2⟩ := Num.digs_last (b := 10) (by decide) m h0
  exact ⟨zs.length, by rw [h1]; simp, by rw [h1]; simp [h2]⟩
theorem digs_tz (m : Nat) (_h0 : m ≠ 0) : (Num.digs 10 m).drop (tz m) = Num.digs 10 (m / 10 ^ tz m) := (Num.digs_div_pow (by decide) m _).symm

set_option maxRecDepth 100000 in
set_option maxHeartbeats 1600000 in
theorem r_Make_some (g : Bool) (b off cap m : Nat) (e : Int) (w : World) (h : U8 w (some ⟨b, off, none⟩) (Num.digs 10 m)) (h0 : m ≠ 0) (hc : (Num.digs 10 m).length ≤ cap) (hc2 : cap ≤ 9223372036854775807) (hd : (Num.digs 10 m).length ≤ 1000000000) (he : -3000000000 ≤ e ∧ e ≤ 3000000000) :
    Calls Tryz.prog 164 #[.bool g, .slice (some ⟨b, off, none⟩) (Num.digs 10 m).length cap, .int .i64 e] w (OutRD w (plainD g m e)) := by
  have hpl : plainD g m e = ⟨g, m / 10 ^ tz m, e + tz m⟩ := by unfold plainD; rw [if_neg h0]
  rw [hpl]
  have C1 := fun j (hj : j < (Num.digs 10 m).length) => h.row.u8 (j := j) hj
  have hrow : U8 w (some ⟨b, off + tz m, none⟩) (Num.digs 10 (m / 10 ^ tz m)) := by
    refine ⟨fun j x hx => ⟨b, off + tz m, rfl, ?_⟩, digs_ten_lt _⟩
    have hx' : (u8s (Num.digs 10 m))[tz m + j]? = some x := by
      rw [← digs_tz m h0] at hx
      simpa [u8s, List.map_drop, List.getElem?_drop] using hx
    obtain ⟨b', off', e1, hc⟩ := h.row _ _ hx'
    injection e1 with e1; injection e1 with e1 e2; subst e1 e2
    rw [Nat.add_assoc]; exact hc
  have hlen : (Num.digs 10 (m / 10 ^ tz m)).length = (Num.digs 10 m).length - tz m := by rw [← digs_tz m h0, List.length_drop]
  have hstop := tz_stop (Num.digs 10 m)
  obtain ⟨q, hq1, hq2⟩ := digs_some m h0
  have htz : ((Num.digs 10 m).takeWhile (· == 0)).length = tz m := rfl
  obtain ⟨ds, hds⟩ : ∃ ds, ds = Num.digs 10 m := ⟨_, rfl⟩
  rw [← hds] at C1 hc hd hlen hstop hq1 hq2 htz ⊢
  obtain ⟨z, hz⟩ : ∃ z, z = tz m := ⟨_, rfl⟩
  rw [← hz] at hrow hlen htz ⊢
  have hlt : z < ds.length := by
    have h2 : 0 < (Num.digs 10 (m / 10 ^ tz m)).length := Num.length_pos (by decide) (tz_split h0).2.2
    rw [← hz, hlen] at h2; omega
  obtain ⟨M, hM⟩ : ∃ M, M = m / 10 ^ z := ⟨_, rfl⟩
  rw [← hM] at hrow hlen ⊢
  obtain ⟨n, hn⟩ : ∃ n, n = ds.length := ⟨_, rfl⟩
  rw [← hn] at C1 hc hd hlen hlt hq1 ⊢
  have HL := hid hlen
  have HR := hid hrow
  have hbw : b < w.heap.size := cell_lt (C1 q hq1)
  replace C1 := hid C1
  have HS : Hid (∀ k, k < n → (∀ j, j < k → ds.getD j 0 = 0) → ds.getD k 0 ≠ 0 → z = k) := fun k h1 h2 h3 => by
    rw [← htz]; exact hstop k (by omega) h2 h3
  have HQ := hid (⟨hq1, hq2⟩ : _ ∧ _)
  clear h h0 hpl hlen hrow hstop htz hds hz hM hn hq1 hq2
  go_enter Tryz.func164, Tryz.ntmps164
  go_wp2
  go_loop [7] (fun v => ∃ k : Nat, k ≤ n ∧ v = .int .i64 k ∧ ∀ j, j < k → ds.getD j 0 = 0) (fun v => n - (intOf v).toNat)
  case atStart => exact ⟨0, Nat.zero_le _, rfl, fun j hj => by omega⟩
  case round =>
    obtain ⟨k, hk, rfl, hz⟩ := hrel
    have HZ := hid hz
    clear hz
    have hkn : k < n := by
      by_cases hkn : k = n
      · exact absurd (HZ.out q (by have := HQ.out.1; omega)) HQ.out.2
      · omega
    have g1 := C1.out k hkn
    by_cases h0 : ds.getD k 0 = 0
    · have HZ' := hid (fun j (hj : j < k + 1) => show ds.getD j 0 = 0 by
        by_cases hjk : j = k
        · rw [hjk]; exact h0
        · exact HZ.out j (by omega))
      rw [h0] at g1
      clear h0
      go_wp2
      go_round
      case rel => exact ⟨k + 1, by omega, by go_num, HZ'.out⟩
      case measure => simp [intOf]; omega
    · have hzk := HS.out k hkn HZ.out h0
      subst hzk
      obtain ⟨x, hx⟩ : ∃ x, x = ds.getD z 0 := ⟨_, rfl⟩
      rw [← hx] at g1 h0
      have hne : ((x : Int) == 0) = false := by rw [beq_eq_false_iff_ne]; omega
      have hzn : ((z : Int) == (n : Int)) = false := by rw [beq_eq_false_iff_ne]; omega
      have hcz : ¬ cap = z := by omega
      clear h0 hx
      go_wp2
      refine bodyPost_ret (v := .agg #[.bool g, .slice (some ⟨b, off + z, none⟩) (Num.digs 10 M).length (cap - z), .int .i64 (e + z)]) (by simp [results, Tryz.results164, go_sem, HL.out]) rfl ?_
      refine ⟨some ⟨b, off + z, none⟩, cap - z, rfl, ?_, ?_⟩
      · exact (Below.refl _ _).alloc (Nat.le_refl _) _
      · exact ⟨HR.out.below ((Below.refl _ _).alloc (Nat.le_refl _) _), by rw [HL.out]; omega, by omega, fun h => by cases h⟩
theorem r_Make_zero (g : Bool) (a : Option Addr) (cap : Nat) (e : Int) (w : World) :
    Calls Tryz.prog 164 #[.bool g, .slice a 0 cap, .int .i64 e] w (OutRD w zeroD) := by
  go_enter Tryz.func164, Tryz.ntmps164
  go_wp2
  refine wp_loop_rounds 1 ?_
  rw [rounds_succ]
  go_wp2
  refine bodyPost_ret (v := .agg #[.bool false, .slice none 0 0, .int .i64 0]) (by simp [results, Tryz.results164, go_sem]) rfl ?_
  refine ⟨none, 0, rfl, ?_, rd_zero _⟩
  exact (Below.refl _ _).alloc (Nat.le_refl _) _

end Go.Proofs.YtldhebpkplglcaaGreatDoor

namespace Go.Proofs.YtldhebpkplglcaaGreatDoor
open Go.RowKit

set_option maxRecDepth 100000 in
set_option maxHeartbeats 1000000 in
theorem ref1_Same_loop (b off cap b2 off2 cap2 n : Nat) (xs ys : List Nat) (w : World) (hx : xs.length = n) (hy : ys.length = n) (hn : n ≤ 9223372036854775807)
    (c1 : ∀ j, j < n → w.cell? ⟨b, off + j, none⟩ = some (.int .u32 ((xs.getD j 0 : Nat) : Int))) (c2 : ∀ j, j < n → w.cell? ⟨b2, off2 + j, none⟩ = some (.int .u32 ((ys.getD j 0 : Nat) : Int))) :
    Calls Tryz.prog 163 #[.slice (some ⟨b, off, none⟩) n cap, .slice (some ⟨b2, off2, none⟩) n cap2] w fun en w' => en = .returned (.bool (decide (xs = ys))) ∧ Below w.heap.size w w' := by
  have HX := hid hx
  have HY := hid hy
  have C1 := hid c1
  have C2 := hid c2
  obtain ⟨r, hr⟩ : ∃ r, r = decide (xs = ys) := ⟨_, rfl⟩
  rw [← hr]
  have HR := hid hr
  clear hx hy c1 c2 hr
  go_enter Tryz.func163, Tryz.ntmps163
  go_wp2
  go_loopw [5] (fun i wr => ∃ k : Nat, k ≤ n ∧ i = .int .i64 k ∧ xs.take k = ys.take k ∧ (∃ m, wr = w.drewN m)) (fun i wr => n - (intOf i).toNat)
  case atStart => exact ⟨0, Nat.zero_le _, rfl, rfl, 0, rfl⟩
  case round =>
    obtain ⟨k, hk, rfl, ht, m, rfl⟩ := hrel
    have HT := hid ht
    clear ht
    by_cases hlt : k < n
    · obtain ⟨x, hxe⟩ : ∃ x, x = xs.getD k 0 := ⟨_, rfl⟩
      obtain ⟨y, hye⟩ : ∃ y, y = ys.getD k 0 := ⟨_, rfl⟩
      have g1 := C1.out k hlt
      have g2 := C2.out k hlt
      rw [← hxe] at g1
      rw [← hye] at g2
      have hm1 : k < xs.length := by have := HX.out; omega
      have hm2 : k < ys.length := by have := HY.out; omega
      have HXE := hid hxe
      have HYE := hid hye
      have M1 := hid hm1
      have M2 := hid hm2
      have hki : (0 : Int) ≤ (k : Int) ∧ (k : Int) < (n : Int) := by omega
      have g1 : (w.drewN m).cell? ⟨b, off + k, none⟩ = some (.int .u32 (x : Int)) := g1
      have g2 : (w.drewN m).cell? ⟨b2, off2 + k, none⟩ = some (.int .u32 (y : Int)) := g2
      clear hxe hye hm1 hm2
      by_cases hxy : x = y
      · have HE : Hid (xs.take (k + 1) = ys.take (k + 1)) := by
          have e1 := HXE.out
          have e2 := HYE.out
          rw [List.take_add_one, List.take_add_one, List.getElem?_eq_getElem M1.out, List.getElem?_eq_getElem M2.out, HT.out]
          rw [List.getD_eq_getElem?_getD, List.getElem?_eq_getElem M1.out] at e1
          rw [List.getD_eq_getElem?_getD, List.getElem?_eq_getElem M2.out] at e2
          simp only [Option.getD_some] at e1 e2
          rw [← e1, ← e2, hxy]
          exact rfl
        subst hxy
        go_wp2_with fail
        go_quiet (fail)
        go_wp2
        go_roundw
        case rel => exact ⟨k + 1, by omega, by go_num, HE.out, _, rfl⟩
        case measure => simp [intOf]; omega
      · have hne : ((x : Int) != (y : Int)) = true := by
          rw [bne_iff_ne]; omega
        have HN : Hid (r = false) := by
          rw [HR.out, decide_eq_false_iff_not]
          intro e
          exact hxy (by rw [HXE.out, HYE.out, e])
        clear hxy
        go_wp2_with fail
        go_quiet (fail)
        go_wp2
        go_ret
        exact ⟨ret_bool HN.out.symm, below_drewN (below_drewN (Below.refl _ _) _) _⟩
    · obtain rfl : n = k := by omega
      have HE : Hid (r = true) := by
        rw [HR.out, decide_eq_true_eq]
        have := HT.out
        rwa [List.take_of_length_le (by have := HX.out; omega), List.take_of_length_le (by have := HY.out; omega)] at this
      go_wp2
      go_ret
      exact ⟨ret_bool HE.out.symm, below_drewN (Below.refl _ _) _⟩

theorem ref1_Same_zero (a a2 : Option Addr) (cap cap2 : Nat) (w : World) :
    Calls Tryz.prog 163 #[.slice a 0 cap, .slice a2 0 cap2] w fun en w' => en = .returned (.bool true) ∧ Below w.heap.size w w' := by
  go_enter Tryz.func163, Tryz.ntmps163
  go_wp2
  refine wp_loop_rounds 1 ?_
  rw [rounds_succ]
  go_wp2
  go_ret
  exact ⟨rfl, Below.refl _ _⟩
theorem ref1_Same_diff (a a2 : Option Addr) (n n2 cap cap2 : Nat) (w : World) (h : n ≠ n2) :
    Calls Tryz.prog 163 #[.slice a n cap, .slice a2 n2 cap2] w fun en w' => en = .returned (.bool false) ∧ Below w.heap.size w w' := by
  have hn : ((n : Int) != (n2 : Int)) = true := by rw [bne_iff_ne]; omega
  clear h
  go_enter Tryz.func163, Tryz.ntmps163
  go_wp2
  go_ret
  exact ⟨rfl, Below.refl _ _⟩

theorem ref1_Same (a a2 : Option Addr) (cap cap2 : Nat) (xs ys : List Nat) (w : World) (h : U32 w a xs) (h2 : U32 w a2 ys) (hn : xs.length ≤ 9223372036854775807) :
    Calls Tryz.prog 163 #[.slice a xs.length cap, .slice a2 ys.length cap2] w fun en w' => en = .returned (.bool (decide (xs = ys))) ∧ Below w.heap.size w w' := by
  by_cases hl : xs.length = ys.length
  · by_cases h0 : xs = []
    · subst h0
      obtain rfl : ys = [] := List.length_eq_zero_iff.1 hl.symm
      simp only [decide_true]
      exact ref1_Same_zero a a2 cap cap2 w
    · have h1 : ys ≠ [] := by intro e; rw [e] at hl; exact h0 (List.length_eq_zero_iff.1 hl)
      obtain ⟨b, off, rfl⟩ := h.isSome h0
      obtain ⟨b2, off2, rfl⟩ := h2.isSome h1
      rw [← hl]
      exact ref1_Same_loop b off cap b2 off2 cap2 xs.length xs ys w rfl hl.symm hn (fun j hj => h.row.u32 hj) (fun j hj => h2.row.u32 (by omega))
  · have : decide (xs = ys) = false := by
      rw [decide_eq_false_iff_not]; intro e; exact hl (by rw [e])
    rw [this]
    exact ref1_Same_diff a a2 _ _ cap cap2 w hl

set_option maxRecDepth 100000 in
theorem ref2_Same (g g2 : Bool) (a a2 : Option Addr) (cap cap2 : Nat) (e e2 : Int) (xs ys : List Nat) (w : World) (h : U32 w a xs) (h2 : U32 w a2 ys) (hn : xs.length ≤ 9223372036854775807) :
    Calls Tryz.prog 119 #[.agg #[.bool g, .slice a xs.length cap, .int .i64 e], .agg #[.bool g2, .slice a2 ys.length cap2, .int .i64 e2]] w fun en w' => en = .returned (.bool (decide (g = g2 ∧ e = e2 ∧ xs = ys))) ∧ Below w.heap.size w w' := by
  have C := fun W (hb : Below w.heap.size w W) => ref1_Same a a2 cap cap2 xs ys W (h.below hb) (h2.below hb) hn
  obtain ⟨r, hr⟩ : ∃ r, r = decide (g = g2 ∧ e = e2 ∧ xs = ys) := ⟨_, rfl⟩
  rw [← hr]
  obtain ⟨n, hn2⟩ : ∃ n, n = xs.length := ⟨_, rfl⟩
  obtain ⟨n2, hn3⟩ : ∃ n, n = ys.length := ⟨_, rfl⟩
  rw [← hn2, ← hn3] at C ⊢
  clear h h2 hn hn2 hn3
  by_cases hg : g = g2
  · subst hg
    by_cases he : e = e2
    · subst he
      obtain ⟨q, hq⟩ : ∃ q, q = decide (xs = ys) := ⟨_, rfl⟩
      rw [← hq] at C
      have HR := hid (show r = q by rw [hr, hq]; simp)
      have C := hid C
      clear hr hq
      cases g
      all_goals
        go_enter Tryz.func119, Tryz.ntmps119
        go_wp2_with fail
        refine (C.out _ (((Below.refl _ _).alloc (Nat.le_refl _) _).alloc (by simp) _)).mono ?_
        rintro e1 w1 ⟨rfl, hb1⟩
        have HB := hid (below_alloc (below_alloc hb1))
        clear hb1
        go_wp2
        go_ret
        exact ⟨ret_bool HR.out.symm, HB.out⟩
    · have hn : (e == e2) = false := by simpa using he
      have HR := hid (show r = false by rw [hr]; simp [he])
      clear he hr C
      cases g
      all_goals
        go_enter Tryz.func119, Tryz.ntmps119
        go_wp2
        go_ret
        exact ⟨ret_bool HR.out.symm, ((Below.refl _ _).alloc (Nat.le_refl _) _).alloc (by simp) _⟩
  · have HR := hid (show r = false by rw [hr]; simp [hg])
    clear hr C
    cases g <;> cases g2
    case false.false => exact absurd rfl hg
    case true.true => exact absurd rfl hg
    all_goals
      clear hg
      go_enter Tryz.func119, Tryz.ntmps119
      go_wp2
      go_ret
      exact ⟨ret_bool HR.out.symm, ((Below.refl _ _).alloc (Nat.le_refl _) _).alloc (by simp) _⟩

end Go.Proofs.YtldhebpkplglcaaGreatDoor

namespace Go.Proofs.YtldhebpkplglcaaGreatDoor
open Go.RowKit

theorem shown1 : parseR [45, 49, 50, 46, 53, 48, 101, 49] = (⟨true, 125, 0⟩, 0) := by rfl
theorem shown2 : parseR [48, 49] = (zeroD, 2) := by rfl
theorem shown3 : takenD true (Num.limbs 125).length (Num.worth (Num.limbs 125)) 0 = ⟨true, 125, 0⟩ ∧ takenE true (Num.limbs 125).length (Num.worth (Num.limbs 125)) 0 = 0 := ⟨by rfl, by rfl⟩
theorem shown4 : textL ⟨true, 125, 0⟩ = [45, 49, 50, 53] := by
  unfold textL
  rw [if_neg (by decide), Num.decDigits_digs 125 (by decide)]
  rfl
theorem shown5 : takenD false [12].length (Num.worth [12]) (-9) = ⟨false, 12, -9⟩ ∧ takenE false [12].length (Num.worth [12]) (-9) = 0 := ⟨by rfl, by rfl⟩
theorem shown6 : textL ⟨false, 12, -9⟩ = [49, 46, 50, 101, 45, 56] := by
  unfold textL
  rw [if_neg (by decide), Num.decDigits_digs 12 (by decide)]
  have e : Lib.itoa (-8) = [45, 56] := by
    unfold Lib.itoa
    rw [show (-8 : Int).natAbs = 8 by rfl, Num.decDigits_digs 8 (by decide)]; rfl
  have h : ((-9 : Int) + (Num.digs 10 12).length - 1) = -8 := by rfl
  simp only [h]
  unfold figL
  rw [e]
  rfl

/-- A slice of one limb, laid anew. -/
theorem u32_one {w : World} {N x : Nat} (hx : x < 4294967296) (h : w.cell? ⟨N, 0, none⟩ = some (.int .u32 x)) : U32 w (some ⟨N, 0, none⟩) [x] := by
  refine ⟨?_, fun y hy => by simp at hy; omega⟩
  intro j v hv
  cases j with
  | zero =>
    simp [u32s] at hv
    subst hv
    exact ⟨N, 0, rfl, h⟩
  | succ j => simp [u32s] at hv

end Go.Proofs.YtldhebpkplglcaaGreatDoor
