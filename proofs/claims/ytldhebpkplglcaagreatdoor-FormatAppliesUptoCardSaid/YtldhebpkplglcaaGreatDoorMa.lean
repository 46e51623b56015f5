/- Layer 1, first part: trim, at, carried and what they are called with. Layer 1, second part: the functions that hand a sum to 'carried'. Layer 1, third part: ten, order, Cmp, less, Sub. Layer 1, fourth part: less, Sub. Layer 1, fifth part: Mul, Shift. Layer 1, sixth part: Shift, Cut. Layer 1, seventh part: Cut. Layer 1, eighth part: Cut. -/
import Derived.Test.YtldhebpkplglcaaGreatDoorChecked
import Derived.Test.YtldhebpkplglcaaGreatDoorNB
import Derived.Deep.QuietTactic
import Derived.BigQuiet
import Derived.Deep.RegionHeld3
import Derived.WalkKit
namespace Go.Proofs.YtldhebpkplglcaaGreatDoor
open Go.RowKit

/-- How many limbs are left. -/
def trimLen (xs : List Nat) : Nat := (Num.trim xs).length
theorem trimLen_le (xs : List Nat) : trimLen xs ≤ xs.length := by
  obtain ⟨n, hn, e⟩ := Num.trim_take xs
  rw [trimLen, e]; simp; omega
theorem take_trimLen (xs : List Nat) : xs.take (trimLen xs) = Num.trim xs := by
  obtain ⟨n, hn, e⟩ := Num.trim_take xs
  rw [trimLen, e, List.length_take, Nat.min_eq_left hn]
theorem trimLen_stop (xs : List Nat) (k : Nat) (hk : k < xs.length) (h : xs.getD k 0 ≠ 0) : trimLen (xs.take (k + 1)) = k + 1 := by
  rw [List.take_add_one, List.getElem?_eq_getElem hk, trimLen]
  simp only [Option.toList_some]
  rw [Num.trim_snoc_pos]
  · simp; omega
  · simpa [hk] using h
theorem trimLen_go (xs : List Nat) (k : Nat) (hk : k < xs.length) (h : xs.getD k 0 = 0) : trimLen (xs.take (k + 1)) = trimLen (xs.take k) := by
  have h' : xs[k] = 0 := by simpa [hk] using h
  rw [List.take_add_one, List.getElem?_eq_getElem hk, trimLen, trimLen]
  simp only [Option.toList_some]
  rw [h', Num.trim_snoc_zero]

set_option maxHeartbeats 400000 in
theorem trim_some (b off n cap : Nat) (xs : List Nat) (w : World) (_hn : n ≤ 9223372036854775807) (hx : xs.length = n) (hc : ∀ j, j < n → w.cell? ⟨b, off + j, none⟩ = some (.int .u32 ((xs.getD j 0 : Nat) : Int))) (hcap : n ≤ cap) (hcap2 : cap ≤ 9223372036854775807) :
    Calls Tryz.prog 212 #[.slice (some ⟨b, off, none⟩) n cap] w fun e w' => e = .returned (.slice (some ⟨b, off, none⟩) (trimLen xs) cap) ∧ w = w' := by
  have H : Hid (xs.length = n) := hx
  clear hx
  go_enter Tryz.func212, Tryz.ntmps212
  go_wp2
  go_loop [0] (fun l => ∃ k : Nat, k ≤ n ∧ l = .slice (some ⟨b, off, none⟩) k cap ∧ trimLen (xs.take k) = trimLen xs) (fun l => match l with | .slice _ k _ => k | _ => 0)
  case atStart => exact ⟨n, Nat.le_refl _, rfl, by rw [← H.out, List.take_length]⟩
  case round =>
    obtain ⟨k, hk, rfl, hrel⟩ := hrel
    by_cases hk0 : k = 0
    · subst hk0
      have HR := hid hrel
      clear hrel hc H
      go_wp2
      go_ret
      exact ⟨by rw [← HR.out]; rfl, rfl⟩
    · obtain ⟨m, rfl⟩ : ∃ m, k = m + 1 := ⟨k - 1, by omega⟩
      have hc1 := hc m (by omega)
      have hlen : m < xs.length := by have := H.out; omega
      have hsub : ((m + 1 : Nat) : Int) - 1 = (m : Int) := by omega
      by_cases h0 : xs.getD m 0 = 0
      · have HR := hid ((trimLen_go xs m hlen h0).symm.trans hrel)
        rw [h0] at hc1
        clear hrel hc H h0 hsub
        go_wp2
        go_round
        case rel => exact ⟨m, by omega, rfl, HR.out⟩
        case measure => simp
      · have HR := hid ((trimLen_stop xs m hlen h0).symm.trans hrel)
        obtain ⟨x, hx⟩ : ∃ x, x = xs.getD m 0 := ⟨_, rfl⟩
        rw [← hx] at hc1 h0
        have hne : ((x : Int) == 0) = false := by simpa using h0
        clear hrel hc H h0 hsub hx hlen
        go_wp2
        go_ret
        exact ⟨by rw [← HR.out]; rfl, rfl⟩

theorem trim_empty (a : Option Addr) (cap : Nat) (w : World) :
    Calls Tryz.prog 212 #[.slice a 0 cap] w fun e w' => e = .returned (.slice a 0 cap) ∧ w = w' := by
  go_enter Tryz.func212, Tryz.ntmps212
  go_wp2
  refine wp_loop_rounds 1 ?_
  rw [rounds_succ]
  go_wp2
  go_ret
  exact ⟨rfl, rfl⟩
theorem limb_trim (a : Option Addr) (cap : Nat) (xs : List Nat) (w : World) (h : Row w a (u32s xs)) (hcap : xs.length ≤ cap) (hcap2 : cap ≤ 9223372036854775807) :
    Calls Tryz.prog 212 #[.slice a xs.length cap] w fun e w' => e = .returned (.slice a (trimLen xs) cap) ∧ w = w' := by
  by_cases hx : xs = []
  · subst hx; exact trim_empty a cap w
  · obtain ⟨b, off, rfl⟩ := h.isSome (by intro e; exact hx (by simpa [u32s] using e))
    exact trim_some b off _ cap xs w (by omega) rfl (fun j hj => h.u32 hj) hcap hcap2

theorem Tryz.infoU32 : (Tryz.prog.info? 62).map (fun i => (i.zero, i.size, i.bytes)) = some (some (.int .u32 0), 1, 4) := by kernel_rfl

/-- The sums that are laid down don't go round, with the carry. -/
def Small (s : Nat → Nat) (n : Nat) : Prop := ∀ i, i < n → s i + (if i = 0 then 0 else 18446744073) < 18446744073709551616

/-- What holds at the head of a round of 'carried': the sum that is laid down so far. -/
def Car (S : Nat) (w : World) (C k : Nat) (v : Value) (wr : World) : Prop :=
  ∃ out : List Nat, out.length = k ∧ (∀ x ∈ out, x < 1000000000) ∧ Num.worth out + C * Num.B9 ^ k = S ∧ wr.ownsRow w.heap.size 62 1 v k (u32s out) ∧ Below w.heap.size w wr

theorem Car.push {S S' C T k : Nat} {w w1 : World} {v' : Value} {out : List Nat} {x : Int} (h1 : out.length = k) (h2 : ∀ x ∈ out, x < 1000000000) (h3 : Num.worth out + C * Num.B9 ^ k = S)
    (hS : S' + C * Num.B9 ^ k = S + T * Num.B9 ^ k) (hx : x = ((T % 1000000000 : Nat) : Int))
    (hown : w1.ownsRow w.heap.size 62 1 v' (k + 1) (u32s out ++ [.int .u32 x])) (hb : Below w.heap.size w w1) : Car S' w (T / 1000000000) (k + 1) v' w1 := by
  subst hx
  refine ⟨out ++ [T % 1000000000], by simp [h1], ?_, ?_, by simpa [u32s] using hown, hb⟩
  · intro y hy
    rcases List.mem_append.1 hy with h | h
    · exact h2 y h
    · simp at h; omega
  · have e := Nat.mod_add_div T 1000000000
    have e2 : T * Num.B9 ^ k = (T % 1000000000) * Num.B9 ^ k + (T / 1000000000) * (Num.B9 ^ k * Num.B9) := by
      rw [Nat.mul_comm (Num.B9 ^ k), ← Nat.mul_assoc, ← Nat.add_mul]
      congr 1
      rw [Nat.mul_comm (T / 1000000000), Num.B9_eq]; omega
    have e3 : Num.worth (out ++ [T % 1000000000]) = Num.worth out + (T % 1000000000) * Num.B9 ^ k := by
      unfold Num.worth
      rw [Num.val_snoc, h1, Nat.mul_comm (Num.B9 ^ k)]
    rw [e3, Nat.pow_succ]
    omega

/-- Slices of 32-bit numbers. -/
theorem Tryz.u32Slice : SliceOf Tryz.prog 22 62 (.int .u32 0) 4 := ⟨Tryz.underlying22, by kernel_rfl, rfl⟩

set_option maxRecDepth 100000 in
set_option maxHeartbeats 400000 in
theorem carried_any (n f : Nat) (cs : Array Value) (s : Nat → Nat) (w : World) (hn : n ≤ 1000000000) (hs : Small s n) (hcall : ∀ args W, (callFunc f args).run Tryz.prog W = .ok (.enter f args) W)
    (hF : ∀ i W, i < n → Below w.heap.size w W → Calls Tryz.prog f (#[.int .i64 (i : Nat)] ++ cs) W fun e W' => e = .returned (.int .u64 (s i : Nat)) ∧ ∃ q, W' = W.drewN q) :
    Calls Tryz.prog 208 #[.int .i64 n, .func (.func f) #[] cs] w fun e w' => ∃ v, e = .returned v ∧ Below w.heap.size w w' ∧ w'.ownsRow w.heap.size 62 1 v (Num.limbs (Num.laid s n)).length (u32s (Num.limbs (Num.laid s n))) := by
  have HF := hid hF
  have HS := hid hs
  clear hF hs
  go_enter Tryz.func208, Tryz.ntmps208
  go_wp2_with (at_make; refine wpList_made Tryz.u32Slice rfl _ _ rfl (n + 2) rfl rfl (by go_num) (by omega) (by unfold maxLen; omega) ?_; intro w1 hown hb1)
  go_loopw [5, 6, 12] (fun v c i wr => ∃ (k C : Nat), k ≤ n ∧ i = .int .i64 k ∧ c = .int .u64 C ∧ C ≤ (if k = 0 then 0 else 18446744073) ∧ Car (Num.laid s k) w C k v wr) (fun _ _ i _ => n - (intOf i).toNat)
  case atStart =>
    exact ⟨0, 0, Nat.zero_le _, rfl, rfl, by simp, [], rfl, by simp, rfl, hown, hb1⟩
  case round =>
    clear hown hb1
    obtain ⟨k, C, hk, rfl, rfl, hC, out, hl, hlt9, hS, hown, hb⟩ := hrel
    have HL := hid hl
    have HS' := hid hS
    have H9 := hid hlt9
    have HB := hid hb
    have hsz := hb.size
    clear hl hS hlt9 hb
    by_cases hlt : k < n
    · have hsk : (C : Int) + (s k : Nat) ≤ 18446744073709551615 := by
        have := HS.out k hlt; split at this <;> simp_all <;> omega
      have HC := hid hC
      clear hC
      go_wp2_with fail
      refine (HF.out k wr hlt HB.out).mono ?_
      rintro e w2 ⟨rfl, q, rfl⟩
      go_wp2_with (at_builtin; refine wpList_push Tryz.u32Slice rfl _ _ rfl w.heap.size (w0 := wr.drewN q) hown rfl rfl rfl (by unfold maxLen; omega) (by omega) hsz ?_; intro v' w3 hown' hb')
      have R : Car (Num.laid s (k + 1)) w ((C + s k) / 1000000000) (k + 1) v' w3 :=
        Car.push HL.out H9.out HS'.out (by unfold Num.laid; simp only [Num.upto]; rw [Nat.add_mul]; omega) (by omega) hown' ((below_drewN HB.out q).trans hb')
      have R := hid R
      have hc2 : ((C : Int) + (s k : Nat)) / 1000000000 = (((C + s k) / 1000000000 : Nat) : Int) := by omega
      clear hown hown' hb' HS'
      go_wp2
      go_roundw
      case rel => exact ⟨k + 1, (C + s k) / 1000000000, by omega, by go_num, by go_num, by simp; omega, R.out⟩
      case measure => simp [intOf]; omega
    · obtain rfl : n = k := by omega
      have hC2 : C ≤ 18446744073 := by split at hC <;> omega
      have HO := hid hown
      clear hC hown hlt
      go_wp2
      go_loopw [5, 6] (fun v c wr => ∃ (k C : Nat), c = .int .u64 C ∧ k + C ≤ n + 18446744073 ∧ Car (Num.laid s n) w C k v wr) (fun _ c _ => (intOf c).toNat)
      case atStart => exact ⟨n, C, rfl, by omega, out, HL.out, H9.out, HS'.out, HO.out, HB.out⟩
      case round =>
        clear HB HO HL H9 HS' hsz hC2
        obtain ⟨k, C, rfl, hC, out, hl, hlt9, hS, hown, hb⟩ := hrel
        have HL := hid hl
        have HS' := hid hS
        have H9 := hid hlt9
        have HB := hid hb
        have hsz := hb.size
        clear hl hS hlt9 hb
        by_cases hlt : 0 < C
        · go_wp2_with (at_builtin; refine wpList_push Tryz.u32Slice rfl _ _ rfl w.heap.size hown rfl rfl rfl (by unfold maxLen; omega) (by omega) hsz ?_; intro v' w3 hown' hb')
          have R : Car (Num.laid s n) w (C / 1000000000) (k + 1) v' w3 :=
            Car.push HL.out H9.out HS'.out rfl (by omega) hown' (HB.out.trans hb')
          have R := hid R
          have hc2 : (C : Int) / 1000000000 = ((C / 1000000000 : Nat) : Int) := by omega
          clear hown hown' hb' HS'
          go_wp2
          go_roundw
          case rel => exact ⟨k + 1, C / 1000000000, by go_num, by omega, R.out⟩
          case measure => simp [intOf]; omega
        · obtain rfl : C = 0 := by omega
          obtain ⟨a, cap, rfl, hrow, hlen⟩ := owns_row hown
          have HO := hid hown
          have HR := hid hrow
          clear hown hrow hlen
          have hcap : k ≤ cap ∧ cap ≤ 9223372036854775807 := owns_cap HO.out
          go_wp2_with fail
          have hll := HL.out
          subst hll
          refine (limb_trim a cap out _ HR.out hcap.1 hcap.2).mono ?_
          rintro e w' ⟨rfl, rfl⟩
          go_wp2
          go_ret
          refine ⟨_, rfl, HB.out, ?_⟩
          have e1 := Num.trim_limbs out H9.out
          rw [show Num.worth out = Num.laid s n by have := HS'.out; omega] at e1
          rw [← e1]
          have e2 := owns_cut HO.out (trimLen out) (trimLen_le out)
          have e3 : (u32s out).take (trimLen out) = u32s (Num.trim out) := by rw [← take_trimLen]; simp [u32s, List.map_take]
          rw [e3] at e2
          exact e2

end Go.Proofs.YtldhebpkplglcaaGreatDoor

namespace Go.Proofs.YtldhebpkplglcaaGreatDoor
open Go.RowKit

theorem small_of {s : Nat → Nat} {n : Nat} (h : ∀ i, i < n → s i ≤ 1000000000000000000) : Small s n := by
  intro i hi; have := h i hi; split <;> omega

/-- A call that yields limbs, in memory of its own. -/
def OutU (w : World) (xs : List Nat) (e : Ending) (w' : World) : Prop :=
  ∃ a cap, e = .returned (.slice a xs.length cap) ∧ Below w.heap.size w w' ∧ w'.ownsRow w.heap.size 62 1 (.slice a xs.length cap) xs.length (u32s xs)
theorem u32_limbs {w : World} {base n cap m : Nat} {a : Option Addr} (h : w.ownsRow base 62 1 (.slice a m cap) m (u32s (Num.limbs n))) : U32 w a (Num.limbs n) :=
  ⟨owned_row h, fun x hx => by have := Num.limbs_lt n x hx; omega⟩

theorem OutU.of_alloc {w w' : World} {o : Obj} {xs : List Nat} {e : Ending} (h : OutU (w.alloc o) xs e w') : OutU w xs e w' := by
  obtain ⟨a, cap, he, hb, ho⟩ := h
  exact ⟨a, cap, he, below_alloc hb, owns_mono ho (by simp)⟩
theorem OutU.of_below {w w1 w' : World} {xs : List Nat} {e : Ending} (h : OutU w1 xs e w') (hb : Below w.heap.size w w1) : OutU w xs e w' := by
  obtain ⟨a, cap, he, hb', ho⟩ := h
  exact ⟨a, cap, he, below_trans hb hb', owns_mono ho hb.size⟩
/-- A call that yields limbs and an error's number. -/
def OutUE (w : World) (xs : List Nat) (err : Nat) (e : Ending) (w' : World) : Prop :=
  ∃ a cap, e = .returned (.tuple #[.slice a xs.length cap, .int .i64 err]) ∧ Below w.heap.size w w' ∧ w'.ownsRow w.heap.size 62 1 (.slice a xs.length cap) xs.length (u32s xs)
theorem OutUE.nil {w w' : World} {err : Nat} (h : Below w.heap.size w w') : OutUE w [] err (.returned (.tuple #[.slice none 0 0, .int .i64 err])) w' := ⟨none, 0, rfl, h, World.ownsRow_nil _ _ _ _⟩

/-- 'carried' as its callers meet it. -/
theorem carried (n f : Nat) (cs : Array Value) (s : Nat → Nat) (w : World) (hn : n ≤ 1000000000) (hs : Small s n) (hcall : ∀ args W, (callFunc f args).run Tryz.prog W = .ok (.enter f args) W)
    (hF : ∀ i W, i < n → Below w.heap.size w W → Calls Tryz.prog f (#[.int .i64 (i : Nat)] ++ cs) W fun e W' => e = .returned (.int .u64 (s i : Nat)) ∧ ∃ q, W' = W.drewN q) :
    Calls Tryz.prog 208 #[.int .i64 n, .func (.func f) #[] cs] w (OutU w (Num.limbs (Num.laid s n))) := by
  refine (carried_any n f cs s w hn hs hcall hF).mono ?_
  rintro e w' ⟨v, rfl, hb, ho⟩
  obtain ⟨a, cap, rfl, _, _⟩ := owns_row ho
  exact ⟨a, cap, rfl, hb, ho⟩

/-- 'trim' on a row of the call's own. -/
theorem limb_trim_same (a : Option Addr) (n cap : Nat) (out : List Nat) (w wr : World) (hl : out.length = n) (h9 : ∀ x ∈ out, x < 1000000000) (ho : wr.ownsRow w.heap.size 62 1 (.slice a n cap) n (u32s out)) (hb : Below w.heap.size w wr) :
    Calls Tryz.prog 212 #[.slice a n cap] wr fun e w' => OutU w (Num.limbs (Num.worth out)) e w' ∧ wr = w' := by
  subst hl
  have hcap := owns_cap ho
  refine (limb_trim a cap out wr (owned_row ho) hcap.1 hcap.2).mono ?_
  rintro e w' ⟨rfl, rfl⟩
  have e1 : Num.trim out = Num.limbs (Num.worth out) := Num.trim_limbs out h9
  have e2 := owns_cut ho (trimLen out) (trimLen_le out)
  have e3 : (u32s out).take (trimLen out) = u32s (Num.trim out) := by rw [← take_trimLen]; simp [u32s, List.map_take]
  rw [e3, e1] at e2
  have e4 : trimLen out = (Num.limbs (Num.worth out)).length := by rw [trimLen, e1]
  rw [e4] at e2 ⊢
  exact ⟨⟨a, cap, rfl, hb, e2⟩, rfl⟩
theorem limb_trim_out (a : Option Addr) (n cap : Nat) (out : List Nat) (w wr : World) (hl : out.length = n) (h9 : ∀ x ∈ out, x < 1000000000) (ho : wr.ownsRow w.heap.size 62 1 (.slice a n cap) n (u32s out)) (hb : Below w.heap.size w wr) :
    Calls Tryz.prog 212 #[.slice a n cap] wr (OutU w (Num.limbs (Num.worth out))) :=
  (limb_trim_same a n cap out w wr hl h9 ho hb).mono fun _ _ h => h.1

theorem norm_sum (W : World) (p b off n cap i : Nat) (x : Int) (hi : i < n) (hp : W.cell? ⟨p, 0, none⟩ = some (.slice (some ⟨b, off, none⟩) n cap)) (hc : W.cell? ⟨b, off + i, none⟩ = some (.int .u32 x)) (h0 : 0 ≤ x) (h1 : x < 4294967296) :
    Calls Tryz.prog 209 #[.int .i64 i, .pointer (some ⟨p, 0, none⟩)] W fun e W' => e = .returned (.int .u64 x) ∧ ∃ q, W' = W.drewN q := by
  go_enter Tryz.func209, Tryz.ntmps209
  go_wp2
  go_ret
  exact ⟨rfl, 0, rfl⟩

theorem laid_list (xs : List Nat) : Num.laid (fun i => xs.getD i 0) xs.length = Num.worth xs := Num.upto_val _ xs

set_option maxHeartbeats 400000 in
theorem limb_Norm (a : Option Addr) (cap : Nat) (xs : List Nat) (w : World) (h : U32 w a xs) (hn : xs.length ≤ 1000000000) :
    Calls Tryz.prog 169 #[.slice a xs.length cap] w (OutU w (Num.limbs (Num.worth xs))) := by
  have H := hid h
  clear h
  go_enter Tryz.func169, Tryz.ntmps169
  go_wp2_with fail
  refine (carried xs.length 209 _ (fun i => xs.getD i 0) _ hn ?_ (run_callFunc Tryz.func209 (by kernel_rfl) (by kernel_rfl)) ?_).mono ?_
  · intro i _; show xs.getD i 0 + _ < _; have := H.out.getD_lt i; split <;> omega
  · intro i W hi hb
    have hb' := below_alloc hb
    obtain ⟨b, off, rfl⟩ := H.out.isSome (by intro e; subst e; simp at hi)
    exact norm_sum W _ b off xs.length cap i _ hi ((hb.cell (by simp)).trans (by simp)) ((hb'.cell (cell_lt (H.out.row.u32 hi))).trans (H.out.row.u32 hi)) (by omega) (by have := H.out.getD_lt i; omega)
  · rw [laid_list]
    rintro e w' ⟨a', cap', rfl, hb, ho⟩
    go_wp2
    go_ret
    exact OutU.of_alloc ⟨_, _, rfl, hb, ho⟩

theorem quiet_same {P : Program} {f : FuncId} {args : Array Value} {w : World} {n : Nat} {v : Value}
    (h : Calls P f args (w.drewN n) fun e w' => e = .returned v ∧ w.drewN n = w') : Calls P f args (w.drewN n) fun e w'' => e = .returned v ∧ ∃ m, w'' = w.drewN m :=
  h.mono fun _ _ ⟨he, hm⟩ => ⟨he, n, hm.symm⟩

/-- -1, 0, 1. -/
def cmpN (x y : Nat) : Int := if x < y then -1 else if y < x then 1 else 0
theorem compare_int (x y : Nat) (w : World) (_hx : x ≤ 1000000000) (hy : y ≤ 1000000000) :
    Calls Tryz.prog 194 #[.int .i64 x, .int .i64 y] w fun e w' => e = .returned (.int .i64 (cmpN x y)) ∧ w = w' := by
  rcases Nat.lt_trichotomy x y with h | h | h
  · have e : cmpN x y = -1 := by simp [cmpN, h]
    rw [e]
    go_enter Tryz.func194, Tryz.ntmps194
    go_wp2
    go_ret
    exact ⟨rfl, rfl⟩
  · subst h
    have e : cmpN x x = 0 := by simp [cmpN]
    rw [e]
    go_enter Tryz.func194, Tryz.ntmps194
    go_wp2
    go_ret
    exact ⟨rfl, rfl⟩
  · have e : cmpN x y = 1 := by unfold cmpN; rw [if_neg (by omega), if_pos h]
    rw [e]
    go_enter Tryz.func194, Tryz.ntmps194
    go_wp2
    go_ret
    exact ⟨rfl, rfl⟩

end Go.Proofs.YtldhebpkplglcaaGreatDoor

namespace Go.Proofs.YtldhebpkplglcaaGreatDoor
open Go.RowKit

theorem limb_ten (n : Nat) (w : World) (hn : n ≤ 9) :
    Calls Tryz.prog 211 #[.int .i64 n] w fun e w' => e = .returned (.int .u64 ((10 ^ n : Nat) : Int)) ∧ w = w' := by
  have HP : Hid (∀ k, k ≤ n → 10 ^ k ≤ 1000000000) := fun k hk => Nat.pow_le_pow_right (by omega) (by omega : k ≤ 9)
  go_enter Tryz.func211, Tryz.ntmps211
  go_wp2
  go_loop [3, 5] (fun p i => ∃ (k P : Nat), k ≤ n ∧ i = .int .i64 k ∧ p = .int .u64 P ∧ P = 10 ^ k) (fun _ i => n - (intOf i).toNat)
  case atStart => exact ⟨0, 1, Nat.zero_le _, rfl, rfl, rfl⟩
  case round =>
    obtain ⟨k, P, hk, rfl, rfl, hP⟩ := hrel
    have hb : P ≤ 1000000000 := by rw [hP]; exact HP.out k hk
    have HQ := hid hP
    clear hP
    by_cases hlt : k < n
    · go_wp2
      go_round
      case rel => exact ⟨k + 1, P * 10, by omega, by go_num, by go_num, by rw [HQ.out, Nat.pow_succ]⟩
      case measure => simp [intOf]; omega
    · obtain rfl : n = k := by omega
      go_wp2
      go_ret
      exact ⟨ret_int (by rw [HQ.out]; simp), rfl⟩

theorem cmpN_eq {x y : Nat} : cmpN x y = 0 ↔ x = y := by unfold cmpN; split <;> (try split) <;> omega
theorem cmpN_lt {x y : Nat} (h : x < y) : cmpN x y = -1 := by simp [cmpN, h]
theorem cmpN_gt {x y : Nat} (h : y < x) : cmpN x y = 1 := by unfold cmpN; rw [if_neg (by omega), if_pos h]

theorem drewN_more {w wr : World} (h : ∃ q, wr = w.drewN q) (n : Nat) : ∃ q, wr.drewN n = w.drewN q := by
  obtain ⟨q, rfl⟩ := h; exact ⟨q + n, World.drewN_drewN _ _ _⟩

/-- So many limbs has a number. -/
theorem limbs_length_le {n k : Nat} : (Num.limbs n).length ≤ k ↔ n < Num.B9 ^ k := Num.digs_length_le Num.two_le_B9
theorem worth_bound {xs : List Nat} (h : ∀ x ∈ xs, x < 4294967296) : Num.worth xs + 5 ≤ 5 * Num.B9 ^ xs.length := by
  induction xs with
  | nil => simp [Num.worth, Num.val]
  | cons x xs ih =>
    have h1 := h x (by simp)
    have h2 := ih (fun y hy => h y (by simp [hy]))
    have h3 : Num.B9 * (Num.worth xs + 5) ≤ Num.B9 * (5 * Num.B9 ^ xs.length) := Nat.mul_le_mul_left _ h2
    have e : Num.worth (x :: xs) = x + Num.B9 * Num.worth xs := rfl
    have e2 : 5 * Num.B9 ^ (x :: xs).length = Num.B9 * (5 * Num.B9 ^ xs.length) := by
      rw [List.length_cons, Nat.pow_succ]; ac_rfl
    rw [e, e2]
    rw [Nat.mul_add] at h3
    have : Num.B9 = 1000000000 := rfl
    omega
theorem worth_lt {xs : List Nat} {k : Nat} (h : ∀ x ∈ xs, x < 4294967296) (hk : xs.length ≤ k) : (Num.limbs (Num.worth xs)).length ≤ k + 1 := by
  rw [limbs_length_le]
  have h1 := worth_bound h
  have h2 : Num.B9 ^ xs.length ≤ Num.B9 ^ k := Nat.pow_le_pow_right (by decide) hk
  have h3 : 5 * Num.B9 ^ k ≤ Num.B9 ^ k * Num.B9 := by rw [Nat.mul_comm]; exact Nat.mul_le_mul_left _ (by decide)
  rw [Nat.pow_succ]
  omega

end Go.Proofs.YtldhebpkplglcaaGreatDoor

namespace Go.Proofs.YtldhebpkplglcaaGreatDoor
open Go.RowKit

/-- What holds at the head of a round of 'less'. -/
def Les (w : World) (xs ys : List Nat) (n k borrow : Nat) (g cap : Nat) (wr : World) : Prop :=
  ∃ out : List Nat, out.length = k ∧ (∀ x ∈ out, x < 1000000000) ∧ Num.val Num.B9 out + Num.val Num.B9 (ys.take k) = Num.val Num.B9 (xs.take k) + borrow * Num.B9 ^ k ∧
    wr.ownsRow w.heap.size 62 1 (.slice (some ⟨g, 0, none⟩) n cap) n (u32s (out ++ List.replicate (n - k) 0)) ∧ Below w.heap.size w wr

theorem Les.step {w wr w1 : World} {xs ys : List Nat} {n k borrow g cap : Nat} {out : List Nat} (h1 : out.length = k) (h2 : ∀ x ∈ out, x < 1000000000)
    (h3 : Num.val Num.B9 out + Num.val Num.B9 (ys.take k) = Num.val Num.B9 (xs.take k) + borrow * Num.B9 ^ k) (h4 : wr.ownsRow w.heap.size 62 1 (.slice (some ⟨g, 0, none⟩) n cap) n (u32s (out ++ List.replicate (n - k) 0))) (h5 : Below w.heap.size w wr)
    (hk : k < n) (hb : borrow ≤ 1) (hx : xs.getD k 0 < 1000000000) (hy : ys.getD k 0 < 1000000000) (T : Nat) (hT : T + ys.getD k 0 + borrow = xs.getD k 0 + 1000000000) (hw : w1 = wr.setCell ⟨g, k, none⟩ (.int .u32 ((T % 1000000000 : Nat) : Int))) :
    Les w xs ys n (k + 1) (1 - T / 1000000000) g cap w1 := by
  subst hw
  have hs := h4.stored k (.int .u32 ((T % 1000000000 : Nat) : Int))
  refine ⟨out ++ [T % 1000000000], by simp [h1], ?_, ?_, ?_, ?_⟩
  · intro y hy
    rcases List.mem_append.1 hy with h | h
    · exact h2 y h
    · simp at h; omega
  · rw [Num.val_snoc, h1, Num.val_take_succ, Num.val_take_succ, Nat.pow_succ]
    obtain ⟨c, hc⟩ : ∃ c, c = 1 - T / 1000000000 := ⟨_, rfl⟩
    rw [← hc]
    have e : T % 1000000000 + ys.getD k 0 + borrow = xs.getD k 0 + c * 1000000000 := by omega
    have e2 : Num.B9 ^ k * (T % 1000000000 + ys.getD k 0 + borrow) = Num.B9 ^ k * (xs.getD k 0 + c * 1000000000) := by rw [e]
    simp only [Nat.mul_add] at e2
    have e3 : Num.B9 ^ k * (c * 1000000000) = c * (Num.B9 ^ k * Num.B9) := by rw [show (1000000000 : Nat) = Num.B9 from rfl]; ac_rfl
    rw [Nat.mul_comm borrow] at h3
    omega
  · have e : (u32s (out ++ List.replicate (n - k) 0)).set k (.int .u32 ((T % 1000000000 : Nat) : Int)) = u32s (out ++ [T % 1000000000] ++ List.replicate (n - (k + 1)) 0) := by
      have e1 : List.replicate (n - k) 0 = 0 :: List.replicate (n - (k + 1)) 0 := by rw [← List.replicate_succ]; congr 1; omega
      rw [e1]
      subst h1
      simp [u32s]
    rw [e] at hs
    exact hs.1
  · exact h5.grown hs.2 h5.size (fun j hj => by injection hj with hj; subst hj; exact (h4.lt g rfl).1)

end Go.Proofs.YtldhebpkplglcaaGreatDoor

namespace Go.Proofs.YtldhebpkplglcaaGreatDoor
open Go.RowKit

/-- What holds of the row in which a product is laid down: digits, and what they are worth. -/
def Acc (w : World) (n g V : Nat) (wr : World) : Prop :=
  ∃ L : List Nat, L.length = n ∧ (∀ x ∈ L, x < 1000000000) ∧ Num.worth L = V ∧ wr.ownsRow w.heap.size 62 1 (.slice (some ⟨g, 0, none⟩) n n) n (u32s L) ∧ Below w.heap.size w wr

/-- What holds at the head of an inner round of 'Mul'. -/
def AccC (w : World) (n g V C p : Nat) (wr : World) : Prop :=
  ∃ L : List Nat, L.length = n ∧ (∀ x ∈ L, x < 1000000000) ∧ Num.worth L + C * Num.B9 ^ p = V ∧ wr.ownsRow w.heap.size 62 1 (.slice (some ⟨g, 0, none⟩) n n) n (u32s L) ∧ Below w.heap.size w wr

theorem AccC.step {w wr w1 : World} {n g V C p t T : Nat} {L : List Nat} (h1 : L.length = n) (h2 : ∀ x ∈ L, x < 1000000000) (h3 : Num.worth L + C * Num.B9 ^ p = V)
    (h4 : wr.ownsRow w.heap.size 62 1 (.slice (some ⟨g, 0, none⟩) n n) n (u32s L)) (h5 : Below w.heap.size w wr) (hp : p < n) (hT : T = C + (L.getD p 0 + t)) (hw : w1 = wr.setCell ⟨g, p, none⟩ (.int .u32 ((T % 1000000000 : Nat) : Int))) :
    AccC w n g (V + t * Num.B9 ^ p) (T / 1000000000) (p + 1) w1 := by
  subst hw
  have hs := h4.stored p (.int .u32 ((T % 1000000000 : Nat) : Int))
  refine ⟨L.set p (T % 1000000000), by simp [h1], ?_, ?_, ?_, ?_⟩
  · intro y hy
    rcases List.mem_or_eq_of_mem_set hy with h | h
    · exact h2 y h
    · subst h; omega
  · have e := Num.val_set Num.B9 L p (T % 1000000000) (by omega)
    have e1 := Nat.mod_add_div T 1000000000
    have e2 : Num.B9 ^ p * (T % 1000000000 + 1000000000 * (T / 1000000000)) = Num.B9 ^ p * (C + (L.getD p 0 + t)) := by rw [e1, hT]
    simp only [Nat.mul_add] at e2
    have e3 : Num.B9 ^ p * (1000000000 * (T / 1000000000)) = T / 1000000000 * (Num.B9 ^ p * Num.B9) := by rw [show (1000000000 : Nat) = Num.B9 from rfl]; ac_rfl
    rw [Nat.pow_succ]
    unfold Num.worth at h3 ⊢
    rw [Nat.mul_comm (L.getD p 0), Nat.mul_comm (T % 1000000000)] at e
    rw [Nat.mul_comm C] at h3
    rw [Nat.mul_comm t]
    omega
  · have e : (u32s L).set p (.int .u32 ((T % 1000000000 : Nat) : Int)) = u32s (L.set p (T % 1000000000)) := by simp [u32s, List.map_set]
    rw [e] at hs
    exact hs.1
  · exact h5.grown hs.2 h5.size (fun j hj => by injection hj with hj; subst hj; exact (h4.lt g rfl).1)

end Go.Proofs.YtldhebpkplglcaaGreatDoor

namespace Go.Proofs.YtldhebpkplglcaaGreatDoor
open Go.RowKit

theorem u32s_one (xs : List Nat) : ∀ u ∈ u32s xs, u.oneCell' = true := fun u hu => by simp [u32s] at hu; obtain ⟨x, _, rfl⟩ := hu; rfl

/-- slices.Clone of what is not nil. -/
theorem clone_u32 (b off n cap : Nat) (xs : List Nat) (w : World) (h : Row w (some ⟨b, off, none⟩) (u32s xs)) (hl : xs.length = n) (hn : n ≤ 100000001) :
    Calls Tryz.prog 210 #[.slice (some ⟨b, off, none⟩) n cap] w (OutU w xs) := by
  have H := hid h
  have HL := hid hl
  have hm : 0 + n ≤ maxLen := by unfold maxLen; omega
  have hml4 : (0 + n) * 4 ≤ 140737488355328 := by omega
  have h0 := World.ownsRow_made (base := w.heap.size) (e := 62) (size := 1) w #[] 0 (Nat.le_refl _) (by unfold maxLen; omega) rfl
  have hr0 : Row (w.alloc (.cells #[] 62)) (some ⟨b, off, none⟩) (u32s xs) := h.below ((Below.refl _ _).alloc (Nat.le_refl _) _)
  have hq := fun (W : World) => Lib.run_eql_slice_nil (P := Tryz.prog) W 22 62 (some ⟨b, off, none⟩) n cap 0 0 Tryz.underlying22
  have H0 := hid h0
  have HR := hid hr0
  clear h hl h0 hr0
  go_enter Tryz.func210, Tryz.ntmps210
  go_wp2_with (at_builtin; refine wpList_extend Tryz.u32Slice rfl _ _ rfl w.heap.size H0.out rfl rfl HR.out (by rw [length_u32s, HL.out]) (by simp) (u32s_one _) hm hml4 (by simp) ?_; intro v' w' hown hb)
  rw [Nat.zero_add, List.nil_append] at hown
  obtain ⟨a, c, rfl, _, _⟩ := owns_row hown
  go_ret
  refine ⟨a, c, by rw [HL.out]; rfl, ?_, by rw [HL.out]; exact hown⟩
  exact ((Below.refl _ _).alloc (Nat.le_refl _) _).trans hb

end Go.Proofs.YtldhebpkplglcaaGreatDoor

namespace Go.Proofs.YtldhebpkplglcaaGreatDoor
open Go.RowKit

/-- A call that yields two lists of limbs and an error's number. -/
def OutUUE (w : World) (xs ys : List Nat) (err : Nat) (e : Ending) (w' : World) : Prop :=
  ∃ a cap a2 cap2, e = .returned (.tuple #[.slice a xs.length cap, .slice a2 ys.length cap2, .int .i64 err]) ∧ Below w.heap.size w w' ∧ w'.ownsRow w.heap.size 62 1 (.slice a xs.length cap) xs.length (u32s xs) ∧ w'.ownsRow w.heap.size 62 1 (.slice a2 ys.length cap2) ys.length (u32s ys)

/-- 'trim' of what only reads. -/
theorem limb_trim_read (a : Option Addr) (n cap : Nat) (out : List Nat) (w : World) (hl : out.length = n) (h9 : ∀ x ∈ out, x < 1000000000) (h : Row w a (u32s out)) (hcap : n ≤ cap) (hcap2 : cap ≤ 9223372036854775807) :
    Calls Tryz.prog 212 #[.slice a n cap] w fun e w' => e = .returned (.slice a (Num.limbs (Num.worth out)).length cap) ∧ w = w' := by
  subst hl
  refine (limb_trim a cap out w h hcap hcap2).mono ?_
  rintro e w' ⟨rfl, rfl⟩
  exact ⟨by rw [trimLen, Num.trim_limbs out h9], rfl⟩

set_option maxRecDepth 100000 in
set_option maxHeartbeats 400000 in
/-- More places than there are limbs. -/
theorem cut_all (a : Option Addr) (cap n : Nat) (xs : List Nat) (w : World) (h : U32 w a xs) (hl : xs.length ≤ 100000000) (hn : n ≤ 30000) (h0 : Num.worth xs ≠ 0) (hlt : (Num.limbs (Num.worth xs)).length < n / 9) :
    Calls Tryz.prog 171 #[.slice a xs.length cap, .int .i64 n] w (OutUUE w [] (Num.limbs (Num.worth xs)) 0) := by
  have l1 := worth_lt h.lt (Nat.le_refl _)
  have CN := limb_Norm a cap xs w h (by omega)
  obtain ⟨X, hX⟩ : ∃ X, X = Num.limbs (Num.worth xs) := ⟨_, rfl⟩
  have hX0 : X ≠ [] := by rw [hX]; exact fun e => h0 ((Num.digs_eq_nil Num.two_le_B9).1 e)
  have h9 : ∀ x ∈ X, x < 1000000000 := by rw [hX]; exact Num.limbs_lt _
  have hXX : Num.limbs (Num.worth X) = X := by rw [hX, Num.worth_limbs]
  rw [← hX] at CN hlt l1 ⊢
  have CN := hid CN
  have H9 := hid h9
  have HX0 := hid hX0
  have HXX := hid hXX
  clear h h0 hX hX0 h9 hXX
  have CT : Hid (∀ W, Calls Tryz.prog 211 #[.int .i64 ((n : Int) % 9)] W fun e w' => e = .returned (.int .u64 ((10 ^ (n % 9) : Nat) : Int)) ∧ W = w') := fun W => by
    have := limb_ten (n % 9) W (by omega)
    simpa using this
  go_enter Tryz.func171, Tryz.ntmps171
  go_wp2_with fail
  refine CN.out.mono ?_
  rintro e w1 ⟨a1, c1, rfl, hb1, ho1⟩
  obtain ⟨b, off, rfl⟩ := (owned_row ho1).isSome (by intro e; exact HX0.out (by simpa [u32s] using e))
  have hcap := owns_cap ho1
  have HB1 := hid hb1
  have HO1 := hid ho1
  have hsz1 := hb1.size
  clear hb1 ho1 CN
  go_wp2_with fail
  have hcc : c1 = X.length ∨ ¬ c1 = X.length := Classical.em _
  rcases hcc with rfl | hcc
  all_goals go_region_with ((go_at_call 210; refine (clone_u32 b off X.length _ X w1.drew (show Row w1 _ _ from owned_row HO1.out) rfl (by omega)).mono ?_; rintro e w2 ⟨a2, c2, rfl, hb2, ho2⟩))
  all_goals
    have HB2 := hid (below_trans HB1.out (show Below w1.heap.size w1 w2 from (below_drewN (Below.refl _ w1) 1).trans hb2))
    have HO2 := hid (show w2.ownsRow w.heap.size 62 1 (.slice a2 X.length c2) X.length (u32s X) from owns_mono ho2 (by simpa using hsz1))
    clear hb2 ho2
    go_wp2_with fail
    refine (CT.out w2).mono ?_
    rintro e w3 ⟨rfl, rfl⟩
    go_wp2_with fail
    refine (limb_trim_out a2 X.length c2 X w w2 rfl H9.out HO2.out HB2.out).mono ?_
    rw [HXX.out]
    rintro e w4 ⟨a4, c4, rfl, hb4, ho4⟩
    go_wp2
    go_ret3
    exact ⟨none, 0, a4, c4, rfl, hb4, World.ownsRow_nil _ _ _ _, ho4⟩

/-- What holds at the head of a round of 'Cut'. -/
def Div (w : World) (H : List Nat) (P k R g : Nat) (wr : World) : Prop :=
  ∃ L : List Nat, L.length = H.length ∧ (∀ x ∈ L, x < 1000000000) ∧ Num.val Num.B9 (H.drop k) = Num.val Num.B9 (L.drop k) * P + R ∧ R < P ∧
    wr.ownsRow w.heap.size 62 1 (.slice (some ⟨g, 0, none⟩) H.length H.length) H.length (u32s L) ∧ Below w.heap.size w wr

theorem Div.step {w wr w1 : World} {H L : List Nat} {P k R g T : Nat} (h1 : L.length = H.length) (h2 : ∀ x ∈ L, x < 1000000000) (h3 : Num.val Num.B9 (H.drop (k + 1)) = Num.val Num.B9 (L.drop (k + 1)) * P + R) (h4 : R < P)
    (h5 : wr.ownsRow w.heap.size 62 1 (.slice (some ⟨g, 0, none⟩) H.length H.length) H.length (u32s L)) (h6 : Below w.heap.size w wr) (hk : k < H.length) (hx : H.getD k 0 < 1000000000) (hT : T = R * 1000000000 + H.getD k 0)
    (hw : w1 = wr.setCell ⟨g, k, none⟩ (.int .u32 ((T / P : Nat) : Int))) : Div w H P k (T % P) g w1 := by
  subst hw
  have hP : 0 < P := by omega
  have hs := h5.stored k (.int .u32 ((T / P : Nat) : Int))
  have hlt : T / P < 1000000000 := by
    rw [Nat.div_lt_iff_lt_mul hP, hT]
    have : (R + 1) * 1000000000 ≤ P * 1000000000 := Nat.mul_le_mul_right _ h4
    rw [Nat.mul_comm 1000000000]
    omega
  have hkL : k < L.length := by omega
  refine ⟨L.set k (T / P), by simpa using h1, ?_, ?_, Nat.mod_lt _ hP, ?_, ?_⟩
  · intro y hy
    rcases List.mem_or_eq_of_mem_set hy with h | h
    · exact h2 y h
    · subst h; exact hlt
  · have e1 : (L.set k (T / P)).drop k = T / P :: L.drop (k + 1) := by
      rw [List.drop_eq_getElem_cons (by simpa using hkL)]
      simp [List.drop_set]
    rw [e1, Num.drop_getD hk, Num.val_cons, Num.val_cons, h3, Nat.add_mul]
    have e2 : Num.B9 * (Num.val Num.B9 (L.drop (k + 1)) * P + R) = Num.B9 * Num.val Num.B9 (L.drop (k + 1)) * P + R * 1000000000 := by
      rw [Nat.mul_add, show (1000000000 : Nat) = Num.B9 from rfl]; congr 1 <;> ac_rfl
    rw [e2]
    have e3 := Nat.mod_add_div T P
    rw [Nat.mul_comm P] at e3
    omega
  · have e : (u32s L).set k (.int .u32 ((T / P : Nat) : Int)) = u32s (L.set k (T / P)) := by simp [u32s, List.map_set]
    rw [e] at hs
    exact hs.1
  · exact h6.grown hs.2 h6.size (fun j hj => by injection hj with hj; subst hj; exact (h5.lt g rfl).1)

/-- What is left of a number whose limbs are cut at place q. -/
theorem cut_math (X : List Nat) (h9 : ∀ x ∈ X, x < 1000000000) (q P Q R : Nat) (_hq : q ≤ X.length) (hR : R < P) (h : Num.val Num.B9 (X.drop q) = Q * P + R) :
    Q = Num.worth X / (P * Num.B9 ^ q) ∧ Num.worth (X.take q ++ [R]) = Num.worth X % (P * Num.B9 ^ q) := by
  have e := Num.val_append Num.B9 (X.take q) (X.drop q)
  rw [List.take_append_drop, List.length_take, Nat.min_eq_left _hq, h] at e
  have hlow := Num.val_take_lt (b := Num.B9) (by decide) X h9 q
  have e2 : Num.worth (X.take q ++ [R]) = Num.val Num.B9 (X.take q) + Num.B9 ^ q * R := by
    unfold Num.worth; rw [Num.val_snoc, List.length_take, Nat.min_eq_left _hq]
  have e3 : Num.worth X = (Num.val Num.B9 (X.take q) + Num.B9 ^ q * R) + P * Num.B9 ^ q * Q := by
    unfold Num.worth; rw [e, Nat.mul_add]
    have : Num.B9 ^ q * (Q * P) = P * Num.B9 ^ q * Q := by ac_rfl
    omega
  have hlt : Num.val Num.B9 (X.take q) + Num.B9 ^ q * R < P * Num.B9 ^ q := by
    have : Num.B9 ^ q * (R + 1) ≤ Num.B9 ^ q * P := Nat.mul_le_mul_left _ hR
    rw [Nat.mul_add, Nat.mul_one, Nat.mul_comm _ P] at this
    omega
  rw [e2, e3]
  constructor
  · rw [Nat.add_mul_div_left _ _ (by omega), Nat.div_eq_of_lt hlt, Nat.zero_add]
  · rw [Nat.add_mul_mod_self_left, Nat.mod_eq_of_lt hlt]

end Go.Proofs.YtldhebpkplglcaaGreatDoor

namespace Go.Proofs.YtldhebpkplglcaaGreatDoor
open Go.RowKit

theorem div_int_lt {T P c : Nat} (h : T / P < c) : (T : Int) / (P : Int) < (c : Int) := by exact_mod_cast h

set_option maxRecDepth 100000 in
set_option maxHeartbeats 800000 in
theorem cut_some (a : Option Addr) (cap n : Nat) (xs : List Nat) (w : World) (h : U32 w a xs) (hl : xs.length ≤ 100000000) (hn : n ≤ 30000) (h0 : Num.worth xs ≠ 0) (hle : n / 9 ≤ (Num.limbs (Num.worth xs)).length) :
    Calls Tryz.prog 171 #[.slice a xs.length cap, .int .i64 n] w (OutUUE w (Num.limbs (Num.worth xs / 10 ^ n)) (Num.limbs (Num.worth xs % 10 ^ n)) 0) := by
  have l1 := worth_lt h.lt (Nat.le_refl _)
  have CN := limb_Norm a cap xs w h (by omega)
  obtain ⟨X, hX⟩ : ∃ X, X = Num.limbs (Num.worth xs) := ⟨_, rfl⟩
  have hX0 : X ≠ [] := by rw [hX]; exact fun e => h0 ((Num.digs_eq_nil Num.two_le_B9).1 e)
  have h9 : ∀ x ∈ X, x < 1000000000 := by rw [hX]; exact Num.limbs_lt _
  have hXX : Num.worth xs = Num.worth X := by rw [hX, Num.worth_limbs]
  obtain ⟨q, hq⟩ : ∃ q, q = n / 9 := ⟨_, rfl⟩
  obtain ⟨P, hP⟩ : ∃ P, P = 10 ^ (n % 9) := ⟨_, rfl⟩
  have hP9 : P ≤ 100000000 := by rw [hP]; exact Nat.pow_le_pow_right (n := 10) (by decide) (by omega : n % 9 ≤ 8)
  have hP0 : 1 ≤ P := by rw [hP]; exact Nat.pow_pos (by decide)
  have hten : 10 ^ n = P * Num.B9 ^ q := by rw [hP, hq]; exact Num.ten9 n
  rw [← hX] at CN hle l1
  rw [hXX, hten]
  rw [← hq] at hle
  have CN := hid CN
  have H9 := hid h9
  have HX0 := hid hX0
  have CT : Hid (∀ W, Calls Tryz.prog 211 #[.int .i64 ((n : Int) % 9)] W fun e w' => e = .returned (.int .u64 (P : Int)) ∧ W = w') := fun W => by
    have := limb_ten (n % 9) W (by omega)
    rw [hP]
    simpa using this
  have hq9 : (n : Int) / 9 = (q : Int) := by omega
  have HQ9 := hid hq9
  clear h h0 hX hX0 h9 hXX hten hP hq hq9
  go_enter Tryz.func171, Tryz.ntmps171
  go_wp2_with fail
  refine CN.out.mono ?_
  rintro e w1 ⟨a1, c1, rfl, hb1, ho1⟩
  obtain ⟨b, off, rfl⟩ := (owned_row ho1).isSome (by intro e; exact HX0.out (by simpa [u32s] using e))
  have hcap := owns_cap ho1
  have HB1 := hid hb1
  have HO1 := hid ho1
  have hsz1 := hb1.size
  have hq9 := HQ9.out
  clear hb1 ho1 CN
  obtain ⟨ah, hah⟩ : ∃ ah, ah = advance (some ⟨b, off, none⟩) c1 q := ⟨_, rfl⟩
  have hsl := fun W => run_slice_from (P := Tryz.prog) Tryz.underlying22 Tryz.sizeOf62 (some ⟨b, off, none⟩) X.length c1 q hle W
  rw [← hah] at hsl
  have hrh : Row w1 ah (u32s (X.drop q)) := by
    have := (owned_row HO1.out).drop c1 q (by simpa using hcap.1)
    rw [hah]; simpa [u32s, List.map_drop] using this
  have hrl : Row w1 (some ⟨b, off, none⟩) (u32s (X.take q)) := by
    have := (owned_row HO1.out).take q
    simpa [u32s, List.map_take] using this
  obtain ⟨bh, oh, hbo⟩ := advance_some b off c1 q
  rw [← hah] at hbo
  subst hbo
  obtain ⟨H, hH⟩ : ∃ H, H = X.drop q := ⟨_, rfl⟩
  have hHl : X.length - q = H.length := by rw [hH]; simp
  rw [← hH] at hrh
  rw [hHl] at hsl
  have HH := hid hH
  have HRH := hid hrh
  have HRL := hid hrl
  have hHl2 : H.length ≤ c1 - q := by omega
  have hHl3 : H.length ≤ 100000001 := by omega
  clear hah hH hrh hrl hHl
  go_wp2_with fail
  go_region_with ((go_at_call 210; refine (clone_u32 b off q _ (X.take q) w1.drew (show Row w1 _ _ from HRL.out) (by simp; omega) (by omega)).mono ?_; rintro e w2 ⟨a2, c2, rfl, hb2, ho2⟩))
  have hlq : (X.take q).length = q := by simp; omega
  rw [hlq] at ho2
  have HB2 := hid (below_trans HB1.out (show Below w1.heap.size w1 w2 from (below_drewN (Below.refl _ w1) 1).trans hb2))
  have HB12 := hid (show Below w1.heap.size w1 w2 from (below_drewN (Below.refl _ w1) 1).trans hb2)
  have HO2 := hid (show w2.ownsRow w.heap.size 62 1 (.slice a2 q c2) q (u32s (X.take q)) from owns_mono ho2 (by simpa using hsz1))
  have hsz2 := HB2.out.size
  clear hb2 ho2 hlq hsl
  go_wp2_with fail
  refine (CT.out w2).mono ?_
  rintro e w3 ⟨rfl, rfl⟩
  go_wp2_with (at_make; refine wpList_full Tryz.u32Slice rfl _ _ rfl H.length rfl rfl rfl rfl (by omega) (by unfold maxLen; omega) ?_; intro w3 hown hb3)
  have HOQ := hid hown
  have HB3 := hid hb3
  clear hown hb3
  go_loopw [13, 14] (fun r i wr => ∃ (k R : Nat), k ≤ H.length ∧ i = .int .i64 ((k : Int) - 1) ∧ r = .int .u64 R ∧ R < P ∧ Div w2 H P k R w2.heap.size wr) (fun _ i _ => (intOf i + 1).toNat)
  case atStart =>
    refine ⟨H.length, 0, Nat.le_refl _, rfl, rfl, by omega, List.replicate H.length 0, by simp, by simp, ?_, by omega, ?_, HB3.out⟩
    · rw [List.drop_of_length_le (Nat.le_refl _), List.drop_of_length_le (by simp)]; simp [Num.val]
    · simpa [u32s] using HOQ.out
  case round =>
    clear HB3 HOQ
    obtain ⟨k, R, hk, rfl, rfl, hR, L, h1, h2, h3, h4, h5, h6⟩ := hrel
    have HL1 := hid h1
    have HL2 := hid h2
    have HL3 := hid h3
    have HL5 := hid h5
    have HL6 := hid h6
    clear h1 h2 h3 h4 h5 h6
    by_cases hk0 : k = 0
    · subst hk0
      go_wp2_with fail
      refine (limb_trim_out _ H.length H.length L w2 wr HL1.out HL2.out HL5.out HL6.out).mono ?_
      rintro e w4 ⟨aq, cq, rfl, hb4, ho4⟩
      have HB4 := hid hb4
      have HO4 := hid ho4
      have hlow2 := (HO2.out).lt
      have hlow := owns_below HO2.out hb4
      have hsz4 := Nat.le_trans hsz2 hb4.size
      have HLW := hid hlow2
      have hRR : (R : Int) < 4294967296 := by omega
      have hmx : q + 1 ≤ maxLen := by unfold maxLen; omega
      clear hb4 ho4 hlow2
      go_wp2_with (at_builtin; refine wpList_push_at Tryz.u32Slice rfl _ _ rfl w.heap.size hlow rfl rfl rfl hmx (by omega) hsz4 ?_; intro v5 w5 hown5 hb5 hg5)
      obtain ⟨a5, c5, rfl, _, _⟩ := owns_row hown5
      have HO5 := hid (show w5.ownsRow w.heap.size 62 1 (.slice a5 (q + 1) c5) (q + 1) (u32s (X.take q ++ [R])) by simpa [u32s] using hown5)
      have HB5 := hid ((below_trans HB2.out HB4.out).trans hb5)
      have HOQ := hid (owns_grown HO4.out hg5 (fun k hk => (HLW.out k hk).2) hlow)
      clear hown5 hb5 hg5 hlow
      go_wp2_with fail
      have h9' : ∀ x ∈ X.take q ++ [R], x < 1000000000 := fun y hy => by
        rcases List.mem_append.1 hy with h | h
        · exact H9.out y (List.mem_of_mem_take h)
        · simp at h; omega
      refine (limb_trim_same a5 (q + 1) c5 (X.take q ++ [R]) w w5 (by simp; omega) h9' HO5.out HB5.out).mono ?_
      have hmath := cut_math X H9.out q P (Num.val Num.B9 L) R hle hR (by have := HL3.out; rw [HH.out] at this; simpa using this)
      rw [hmath.2]
      have hQ : Num.worth L = Num.worth X / (P * Num.B9 ^ q) := hmath.1
      rw [hQ] at HOQ ⊢
      clear hmath hQ
      rintro e w6 ⟨⟨a6, c6, rfl, hb6, ho6⟩, rfl⟩
      go_wp2
      go_ret3
      refine ⟨_, _, _, _, rfl, hb6, ?_, ho6⟩
      exact owns_mono HOQ.out hsz2
    · obtain ⟨m, rfl⟩ : ∃ m, k = m + 1 := ⟨k - 1, by omega⟩
      have e1 : ((m + 1 : Nat) : Int) - 1 = (m : Int) := by omega
      rw [e1]
      have hm : m < H.length := by omega
      obtain ⟨x, hxe⟩ : ∃ x, x = H.getD m 0 := ⟨_, rfl⟩
      have hx9 : x < 1000000000 := by
        rw [hxe, HH.out]
        have : q + m < X.length := by have := HH.out; rw [this] at hm; simp at hm; omega
        rw [List.getD_eq_getElem?_getD, List.getElem?_drop, List.getElem?_eq_getElem this]
        exact H9.out _ (by simp)
      have g0 := (HRH.out.below HB12.out).u32 hm
      have g1 : wr.cell? ⟨bh, oh + m, none⟩ = some (.int .u32 (x : Int)) := by rw [hxe]; exact (HL6.out.cell (cell_lt g0)).trans g0
      have hold : ∃ u, wr.cell? ⟨w2.heap.size, m, none⟩ = some (.int .u32 u) := by
        rw [HL5.out.cellAt m (by omega)]; exact u32s_get (by have := HL1.out; omega)
      obtain ⟨u, hold⟩ := hold
      have hf2 := HL5.out.frozenAt m
      obtain ⟨T, hT⟩ : ∃ T, T = R * 1000000000 + x := ⟨_, rfl⟩
      have hTi : (R : Int) * 1000000000 + (x : Int) = (T : Int) := by omega
      have hT9 : (T : Int) ≤ 1000000000000000000 := by omega
      have hdiv : ((T / P : Nat) : Int) = (T : Int) / (P : Int) := by simp
      have hmod : (T : Int) % (P : Int) = ((T % P : Nat) : Int) := by simp
      have hdl : T / P < 1000000000 := by
        rw [Nat.div_lt_iff_lt_mul (by omega), hT]
        have : (R + 1) * 1000000000 ≤ P * 1000000000 := Nat.mul_le_mul_right _ hR
        omega
      have hml : T % P < P := Nat.mod_lt _ (by omega)
      have HD : Hid (∀ wz, wz = wr.setCell ⟨w2.heap.size, m, none⟩ (.int .u32 ((T / P : Nat) : Int)) → Div w2 H P m (T % P) w2.heap.size wz) := fun wz hz =>
        Div.step HL1.out HL2.out HL3.out hR HL5.out HL6.out hm (by rw [← hxe]; exact hx9) (by rw [← hxe]; exact hT) hz
      have hd0 : 0 ≤ (T : Int) / (P : Int) := Int.ediv_nonneg (by omega) (by omega)
      have hd1 : (T : Int) / (P : Int) < 1000000000 := div_int_lt hdl
      have HDIV := hid hdiv
      have HMOD := hid hmod
      have HD := hid (fun wz (hz : wz = wr.setCell ⟨w2.heap.size, m, none⟩ (.int .u32 ((T : Int) / (P : Int)))) => HD.out wz (by rw [HDIV.out]; exact hz))
      clear hdiv hmod hdl
      have hPz : ((P : Int) == 0) = false := by rw [beq_eq_false_iff_ne]; omega
      clear hT hxe e1 g0
      go_wp2
      go_roundw
      case rel => exact ⟨m, T % P, by omega, by go_num, by rw [HMOD.out], hml, HD.out _ rfl⟩
      case measure => simp [intOf]

theorem limb_Cut (a : Option Addr) (cap n : Nat) (xs : List Nat) (w : World) (h : U32 w a xs) (hl : xs.length ≤ 100000000) (hn : n ≤ 30000) (h0 : Num.worth xs ≠ 0) :
    Calls Tryz.prog 171 #[.slice a xs.length cap, .int .i64 n] w (OutUUE w (Num.limbs (Num.worth xs / 10 ^ n)) (Num.limbs (Num.worth xs % 10 ^ n)) 0) := by
  by_cases hlt : (Num.limbs (Num.worth xs)).length < n / 9
  · have C := cut_all a cap n xs w h hl hn h0 hlt
    have e : Num.worth xs < 10 ^ n := by
      have h1 := limbs_length_le.1 (Nat.le_of_lt hlt)
      have h2 : Num.B9 ^ (n / 9) ≤ 10 ^ n := by
        rw [Num.ten9 n]; exact Nat.le_mul_of_pos_left _ (Nat.pow_pos (by decide))
      omega
    rw [Nat.div_eq_of_lt e, Nat.mod_eq_of_lt e]
    exact C
  · exact cut_some a cap n xs w h hl hn h0 (by omega)

end Go.Proofs.YtldhebpkplglcaaGreatDoor
