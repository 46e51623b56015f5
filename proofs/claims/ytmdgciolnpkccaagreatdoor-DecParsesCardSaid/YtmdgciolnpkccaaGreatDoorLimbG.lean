/- Layer 1, seventh part: Cut. -/
import Derived.Test.YtmdgciolnpkccaaGreatDoorLimbF
import Derived.WalkKit
namespace Go.Proofs.YtmdgciolnpkccaaGreatDoor
open Go.RowKit

/-- A call that yields two lists of limbs and an error's number. -/
def OutUUE (w : World) (xs ys : List Nat) (err : Nat) (e : Ending) (w' : World) : Prop :=
  ∃ a cap a2 cap2, e = .returned (.tuple #[.slice a xs.length cap, .slice a2 ys.length cap2, .int .i64 err]) ∧ Below w.heap.size w w' ∧ w'.ownsRow w.heap.size 70 1 (.slice a xs.length cap) xs.length (u32s xs) ∧ w'.ownsRow w.heap.size 70 1 (.slice a2 ys.length cap2) ys.length (u32s ys)

/-- 'trim' of what only reads. -/
theorem limb_trim_read (a : Option Addr) (n cap : Nat) (out : List Nat) (w : World) (hl : out.length = n) (h9 : ∀ x ∈ out, x < 1000000000) (h : Row w a (u32s out)) (hcap : n ≤ cap) (hcap2 : cap ≤ 9223372036854775807) :
    Calls Tryz.prog 123 #[.slice a n cap] w fun e w' => e = .returned (.slice a (Num.limbs (Num.worth out)).length cap) ∧ w = w' := by
  subst hl
  refine (limb_trim a cap out w h hcap hcap2).mono ?_
  rintro e w' ⟨rfl, rfl⟩
  exact ⟨by rw [trimLen, Num.trim_limbs out h9], rfl⟩

set_option maxRecDepth 100000 in
set_option maxHeartbeats 400000 in
/-- More places than there are limbs. -/
theorem cut_all (a : Option Addr) (cap n : Nat) (xs : List Nat) (w : World) (h : U32 w a xs) (hl : xs.length ≤ 100000000) (hn : n ≤ 30000) (h0 : Num.worth xs ≠ 0) (hlt : (Num.limbs (Num.worth xs)).length < n / 9) :
    Calls Tryz.prog 126 #[.slice a xs.length cap, .int .i64 n] w (OutUUE w [] (Num.limbs (Num.worth xs)) 0) := by
  have l1 := worth_lt h.lt (Nat.le_refl _)
  have CN := limb_Norm a cap xs w h (by omega)
  obtain ⟨X, hX⟩ : ∃ X, X = Num.limbs (Num.worth xs) := ⟨_, rfl⟩
  have hX0 : X ≠ [] := by rw [hX]; exact fun e => h0 ((Num.digs_eq_nil Num.two_le_B9).1 e)
  have h9 : ∀ x ∈ X, x < 1000000000 := by rw [hX]; exact Num.limbs_lt _
  have hXX : Num.limbs (Num.worth X) = X := by rw [hX, Num.worth_limbs]
  rw [← hX] at CN hlt l1 ⊢
  have CN := hid CN
  have H9 := hid h9
  have HX0 := hid hX0
  have HXX := hid hXX
  clear h h0 hX hX0 h9 hXX
  have CT : Hid (∀ W, Calls Tryz.prog 151 #[.int .i64 ((n : Int) % 9)] W fun e w' => e = .returned (.int .u64 ((10 ^ (n % 9) : Nat) : Int)) ∧ W = w') := fun W => by
    have := limb_ten (n % 9) W (by omega)
    simpa using this
  go_enter Tryz.func126, Tryz.ntmps126
  go_wp2_with fail
  refine CN.out.mono ?_
  rintro e w1 ⟨a1, c1, rfl, hb1, ho1⟩
  obtain ⟨b, off, rfl⟩ := (owned_row ho1).isSome (by intro e; exact HX0.out (by simpa [u32s] using e))
  have hcap := owns_cap ho1
  have HB1 := hid hb1
  have HO1 := hid ho1
  have hsz1 := hb1.size
  clear hb1 ho1 CN
  go_wp2_with fail
  have hcc : c1 = X.length ∨ ¬ c1 = X.length := Classical.em _
  rcases hcc with rfl | hcc
  all_goals go_region_with ((go_at_call 181; refine (clone_u32 b off X.length _ X w1.drew (show Row w1 _ _ from owned_row HO1.out) rfl (by omega)).mono ?_; rintro e w2 ⟨a2, c2, rfl, hb2, ho2⟩))
  all_goals
    have HB2 := hid (below_trans HB1.out (show Below w1.heap.size w1 w2 from (below_drewN (Below.refl _ w1) 1).trans hb2))
    have HO2 := hid (show w2.ownsRow w.heap.size 70 1 (.slice a2 X.length c2) X.length (u32s X) from owns_mono ho2 (by simpa using hsz1))
    clear hb2 ho2
    go_wp2_with fail
    refine (CT.out w2).mono ?_
    rintro e w3 ⟨rfl, rfl⟩
    go_wp2_with fail
    refine (limb_trim_out a2 X.length c2 X w w2 rfl H9.out HO2.out HB2.out).mono ?_
    rw [HXX.out]
    rintro e w4 ⟨a4, c4, rfl, hb4, ho4⟩
    go_wp2
    go_ret3
    exact ⟨none, 0, a4, c4, rfl, hb4, World.ownsRow_nil _ _ _ _, ho4⟩

/-- What holds at the head of a round of 'Cut'. -/
def Div (w : World) (H : List Nat) (P k R g : Nat) (wr : World) : Prop :=
  ∃ L : List Nat, L.length = H.length ∧ (∀ x ∈ L, x < 1000000000) ∧ Num.val Num.B9 (H.drop k) = Num.val Num.B9 (L.drop k) * P + R ∧ R < P ∧
    wr.ownsRow w.heap.size 70 1 (.slice (some ⟨g, 0, none⟩) H.length H.length) H.length (u32s L) ∧ Below w.heap.size w wr

theorem Div.step {w wr w1 : World} {H L : List Nat} {P k R g T : Nat} (h1 : L.length = H.length) (h2 : ∀ x ∈ L, x < 1000000000) (h3 : Num.val Num.B9 (H.drop (k + 1)) = Num.val Num.B9 (L.drop (k + 1)) * P + R) (h4 : R < P)
    (h5 : wr.ownsRow w.heap.size 70 1 (.slice (some ⟨g, 0, none⟩) H.length H.length) H.length (u32s L)) (h6 : Below w.heap.size w wr) (hk : k < H.length) (hx : H.getD k 0 < 1000000000) (hT : T = R * 1000000000 + H.getD k 0)
    (hw : w1 = wr.setCell ⟨g, k, none⟩ (.int .u32 ((T / P : Nat) : Int))) : Div w H P k (T % P) g w1 := by
  subst hw
  have hP : 0 < P := by omega
  have hs := h5.stored k (.int .u32 ((T / P : Nat) : Int))
  have hlt : T / P < 1000000000 := by
    rw [Nat.div_lt_iff_lt_mul hP, hT]
    have : (R + 1) * 1000000000 ≤ P * 1000000000 := Nat.mul_le_mul_right _ h4
    rw [Nat.mul_comm 1000000000]
    omega
  have hkL : k < L.length := by omega
  refine ⟨L.set k (T / P), by simpa using h1, ?_, ?_, Nat.mod_lt _ hP, ?_, ?_⟩
  · intro y hy
    rcases List.mem_or_eq_of_mem_set hy with h | h
    · exact h2 y h
    · subst h; exact hlt
  · have e1 : (L.set k (T / P)).drop k = T / P :: L.drop (k + 1) := by
      rw [List.drop_eq_getElem_cons (by simpa using hkL)]
      simp [List.drop_set]
    rw [e1, Num.drop_getD hk, Num.val_cons, Num.val_cons, h3, Nat.add_mul]
    have e2 : Num.B9 * (Num.val Num.B9 (L.drop (k + 1)) * P + R) = Num.B9 * Num.val Num.B9 (L.drop (k + 1)) * P + R * 1000000000 := by
      rw [Nat.mul_add, show (1000000000 : Nat) = Num.B9 from rfl]; congr 1 <;> ac_rfl
    rw [e2]
    have e3 := Nat.mod_add_div T P
    rw [Nat.mul_comm P] at e3
    omega
  · have e : (u32s L).set k (.int .u32 ((T / P : Nat) : Int)) = u32s (L.set k (T / P)) := by simp [u32s, List.map_set]
    rw [e] at hs
    exact hs.1
  · exact h6.grown hs.2 h6.size (fun j hj => by injection hj with hj; subst hj; exact (h5.lt g rfl).1)

/-- What is left of a number whose limbs are cut at place q. -/
theorem cut_math (X : List Nat) (h9 : ∀ x ∈ X, x < 1000000000) (q P Q R : Nat) (_hq : q ≤ X.length) (hR : R < P) (h : Num.val Num.B9 (X.drop q) = Q * P + R) :
    Q = Num.worth X / (P * Num.B9 ^ q) ∧ Num.worth (X.take q ++ [R]) = Num.worth X % (P * Num.B9 ^ q) := by
  have e := Num.val_append Num.B9 (X.take q) (X.drop q)
  rw [List.take_append_drop, List.length_take, Nat.min_eq_left _hq, h] at e
  have hlow := Num.val_take_lt (b := Num.B9) (by decide) X h9 q
  have e2 : Num.worth (X.take q ++ [R]) = Num.val Num.B9 (X.take q) + Num.B9 ^ q * R := by
    unfold Num.worth; rw [Num.val_snoc, List.length_take, Nat.min_eq_left _hq]
  have e3 : Num.worth X = (Num.val Num.B9 (X.take q) + Num.B9 ^ q * R) + P * Num.B9 ^ q * Q := by
    unfold Num.worth; rw [e, Nat.mul_add]
    have : Num.B9 ^ q * (Q * P) = P * Num.B9 ^ q * Q := by ac_rfl
    omega
  have hlt : Num.val Num.B9 (X.take q) + Num.B9 ^ q * R < P * Num.B9 ^ q := by
    have : Num.B9 ^ q * (R + 1) ≤ Num.B9 ^ q * P := Nat.mul_le_mul_left _ hR
    rw [Nat.mul_add, Nat.mul_one, Nat.mul_comm _ P] at this
    omega
  rw [e2, e3]
  constructor
  · rw [Nat.add_mul_div_left _ _ (by omega), Nat.div_eq_of_lt hlt, Nat.zero_add]
  · rw [Nat.add_mul_mod_self_left, Nat.mod_eq_of_lt hlt]

end Go.Proofs.YtmdgciolnpkccaaGreatDoor
