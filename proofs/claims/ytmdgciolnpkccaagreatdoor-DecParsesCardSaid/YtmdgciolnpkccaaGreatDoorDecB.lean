/- Layer 2, second part: head, fits, taken. -/
import Derived.Test.YtmdgciolnpkccaaGreatDoorDecA
namespace Go.Proofs.YtmdgciolnpkccaaGreatDoor
open Go.RowKit

/-- A number as an argument: its limbs may be read. -/
structure InD (w : World) (d : D) (a : Option Addr) (cap : Nat) : Prop where
  u : U32 w a (Num.limbs d.m)
theorem InD.below {w w' : World} {d : D} {a : Option Addr} {cap : Nat} (h : InD w d a cap) (hb : Below w.heap.size w w') : InD w' d a cap := ⟨h.u.below hb⟩
theorem OwnD.inD {w w' : World} {d : D} {a : Option Addr} {cap : Nat} (h : OwnD w w' d a cap) : InD w' d a cap := ⟨u32_limbs h.2⟩

theorem below_drew_alloc {w w' : World} {o : Obj} (h : Below (w.alloc o).drew.heap.size (w.alloc o).drew w') : Below w.heap.size w w' :=
  (((Below.refl _ _).alloc (Nat.le_refl _) o).drew).trans (h.mono (by simp))

theorem keep2 {w W' w1 : World} {N : Nat} {x y : Value} (h : W'.cell? ⟨N, 1, none⟩ = some x ∧ W'.cell? ⟨N, 2, none⟩ = some y ∧ Below w.heap.size w W') (hb : Below W'.heap.size W' w1) :
    w1.cell? ⟨N, 1, none⟩ = some x ∧ w1.cell? ⟨N, 2, none⟩ = some y ∧ Below w.heap.size w w1 :=
  ⟨(hb.cell (cell_lt h.1)).trans h.1, (hb.cell (cell_lt h.2.1)).trans h.2.1, below_trans h.2.2 hb⟩

set_option maxRecDepth 100000 in
set_option maxHeartbeats 400000 in
theorem dec_head (g : Bool) (a : Option Addr) (cap : Nat) (e : Int) (xs : List Nat) (w : World) (h : U32 w a xs) (hl : xs.length ≤ 10000000) (he : -3000000 ≤ e ∧ e ≤ 3000000) (hd : (Num.digs 10 (Num.worth xs)).length ≤ 1000000000) (htab : Pow w) :
    Calls Tryz.prog 106 #[.agg #[.bool g, .slice a xs.length cap, .int .i64 e]] w fun en w' => en = .returned (.int .i64 (e + (Num.digs 10 (Num.worth xs)).length - 1)) ∧ Below w.heap.size w w' := by
  have CD := fun W (hb : Below w.heap.size w W) => limb_Digits a cap xs W (h.below hb) (by omega) (htab.next hb)
  obtain ⟨n, hn⟩ : ∃ n, n = (Num.digs 10 (Num.worth xs)).length := ⟨_, rfl⟩
  rw [← hn] at CD hd ⊢
  have CD := hid CD
  clear hn h htab
  have hw1 : IntKind.i64.wrap (e + (n : Int)) = e + (n : Int) := IntWalk.i64_in _ (by omega)
  have hw2 : IntKind.i64.wrap (e + (n : Int) - 1) = e + (n : Int) - 1 := IntWalk.i64_in _ (by omega)
  go_enter Tryz.func106, Tryz.ntmps106
  go_wp2_with fail
  go_region_held3 (fun w' => w'.cell? ⟨w.heap.size, 1, none⟩ = some (.slice a xs.length cap) ∧ w'.cell? ⟨w.heap.size, 2, none⟩ = some (.int .i64 e) ∧ Below w.heap.size w w') (first | (exact ⟨by simp, by simp, ((Below.refl _ _).alloc (Nat.le_refl _) _).drew⟩) | (exact keep2 (by assumption) (by assumption))) ((go_at_call 83; refine (CD.out _ ?_).mono ?_; (simp only [*]); rintro e w' ⟨rfl, hb⟩))
  clear hw1 hw2
  go_wp2
  go_ret
  exact ⟨rfl, below_drew_alloc hb⟩

theorem digs_le_limbs (m : Nat) : (Num.digs 10 m).length ≤ 9 * (Num.limbs m).length := by
  rw [Num.digs_length_le (by decide)]
  have h1 := limbs_length_le.1 (Nat.le_refl (Num.limbs m).length)
  have h2 : Num.B9 ^ (Num.limbs m).length = 10 ^ (9 * (Num.limbs m).length) := by rw [Nat.pow_mul]; rfl
  rwa [h2] at h1

/-- Is a plain number within the limits? -/
def fitsB (d : D) : Bool := decide (d.m = 0) || (decide ((Num.digs 10 d.m).length ≤ 400) && decide (-10000 ≤ d.e + (Num.digs 10 d.m).length - 1) && decide (d.e + (Num.digs 10 d.m).length - 1 ≤ 10000))

set_option maxRecDepth 100000 in
set_option maxHeartbeats 1000000 in
theorem dec_fits (d : D) (a : Option Addr) (cap : Nat) (w : World) (h : InD w d a cap) (hl : (Num.limbs d.m).length ≤ 10000000) (he : -3000000 ≤ d.e ∧ d.e ≤ 3000000) (htab : Pow w) :
    Calls Tryz.prog 62 #[decV d a cap] w fun en w' => en = .returned (.bool (fitsB d)) ∧ Below w.heap.size w w' := by
  obtain ⟨g, m, e⟩ := d
  simp only at he hl
  unfold decV
  dsimp only
  by_cases h0 : m = 0
  · subst h0
    have hf : fitsB ⟨g, 0, e⟩ = true := by simp [fitsB]
    rw [hf]
    have hL : Num.limbs 0 = [] := rfl
    rw [hL]
    clear hf h hL
    go_enter Tryz.func62, Tryz.ntmps62
    go_wp2
    go_ret
    exact ⟨rfl, (Below.refl _ _).alloc (Nat.le_refl _) _⟩
  · have hu : U32 w a (Num.limbs m) := h.u
    have hdl9 := digs_le_limbs m
    have hdl : (Num.digs 10 m).length ≤ 1000000000 := by omega
    have CD := fun W (hb : Below w.heap.size w W) => limb_Digits a cap (Num.limbs m) W (hu.below hb) (by omega) (htab.next hb)
    have CH := fun W (hb : Below w.heap.size w W) => dec_head g a cap e (Num.limbs m) W (hu.below hb) hl he (by rw [Num.worth_limbs]; exact hdl) (htab.next hb)
    rw [Num.worth_limbs] at CD CH
    have hf : fitsB ⟨g, m, e⟩ = (decide ((Num.digs 10 m).length ≤ 400) && decide (-10000 ≤ e + (Num.digs 10 m).length - 1) && decide (e + (Num.digs 10 m).length - 1 ≤ 10000)) := by simp [fitsB, h0]
    rw [hf]
    obtain ⟨n, hn⟩ : ∃ n, n = (Num.digs 10 m).length := ⟨_, rfl⟩
    rw [← hn] at CD CH hdl ⊢
    have hL0 : (((Num.limbs m).length : Int) == 0) = false := by
      rw [beq_eq_false_iff_ne]; intro e
      exact h0 ((Num.digs_eq_nil Num.two_le_B9).1 (List.length_eq_zero_iff.1 (Int.ofNat_eq_zero.1 e)))
    obtain ⟨L, hL⟩ : ∃ L, L = (Num.limbs m).length := ⟨_, rfl⟩
    rw [← hL] at CD CH hL0 hl ⊢
    have CD := hid CD
    have CH := hid CH
    clear hf hn hL hu h htab h0
    obtain ⟨H, hH⟩ : ∃ H, H = e + (n : Int) - 1 := ⟨_, rfl⟩
    rw [← hH] at CH ⊢
    clear hH
    obtain ⟨b, hb⟩ : ∃ b : Bool, (decide (n ≤ 400) && decide (-10000 ≤ H) && decide (H ≤ 10000)) = b := ⟨_, rfl⟩
    rw [hb]
    have HBB := hid hb
    clear hb
    have d : (n ≤ 400 ∧ -10000 ≤ H) ∨ (n ≤ 400 ∧ H ≤ -10001) ∨ 401 ≤ n := by omega
    rcases d with ⟨h1, h2⟩ | ⟨h1, h2⟩ | h1
    all_goals
      go_enter Tryz.func62, Tryz.ntmps62
      go_wp2_with fail
      refine (CH.out _ ((Below.refl _ _).alloc (Nat.le_refl _) _)).mono ?_
      rintro e1 w1 ⟨rfl, hb1⟩
      have HB1 := hid (below_alloc hb1)
      have hk := blk_cell (blk_below (blk_new w _) hb1) 1
      clear hb1
      go_wp2_with fail
      refine (CD.out w1 HB1.out).mono ?_
      rintro e2 w2 ⟨rfl, hb2⟩
      have HB2 := hid (below_trans HB1.out hb2)
      clear hb2 hk HB1
      go_wp2
      go_ret
      exact ⟨ret_bool (by rw [← HBB.out]; first | (simp; omega) | (simp; done)), HB2.out⟩

end Go.Proofs.YtmdgciolnpkccaaGreatDoor
