/- The document's answer, seventh part: Make whole, Head, Fits, To, Tell. Words for the walks of the laws: numbers in blocks, calls on them. The document's answer, eighth part: Take, Norm, May. Words for the document's answer: bounds of what was taken, a store of one cell. The document's answer, ninth part: Norm, May, Two, low, at. The document's answer, ninth part, continued: Two. -/
import Derived.Test.YtldhebpkplglcaaGreatDoorMf
import Derived.Test.YtldhebpkplglcaaGreatDoorMe
import Derived.Deep.CutBlock
namespace Go.Proofs.YtldhebpkplglcaaGreatDoor
open Go.RowKit

theorem ref2_Make (g : Bool) (a : Option Addr) (cap m : Nat) (e : Int) (w : World) (h : U8 w a (Num.digs 10 m)) (hc : (Num.digs 10 m).length ≤ cap) (hc2 : cap ≤ 9223372036854775807) (hd : (Num.digs 10 m).length ≤ 1000000000) (he : -3000000000 ≤ e ∧ e ≤ 3000000000) :
    Calls Tryz.prog 164 #[.bool g, .slice a (Num.digs 10 m).length cap, .int .i64 e] w (OutRD w (plainD g m e)) := by
  by_cases h0 : m = 0
  · subst h0
    have : plainD g 0 e = zeroD := if_pos rfl
    rw [this]
    exact r_Make_zero g a cap e w
  · obtain ⟨b, off, rfl⟩ := h.isSome (fun e => h0 ((Num.digs_eq_nil (by decide)).1 e))
    exact r_Make_some g b off cap m e w h h0 hc hc2 hd he

theorem ref2_Head (d : D) (a : Option Addr) (cap : Nat) (w : World) (hl : (Num.digs 10 d.m).length ≤ 1000000000) (he : -3000000000 ≤ d.e ∧ d.e ≤ 3000000000) :
    Calls Tryz.prog 123 #[refV d a cap] w fun en w' => en = .returned (.int .i64 (headD d)) ∧ Below w.heap.size w w' := by
  have hh : headD d = d.e + (Num.digs 10 d.m).length - 1 := rfl
  rw [hh]
  obtain ⟨g, m, e⟩ := d
  unfold refV
  simp only at hl he ⊢
  obtain ⟨n, hn⟩ : ∃ n, n = (Num.digs 10 m).length := ⟨_, rfl⟩
  rw [← hn] at hl ⊢
  clear hh hn
  go_enter Tryz.func123, Tryz.ntmps123
  go_wp2
  go_ret
  exact ⟨rfl, (Below.refl _ _).alloc (Nat.le_refl _) _⟩

set_option maxRecDepth 100000 in
set_option maxHeartbeats 3200000 in
theorem ref2_Fits (d : D) (a : Option Addr) (cap : Nat) (w : World) (hl : (Num.digs 10 d.m).length ≤ 1000000000) (he : -3000000000 ≤ d.e ∧ d.e ≤ 3000000000) :
    Calls Tryz.prog 166 #[refV d a cap] w fun en w' => en = .returned (.bool (fitsB d)) ∧ Below w.heap.size w w' := by
  have CH := fun W => ref2_Head d a cap W hl he
  have hb : fitsB d = (decide (d.m = 0) || (decide ((Num.digs 10 d.m).length ≤ 400) && decide (-10000 ≤ headD d) && decide (headD d ≤ 10000))) := rfl
  rw [hb]
  have hz : (Num.digs 10 d.m).length = 0 ↔ d.m = 0 := by rw [List.length_eq_zero_iff]; exact Num.digs_eq_nil (by decide)
  obtain ⟨H, hH⟩ : ∃ H, H = headD d := ⟨_, rfl⟩
  rw [← hH] at CH ⊢
  obtain ⟨g, m, e⟩ := d
  unfold refV at CH ⊢
  simp only at CH hl hz ⊢
  obtain ⟨n, hn⟩ : ∃ n, n = (Num.digs 10 m).length := ⟨_, rfl⟩
  rw [← hn] at CH hl hz ⊢
  replace CH := hid CH
  clear hn hb hH he
  by_cases h0 : m = 0
  · obtain rfl : n = 0 := hz.2 h0
    rw [decide_eq_true h0, Bool.true_or]
    clear hz hl h0
    go_enter Tryz.func166, Tryz.ntmps166
    go_wp2
    go_ret
    exact ⟨rfl, (Below.refl _ _).alloc (Nat.le_refl _) _⟩
  · rw [decide_eq_false h0, Bool.false_or]
    have hn0 : ((n : Int) == 0) = false := by rw [beq_eq_false_iff_ne]; omega
    clear hz h0
    obtain ⟨V, hV⟩ : ∃ V, V = (decide (n ≤ 400) && decide (-10000 ≤ H) && decide (H ≤ 10000)) := ⟨_, rfl⟩
    rw [← hV]
    replace hV := hid hV
    by_cases q1 : n ≤ 400 <;> by_cases q2 : -10000 ≤ H <;> by_cases q3 : H ≤ 10000
    all_goals try (exfalso; omega)
    all_goals
      have HV := hid (hV.out)
      clear hV
      go_enter Tryz.func166, Tryz.ntmps166
      go_wp2_with fail
      refine (CH.out _).mono ?_
      rintro e1 w1 ⟨rfl, hb1⟩
      have k0 := blk_three (blk_below (blk_new w _) hb1)
      obtain ⟨⟨k0, k1, k2⟩, _⟩ := k0
      have HB := hid (below_alloc hb1)
      clear hb1
      go_wp2
      go_ret
      refine ⟨ret_bool ?_, HB.out⟩
      have hv := HV.out
      simp [q1, q2, q3] at hv
      rw [hv]
      try first | rfl | exact (decide_eq_false (by omega)).symm

/-- What is held of the world while a statement goes on that reads block N and ends with a store into block R. -/
theorem keepN {W0 W w1 : World} {N R : Nat} {x y z : Value} (h : W.cell? ⟨N, 0, none⟩ = some x ∧ W.cell? ⟨N, 1, none⟩ = some y ∧ W.cell? ⟨N, 2, none⟩ = some z ∧
      W.frozen? ⟨R, 0, none⟩ = false ∧ W.frozen? ⟨R, 1, none⟩ = false ∧ W.frozen? ⟨R, 2, none⟩ = false ∧ Cells3 W R ∧ But R W0 W) (hb : Below W.heap.size W w1) :
    w1.cell? ⟨N, 0, none⟩ = some x ∧ w1.cell? ⟨N, 1, none⟩ = some y ∧ w1.cell? ⟨N, 2, none⟩ = some z ∧
      w1.frozen? ⟨R, 0, none⟩ = false ∧ w1.frozen? ⟨R, 1, none⟩ = false ∧ w1.frozen? ⟨R, 2, none⟩ = false ∧ Cells3 w1 R ∧ But R W0 w1 := by
  obtain ⟨h0, h1, h2, _, _, _, h6, h7⟩ := h
  have B' := (bcell hb).1
  have c6 := h6.below hb
  exact ⟨(B' _ _ (cell_lt h0)).trans h0, (B' _ _ (cell_lt h1)).trans h1, (B' _ _ (cell_lt h2)).trans h2, c6.frozen 0, c6.frozen 1, c6.frozen 2, c6, h7.step hb⟩
theorem keepNs {W0 W : World} {N R : Nat} {x y z : Value} (h : W.cell? ⟨N, 0, none⟩ = some x ∧ W.cell? ⟨N, 1, none⟩ = some y ∧ W.cell? ⟨N, 2, none⟩ = some z ∧
      W.frozen? ⟨R, 0, none⟩ = false ∧ W.frozen? ⟨R, 1, none⟩ = false ∧ W.frozen? ⟨R, 2, none⟩ = false ∧ Cells3 W R ∧ But R W0 W) (p q r : Value) (hN : N ≠ R) (w1 : World) (hw : w1 = ((W.setCell ⟨R, 0, none⟩ p).setCell ⟨R, 1, none⟩ q).setCell ⟨R, 2, none⟩ r) :
    w1.cell? ⟨N, 0, none⟩ = some x ∧ w1.cell? ⟨N, 1, none⟩ = some y ∧ w1.cell? ⟨N, 2, none⟩ = some z ∧
      w1.frozen? ⟨R, 0, none⟩ = false ∧ w1.frozen? ⟨R, 1, none⟩ = false ∧ w1.frozen? ⟨R, 2, none⟩ = false ∧ Cells3 w1 R ∧ But R W0 w1 := by
  subst hw
  obtain ⟨h0, h1, h2, _, _, _, h6, h7⟩ := h
  have c6 := h6.set3 p q r
  have hc : ∀ (K j : Nat), K ≠ R → (((W.setCell ⟨R, 0, none⟩ p).setCell ⟨R, 1, none⟩ q).setCell ⟨R, 2, none⟩ r).cell? ⟨K, j, none⟩ = W.cell? ⟨K, j, none⟩ := fun K j hK => by
    refine World.cell?_of_block ?_
    simp only
    rw [Below.heap_setCell _ _ _ _ hK, Below.heap_setCell _ _ _ _ hK, Below.heap_setCell _ _ _ _ hK]
  exact ⟨(hc _ _ hN).trans h0, (hc _ _ hN).trans h1, (hc _ _ hN).trans h2, c6.frozen 0, c6.frozen 1, c6.frozen 2, c6, ((h7.setCell _ _).setCell _ _).setCell _ _⟩

set_option maxRecDepth 100000 in
set_option maxHeartbeats 800000 in
theorem ref2_To (d : D) (a : Option Addr) (cap : Nat) (w : World) (h : U8 w a (Num.digs 10 d.m)) (hl : (Num.digs 10 d.m).length ≤ 1000000) :
    Calls Tryz.prog 162 #[refV d a cap] w (OutD w d) := by
  have CT := fun W (hW : Below w.heap.size w W) => ref1_To a cap d.m W (h.below hW) hl
  obtain ⟨n, hn⟩ : ∃ n, n = (Num.digs 10 d.m).length := ⟨_, rfl⟩
  unfold refV
  rw [← hn] at CT ⊢
  replace CT := hid CT
  clear h hl hn
  go_enter Tryz.func162, Tryz.ntmps162
  go_upto_region 1 with fail
  obtain ⟨wi, hwi⟩ : ∃ W, W = (w.alloc (.cells #[.bool d.neg, .slice a n cap, .int .i64 d.e] 168)).alloc (.cells #[.bool false, .slice none 0 0, .int .i64 0] 24) := ⟨_, rfl⟩
  rw [← hwi]
  have hbi : Below w.heap.size w wi := by rw [hwi]; exact ((Below.refl _ _).alloc (Nat.le_refl _) _).alloc (by simp) _
  have hsz : wi.heap.size = w.heap.size + 1 + 1 := by rw [hwi]; simp
  have hk := blk_three (show wi.heap[w.heap.size]? = _ by rw [hwi]; exact blk_alloc (blk_new w _) _)
  have R3 : Cells3 wi (w.heap.size + 1) := ⟨_, _, _, _, by rw [hwi]; exact blk_new2 w _ _⟩
  obtain ⟨⟨k0, k1, k2⟩, _⟩ := hk
  have f0 := R3.frozen 0
  have f1 := R3.frozen 1
  have f2 := R3.frozen 2
  replace R3 := hid R3
  have HBI := hid hbi
  have hsz2 : w.heap.size + 1 < wi.heap.size := by omega
  have HW : ∀ W, But (w.heap.size + 1) wi W → Below w.heap.size w W := fun W hW => hW.below HBI.out (by omega) (by omega)
  have CT' := fun W (hW : But (w.heap.size + 1) wi W) => CT.out W (HW W hW)
  replace CT' := hid CT'
  replace HW := hid HW
  have HN := hid (show w.heap.size ≠ w.heap.size + 1 by omega)
  clear CT hwi hbi hsz
  go_region_held3 (fun w' => w'.cell? ⟨w.heap.size, 0, none⟩ = some (.bool d.neg) ∧ w'.cell? ⟨w.heap.size, 1, none⟩ = some (.slice a n cap) ∧ w'.cell? ⟨w.heap.size, 2, none⟩ = some (.int .i64 d.e) ∧ w'.frozen? ⟨w.heap.size + 1, 0, none⟩ = false ∧ w'.frozen? ⟨w.heap.size + 1, 1, none⟩ = false ∧ w'.frozen? ⟨w.heap.size + 1, 2, none⟩ = false ∧ Cells3 w' (w.heap.size + 1) ∧ But (w.heap.size + 1) wi w') (first | (exact ⟨k0, k1, k2, f0, f1, f2, R3.out, (But.refl _ _).drew⟩) | (exact keepN (by assumption) (by assumption)) | (exact keepNs (by assumption) _ _ _ HN.out _ rfl)) ((first | (go_at_call 205; (with_reducible refine (CT'.out _ ?_).mono ?_); (simp only [*]); rintro e1 w1 ⟨am, cm, rfl, hb1, ho1⟩; have hc2 : Cells3 wi.drew (w.heap.size + 1) := (by simp only [*]); obtain ⟨_, _, _, s0, s1, s2⟩ := (hc2.below hb1).get; have hc3 := hc2.below hb1)))
  rename_i hHeld
  obtain ⟨_, _, _, _, _, _, _, hB⟩ := hHeld
  have hz : wi.heap.size ≤ w1.heap.size := hb1.size
  have HO := hid (owns_mono (owns_set3 (R := w.heap.size + 1) ho1 (show w.heap.size + 1 < wi.heap.size from hsz2) (.bool d.neg) (.slice am (Num.limbs d.m).length cm) (.int .i64 d.e)) (show w.heap.size ≤ wi.heap.size by omega))
  have HB := hid (HW.out _ hB)
  clear hB hb1 ho1 hc2 hc3 CT'
  go_wp2_with fail
  refine bodyPost_ret (v := decV d am cm) (by simp [results, Tryz.results162, go_sem, s0, s1, s2, decV]) rfl ?_
  exact ⟨am, cm, rfl, HB.out, HO.out⟩

end Go.Proofs.YtldhebpkplglcaaGreatDoor

namespace Go.Proofs.YtldhebpkplglcaaGreatDoor
open Go.RowKit

/-- Block N holds a number. -/
structure HasD (W : World) (N : Nat) (g : Bool) (xs : List Nat) (e : Int) (b : Option Addr) (c : Nat) : Prop where
  blk : W.heap[N]? = some (.cells #[.bool g, .slice b xs.length c, .int .i64 e] 24)
  u : U32 W b xs
theorem HasD.below {W W' : World} {N c : Nat} {g : Bool} {xs : List Nat} {e : Int} {b : Option Addr} (h : HasD W N g xs e b c) (hb : Below W.heap.size W W') : HasD W' N g xs e b c := ⟨blk_below h.blk hb, h.u.below hb⟩
theorem HasD.new {W : World} {d : D} {b : Option Addr} {c : Nat} (h : InD W d b c) : HasD (W.alloc (.cells #[.bool d.neg, .slice b (Num.limbs d.m).length c, .int .i64 d.e] 24)) W.heap.size d.neg (Num.limbs d.m) d.e b c :=
  ⟨blk_new W _, h.u.below ((Below.refl _ _).alloc (Nat.le_refl _) _)⟩
theorem HasD.pow {w W : World} (h : Pow w) (hb : Below w.heap.size w W) : Pow W := h.next hb
def boxD (g : Bool) (b : Option Addr) (n c : Nat) (e : Int) : Obj := .cells #[.bool g, .slice b n c, .int .i64 e] 24
theorem boxed1 {w W' : World} {g : Bool} {xs : List Nat} {e : Int} {b : Option Addr} {c : Nat} (h : U32 w b xs) (hb : Below (w.alloc (boxD g b xs.length c e)).heap.size (w.alloc (boxD g b xs.length c e)) W') :
    HasD W' w.heap.size g xs e b c ∧ Below w.heap.size w W' :=
  ⟨HasD.below ⟨blk_new w _, h.below ((Below.refl _ _).alloc (Nat.le_refl _) _)⟩ hb, below_alloc hb⟩
theorem boxed2 {w W' : World} {g g2 : Bool} {xs ys : List Nat} {e e2 : Int} {b b2 : Option Addr} {c c2 : Nat} (h : U32 w b xs) (h2 : U32 w b2 ys)
    (hb : Below ((w.alloc (boxD g b xs.length c e)).alloc (boxD g2 b2 ys.length c2 e2)).heap.size ((w.alloc (boxD g b xs.length c e)).alloc (boxD g2 b2 ys.length c2 e2)) W') :
    HasD W' w.heap.size g xs e b c ∧ HasD W' (w.heap.size + 1) g2 ys e2 b2 c2 ∧ Below w.heap.size w W' := by
  have k1 := (Below.refl w.heap.size w).alloc (Nat.le_refl _) (boxD g b xs.length c e)
  have := boxed1 (h2.below k1) hb
  rw [show (w.alloc (boxD g b xs.length c e)).heap.size = w.heap.size + 1 by simp] at this
  have h0 := boxed1 (c := c) (g := g) (e := e) h (below_alloc hb)
  exact ⟨h0.1, this.1, h0.2⟩
theorem boxed3 {w W' : World} {g g2 g3 : Bool} {xs ys zs : List Nat} {e e2 e3 : Int} {b b2 b3 : Option Addr} {c c2 c3 : Nat} (h : U32 w b xs) (h2 : U32 w b2 ys) (h3 : U32 w b3 zs)
    (hb : Below (((w.alloc (boxD g b xs.length c e)).alloc (boxD g2 b2 ys.length c2 e2)).alloc (boxD g3 b3 zs.length c3 e3)).heap.size (((w.alloc (boxD g b xs.length c e)).alloc (boxD g2 b2 ys.length c2 e2)).alloc (boxD g3 b3 zs.length c3 e3)) W') :
    HasD W' w.heap.size g xs e b c ∧ HasD W' (w.heap.size + 1) g2 ys e2 b2 c2 ∧ HasD W' (w.heap.size + 1 + 1) g3 zs e3 b3 c3 ∧ Below w.heap.size w W' := by
  have k1 := (Below.refl w.heap.size w).alloc (Nat.le_refl _) (boxD g b xs.length c e)
  have := boxed2 (h2.below k1) (h3.below k1) hb
  rw [show (w.alloc (boxD g b xs.length c e)).heap.size = w.heap.size + 1 by simp] at this
  have h0 := boxed1 (c := c) (g := g) (e := e) h (below_alloc (below_alloc hb))
  exact ⟨h0.1, this.1, this.2.1, h0.2⟩
/-- What a call takes of an argument. -/
def Is (g : Bool) (xs : List Nat) (e : Int) (ex : Nat) (x : D) : Prop := takenE g xs.length (Num.worth xs) e = ex ∧ takenD g xs.length (Num.worth xs) e = x
theorem is_arg (g : Bool) (xs : List Nat) (e : Int) : ∃ ex x, Is g xs e ex x ∧ Tk ex x ∧ (ex = 0 ∨ ex = 1 ∨ ex = 3) := ⟨_, _, ⟨rfl, rfl⟩, tk_taken _ _ _ _, takenE_vals _ _ _ _⟩
theorem is_own {d : D} (h : IsPlain d ∧ fitsB d = true) : Is d.neg (Num.limbs d.m) d.e 0 d := taken_self h.1 h.2
theorem good_len {d : D} (h : IsPlain d ∧ fitsB d = true) : (Num.limbs d.m).length ≤ 45 := limbs_400 (plain_bounds h.1 h.2).1

section
variable {g g2 : Bool} {xs ys : List Nat} {e e2 : Int} {ex ey : Nat} {x y : D} (W : World) (b : Option Addr) (c : Nat) (b2 : Option Addr) (c2 : Nat)
/-- What Cmp yields. -/
def OutIE (w : World) (m : Int) (er : Nat) (e : Ending) (w' : World) : Prop := e = .returned (.tuple #[.int .i64 m, .int .i64 er]) ∧ Below w.heap.size w w'
instance decEqD : DecidableEq D := fun x y => if h : x.neg = y.neg ∧ x.m = y.m ∧ x.e = y.e then isTrue (by cases x; cases y; simp_all) else isFalse (fun e => h (by subst e; simp))
theorem limbs_inj {m n : Nat} (h : Num.limbs m = Num.limbs n) : m = n := by rw [← Num.worth_limbs m, h, Num.worth_limbs]
theorem D_ext {d d2 : D} (h1 : d.neg = d2.neg) (h3 : d.e = d2.e) (h4 : Num.limbs d.m = Num.limbs d2.m) : d = d2 := by
  obtain ⟨g, m, e⟩ := d
  obtain ⟨g', m', e'⟩ := d2
  simp only at h1 h3 h4
  rw [h1, h3, limbs_inj h4]
end

end Go.Proofs.YtldhebpkplglcaaGreatDoor

namespace Go.Proofs.YtldhebpkplglcaaGreatDoor
open Go.RowKit

/-- Block R holds a bool, a slice and a number. -/
def Rec (W : World) (R : Nat) : Prop := ∃ g a n c e T, W.heap[R]? = some (.cells #[.bool g, .slice a n c, .int .i64 e] T)
theorem Rec.cells {W : World} {R : Nat} (h : Rec W R) : Cells3 W R := by obtain ⟨g, a, n, c, e, T, h⟩ := h; exact ⟨_, _, _, T, h⟩
theorem Rec.below {W W' : World} {R : Nat} (h : Rec W R) (hb : Below W.heap.size W W') : Rec W' R := by obtain ⟨g, a, n, c, e, T, h⟩ := h; exact ⟨g, a, n, c, e, T, blk_below h hb⟩
theorem Rec.lt {W : World} {R : Nat} (h : Rec W R) : R < W.heap.size := by obtain ⟨g, a, n, c, e, T, h⟩ := h; exact blk_lt h
theorem Rec.drew {W : World} {R : Nat} (h : Rec W R) : Rec W.drew R := h
/-- A store of a whole number into block R. -/
def put3 (W : World) (R : Nat) (g : Bool) (a : Option Addr) (n c : Nat) (e : Int) : World := ((W.setCell ⟨R, 0, none⟩ (.bool g)).setCell ⟨R, 1, none⟩ (.slice a n c)).setCell ⟨R, 2, none⟩ (.int .i64 e)
theorem Rec.put {W : World} {R : Nat} (h : Rec W R) (g : Bool) (a : Option Addr) (n c : Nat) (e : Int) : Rec (put3 W R g a n c e) R := by
  obtain ⟨g0, a0, n0, c0, e0, T, h⟩ := h
  exact ⟨g, a, n, c, e, T, by simp [put3, World.setCell, Array.getElem?_modify, h]⟩
theorem put3_other {W : World} {R K : Nat} (hK : K ≠ R) (g : Bool) (a : Option Addr) (n c : Nat) (e : Int) : (put3 W R g a n c e).heap[K]? = W.heap[K]? := by
  unfold put3
  rw [Below.heap_setCell _ _ _ _ hK, Below.heap_setCell _ _ _ _ hK, Below.heap_setCell _ _ _ _ hK]
theorem Rec.other {W : World} {R K : Nat} (h : Rec W K) (hK : K ≠ R) (g : Bool) (a : Option Addr) (n c : Nat) (e : Int) : Rec (put3 W R g a n c e) K := by
  obtain ⟨g0, a0, n0, c0, e0, T, h⟩ := h
  exact ⟨g0, a0, n0, c0, e0, T, by rw [put3_other hK]; exact h⟩
theorem U8.put {W : World} {b : Option Addr} {ds : List Nat} {R : Nat} (h : U8 W b ds) (r : Rec W R) (g : Bool) (a : Option Addr) (n c : Nat) (e : Int) : U8 (put3 W R g a n c e) b ds := by
  refine ⟨fun j x hx => ?_, h.lt⟩
  obtain ⟨bk, off, rfl, hc⟩ := h.row j x hx
  refine ⟨bk, off, rfl, ?_⟩
  have hne : bk ≠ R := by
    rintro rfl
    obtain ⟨g0, a0, n0, c0, e0, T, hr⟩ := r
    rw [blk_cell hr] at hc
    obtain ⟨y, _, rfl⟩ : ∃ y, y ∈ ds ∧ x = .int .u8 ((y : Nat) : Int) := by
      have := List.mem_of_getElem? hx
      obtain ⟨y, hy, rfl⟩ := List.mem_map.1 (show x ∈ ds.map _ from this)
      exact ⟨y, hy, rfl⟩
    generalize off + j = k at hc
    match k, hc with
    | 0, hc => simp at hc
    | 1, hc => simp at hc
    | 2, hc => simp at hc
    | k + 3, hc => simp at hc
  rw [← hc]
  exact World.cell?_of_block (put3_other hne _ _ _ _ _)
theorem RdD.put {W : World} {d : D} {b : Option Addr} {cap : Nat} {R : Nat} (h : RdD W d b cap) (r : Rec W R) (g : Bool) (a : Option Addr) (n c : Nat) (e : Int) : RdD (put3 W R g a n c e) d b cap := ⟨h.1.put r g a n c e, h.2⟩
theorem below_put {B : Nat} {w W : World} (h : Below B w W) {R : Nat} (hR : B ≤ R) (g : Bool) (a : Option Addr) (n c : Nat) (e : Int) : Below B w (put3 W R g a n c e) :=
  ((h.setCell (p := ⟨R, 0, none⟩) hR _).setCell (p := ⟨R, 1, none⟩) hR _).setCell (p := ⟨R, 2, none⟩) hR _
theorem owns_put {W : World} {base : Nat} {e : TypeId} {size : Nat} {v : Value} {k : Nat} {xs : List Value} (h : W.ownsRow base e size v k xs) {R : Nat} (hR : R < base) (g : Bool) (a : Option Addr) (n c : Nat) (x : Int) : (put3 W R g a n c x).ownsRow base e size v k xs := owns_set3 h hR _ _ _

theorem keepJ {B R : Nat} {w W w1 : World} {N : Nat} {x y z : Value} (h : W.cell? ⟨N, 0, none⟩ = some x ∧ W.cell? ⟨N, 1, none⟩ = some y ∧ W.cell? ⟨N, 2, none⟩ = some z ∧ Rec W R ∧ Below B w W) (hB : B ≤ w.heap.size) (hb : Below W.heap.size W w1) :
    w1.cell? ⟨N, 0, none⟩ = some x ∧ w1.cell? ⟨N, 1, none⟩ = some y ∧ w1.cell? ⟨N, 2, none⟩ = some z ∧ Rec w1 R ∧ Below B w w1 := by
  obtain ⟨h0, h1, h2, h3, h4⟩ := h
  have B' := (bcell hb).1
  exact ⟨(B' _ _ (cell_lt h0)).trans h0, (B' _ _ (cell_lt h1)).trans h1, (B' _ _ (cell_lt h2)).trans h2, h3.below hb, h4.trans (hb.mono (Nat.le_trans hB h4.size))⟩

theorem keepP {B R M : Nat} {w W : World} {N : Nat} {x y z : Value} (h : W.cell? ⟨N, 0, none⟩ = some x ∧ W.cell? ⟨N, 1, none⟩ = some y ∧ W.cell? ⟨N, 2, none⟩ = some z ∧ Rec W R ∧ Below B w W) (g : Bool) (a : Option Addr) (n c : Nat) (e : Int) (hN : N ≠ M) (hR : R ≠ M) (hB : B ≤ M) (w1 : World) (hw : w1 = put3 W M g a n c e) :
    w1.cell? ⟨N, 0, none⟩ = some x ∧ w1.cell? ⟨N, 1, none⟩ = some y ∧ w1.cell? ⟨N, 2, none⟩ = some z ∧ Rec w1 R ∧ Below B w w1 := by
  subst hw
  obtain ⟨h0, h1, h2, h3, h4⟩ := h
  have hc : ∀ j, (put3 W M g a n c e).cell? ⟨N, j, none⟩ = W.cell? ⟨N, j, none⟩ := fun j => World.cell?_of_block (put3_other hN _ _ _ _ _)
  exact ⟨(hc 0).trans h0, (hc 1).trans h1, (hc 2).trans h2, h3.other hR _ _ _ _ _, below_put h4 hB _ _ _ _ _⟩
/-- Block N holds this number of the document's answer. -/
def HasR (W : World) (N : Nat) (d : D) (b : Option Addr) (c : Nat) : Prop := ∃ T, W.heap[N]? = some (.cells #[.bool d.neg, .slice b (Num.digs 10 d.m).length c, .int .i64 d.e] T)
theorem HasR.below {W W' : World} {N c : Nat} {d : D} {b : Option Addr} (h : HasR W N d b c) (hb : Below W.heap.size W W') : HasR W' N d b c := by obtain ⟨T, h⟩ := h; exact ⟨T, blk_below h hb⟩
theorem HasR.lt {W : World} {N c : Nat} {d : D} {b : Option Addr} (h : HasR W N d b c) : N < W.heap.size := by obtain ⟨T, h⟩ := h; exact blk_lt h
theorem HasR.get {W : World} {N c : Nat} {d : D} {b : Option Addr} (h : HasR W N d b c) : (W.cell? ⟨N, 0, none⟩ = some (.bool d.neg) ∧ W.cell? ⟨N, 1, none⟩ = some (.slice b (Num.digs 10 d.m).length c) ∧ W.cell? ⟨N, 2, none⟩ = some (.int .i64 d.e)) ∧ (W.frozen? ⟨N, 0, none⟩ = false ∧ W.frozen? ⟨N, 1, none⟩ = false ∧ W.frozen? ⟨N, 2, none⟩ = false) := by obtain ⟨T, h⟩ := h; exact blk_three h
theorem HasR.of_put {W : World} {R : Nat} (h : Rec W R) (d : D) (b : Option Addr) (c : Nat) : HasR (put3 W R d.neg b (Num.digs 10 d.m).length c d.e) R d b c := by
  obtain ⟨g0, a0, n0, c0, e0, T, h⟩ := h
  exact ⟨T, by simp [put3, World.setCell, Array.getElem?_modify, h]⟩
theorem HasR.new (W : World) (d : D) (b : Option Addr) (c : Nat) (T : TypeId) : HasR (W.alloc (.cells #[.bool d.neg, .slice b (Num.digs 10 d.m).length c, .int .i64 d.e] T)) W.heap.size d b c := ⟨T, blk_new W _⟩

theorem keepA {B R : Nat} {w W : World} {o o' : Obj} {N : Nat} {x y z : Value} (h : (W.alloc o).cell? ⟨N, 0, none⟩ = some x ∧ (W.alloc o).cell? ⟨N, 1, none⟩ = some y ∧ (W.alloc o).cell? ⟨N, 2, none⟩ = some z ∧ Rec (W.alloc o) R ∧ Below B w (W.alloc o)) (hN : N < W.heap.size) (hR : R < W.heap.size) (hB : B ≤ W.heap.size) (hs : w.heap.size ≤ W.heap.size) :
    (W.alloc o').cell? ⟨N, 0, none⟩ = some x ∧ (W.alloc o').cell? ⟨N, 1, none⟩ = some y ∧ (W.alloc o').cell? ⟨N, 2, none⟩ = some z ∧ Rec (W.alloc o') R ∧ Below B w (W.alloc o') := by
  have hb : ∀ k, k < W.heap.size → (W.alloc o').heap[k]? = (W.alloc o).heap[k]? := fun k hk => by rw [Below.heap_alloc _ _ _ hk, Below.heap_alloc _ _ _ hk]
  have hc : ∀ j, (W.alloc o').cell? ⟨N, j, none⟩ = (W.alloc o).cell? ⟨N, j, none⟩ := fun j => World.cell?_of_block (hb N hN)
  obtain ⟨h0, h1, h2, ⟨g, a, n, c, e, T, h3⟩, h4⟩ := h
  exact ⟨(hc 0).trans h0, (hc 1).trans h1, (hc 2).trans h2, ⟨g, a, n, c, e, T, (hb R hR).trans h3⟩, ⟨h4.os, h4.tape, h4.output, by simp; omega, fun k hk => (hb k (by omega)).trans (h4.block k hk)⟩⟩

set_option maxRecDepth 100000 in
set_option maxHeartbeats 3200000 in
theorem ref2_Take (g : Bool) (a : Option Addr) (cap : Nat) (e : Int) (xs : List Nat) (w : World) (h : U32 w a xs) :
    Calls Tryz.prog 121 #[.agg #[.bool g, .slice a xs.length cap, .int .i64 e]] w (OutRDE w (takenD g xs.length (Num.worth xs) e) (takenE g xs.length (Num.worth xs) e)) := by
  obtain ⟨rd, hrd⟩ : ∃ r, r = takenD g xs.length (Num.worth xs) e := ⟨_, rfl⟩
  obtain ⟨re, hre⟩ : ∃ r, r = takenE g xs.length (Num.worth xs) e := ⟨_, rfl⟩
  rw [← hrd, ← hre]
  unfold takenD at hrd
  unfold takenE at hre
  by_cases hn : nearB xs.length e = true
  · rw [if_pos hn] at hrd hre
    obtain ⟨h1, h2, h3⟩ := nearB_iff.1 hn
    obtain ⟨hb1, hb2⟩ := digs_bound h.lt h1
    have CF := fun W (hb : Below w.heap.size w W) => ref1_From a cap xs W (h.below hb) h1
    have CM := fun W b c (hu : U8 W b (Num.digs 10 (Num.worth xs))) (hc : (Num.digs 10 (Num.worth xs)).length ≤ c) (hc2 : c ≤ 9223372036854775807) => ref2_Make g b c (Num.worth xs) e W hu hc hc2 (by omega) (by omega)
    have pe := plain_e g (Num.worth xs) e (by omega) ⟨h2, h3⟩
    have pm := plain_m_le g (Num.worth xs) e
    have pd : (Num.digs 10 (plainD g (Num.worth xs) e).m).length ≤ 1809 := Nat.le_trans (Num.digs_length_mono (by decide) pm) hb1
    obtain ⟨d, hd⟩ : ∃ d, d = plainD g (Num.worth xs) e := ⟨_, rfl⟩
    rw [← hd] at CM pe pd hrd hre
    obtain ⟨m, hm⟩ : ∃ m, m = Num.worth xs := ⟨_, rfl⟩
    rw [← hm] at CF CM
    have CI := fun W b c => ref2_Fits d b c W (by omega) (by omega)
    obtain ⟨n, hnn⟩ : ∃ n, n = xs.length := ⟨_, rfl⟩
    rw [← hnn] at CF h1 ⊢
    replace CF := hid CF
    replace CM := hid CM
    have i1 : ¬ (200 : Int) < (n : Int) := by omega
    have i2 : ¬ e < -30000 := by omega
    have i3 : ¬ 30000 < e := by omega
    clear h hn hb1 hb2 pm hd hm hnn pe pd h1 h2 h3
    obtain ⟨fb, hfb⟩ : ∃ fb, fb = fitsB d := ⟨_, rfl⟩
    rw [← hfb] at CI hrd hre
    unfold refV at CI
    replace CI := hid CI
    replace hrd := hid hrd
    replace hre := hid hre
    clear hfb
    go_enter Tryz.func121, Tryz.ntmps121
    go_upto_region 3 with fail
    obtain ⟨wi, hwi⟩ : ∃ W, W = (w.alloc (.cells #[.bool g, .slice a n cap, .int .i64 e] 24)).alloc (.cells #[.bool false, .slice none 0 0, .int .i64 0] 168) := ⟨_, rfl⟩
    rw [← hwi]
    have hbi : Below w.heap.size w wi := by rw [hwi]; exact ((Below.refl _ _).alloc (Nat.le_refl _) _).alloc (by simp) _
    have hsz : wi.heap.size = w.heap.size + 1 + 1 := by rw [hwi]; simp
    have hk := blk_three (show wi.heap[w.heap.size]? = _ by rw [hwi]; exact blk_alloc (blk_new w _) _)
    have R3 : Rec wi (w.heap.size + 1) := ⟨_, _, _, _, _, _, by rw [hwi]; exact blk_new2 w _ _⟩
    obtain ⟨⟨k0, k1, k2⟩, _⟩ := hk
    have hszi : w.heap.size + 1 < wi.heap.size := by omega
    replace R3 := hid R3
    have HBI := hid hbi
    clear hwi hbi hsz
    go_cut [1, 2, 4] from 5 (fun v1 v2 v4 w' => ∃ N b c, v1 = .pointer (some ⟨w.heap.size, 0, none⟩) ∧ v2 = .pointer (some ⟨w.heap.size + 1, 0, none⟩) ∧ v4 = .pointer (some ⟨N, 0, none⟩) ∧ HasR w' N d b c ∧ w.heap.size + 1 < N ∧ RdD w' d b c ∧ Rec w' (w.heap.size + 1) ∧ Below w.heap.size w w')
    case first =>
      go_region_held3 (fun w' => w'.cell? ⟨w.heap.size, 0, none⟩ = some (.bool g) ∧ w'.cell? ⟨w.heap.size, 1, none⟩ = some (.slice a n cap) ∧ w'.cell? ⟨w.heap.size, 2, none⟩ = some (.int .i64 e) ∧ Rec w' (w.heap.size + 1) ∧ Below w.heap.size w w') (first | (exact ⟨k0, k1, k2, R3.out, HBI.out.drew⟩) | (exact keepJ (by assumption) (Nat.le_refl _) (by assumption)) | (exact keepA (by assumption) (by omega) hsz2 (by omega) (by omega)) | (exact keepP (M := wi.heap.size) (by assumption) _ _ _ _ _ (by omega) (by omega) (by omega) _ rfl) | (exact keepP (M := w1.heap.size) (by assumption) _ _ _ _ _ (by omega) (by omega) (by omega) _ rfl) | (exact keepJ (by assumption) (Nat.le_refl _) ((Below.refl _ _).alloc (Nat.le_refl _) _))) ((first | (go_at_call 165; (with_reducible refine (CF.out _ ?_).mono ?_); (simp only [*]); rintro e1 w1 ⟨am, cm, rfl, hb1, hu1, hc1, hc2, _⟩; have hs1 : wi.heap.size ≤ w1.heap.size := (by first | exact hb1.size | (have hh := hb1.size; simp at hh; omega)); (try have hqa : Rec w1 wi.heap.size := (by first | exact Rec.below (Rec.drew ⟨_, _, _, _, _, _, blk_new wi _⟩) hb1 | exact Rec.below ⟨_, _, _, _, _, _, blk_new wi.drew _⟩ hb1))) | (go_at_call 164; (with_reducible refine (CM.out _ _ _ (by first | assumption | exact hu1.below ((Below.refl _ _).alloc (Nat.le_refl _) _)) (by assumption) (by assumption)).mono ?_); rintro e2 w2 ⟨ap, cp, rfl, hb2, hr2⟩; have hs2 : w1.heap.size ≤ w2.heap.size := (by first | exact hb2.size | (have hh := hb2.size; simp at hh; omega)); have hsz2 : w.heap.size + 1 < w2.heap.size := (by omega); (try have hqb : Rec w2 w1.heap.size := Rec.below ⟨_, _, _, _, _, _, blk_new _ _⟩ hb2); (try have hqb : Rec w2 wi.heap.size := hqa.below hb2); (try obtain ⟨_, _, _, u0, u1, u2⟩ := hqb.cells.get); (try have v0 := hqb.cells.frozen 0); (try have v1 := hqb.cells.frozen 1); (try have v2 := hqb.cells.frozen 2); unfold refV)))
      all_goals
        rename_i hHeld
        obtain ⟨_, _, _, hR, hH⟩ := hHeld
        go_wp2_with fail
        go_meet
        case rel =>
          refine ⟨_, ap, cp, rfl, rfl, rfl, ?_, ?_, ?_, hR, hH⟩
          · first | exact HasR.of_put hqb d ap cp | exact HasR.new _ _ _ _ _
          · omega
          · first | exact hr2.put hqb _ _ _ _ _ | exact hr2.below ((Below.refl _ _).alloc (Nat.le_refl _) _)
    case rest =>
      obtain ⟨N, b, c, rfl, rfl, rfl, hN, hl, hr, hrec, hb⟩ := hcut
      obtain ⟨⟨q0, q1, q2⟩, _⟩ := hN.get
      have zN := hN.lt
      have HRD := hid hr
      have HREC := hid hrec
      have HB := hid hb
      have HN := hid hN
      clear k0 k1 k2 hszi R3 HBI CF CM hr hrec hb hN
      go_wp2_with fail
      refine (CI.out _ _ _).mono ?_
      rintro e1 w1 ⟨rfl, hb1⟩
      replace HRD := hid (HRD.out.below hb1)
      replace HREC := hid (HREC.out.below hb1)
      replace HB := hid (below_trans HB.out hb1)
      replace HN := hid (HN.out.below hb1)
      clear hb1 q0 q1 q2 zN CI
      obtain ⟨⟨q0, q1, q2⟩, _⟩ := HN.out.get
      obtain ⟨_, _, _, p0, p1, p2⟩ := HREC.out.cells.get
      have f0 := HREC.out.cells.frozen 0
      have f1 := HREC.out.cells.frozen 1
      have f2 := HREC.out.cells.frozen 2
      cases fb with
      | true =>
        go_wp2
        refine bodyPost_ret (v := .tuple #[refV d b c, .int .i64 0]) (by simp [results, Tryz.results121, go_sem, p0, p1, p2, refV]) rfl ?_
        rw [hrd.out, hre.out]
        exact ⟨b, c, rfl, below_put HB.out (Nat.le_succ _) _ _ _ _ _, HRD.out.put HREC.out _ _ _ _ _⟩
      | false =>
        go_wp2
        refine bodyPost_ret (v := .tuple #[refV zeroD none 0, .int .i64 3]) (by simp [results, Tryz.results121, go_sem, p0, p1, p2, refV, zeroD]; rfl) rfl ?_
        rw [hrd.out, hre.out]
        exact ⟨none, 0, rfl, below_put HB.out (Nat.le_succ _) false none 0 0 0, rd_zero _⟩

  · rw [if_neg hn] at hrd hre
    have h3 : 200 < xs.length ∨ (¬ 200 < xs.length ∧ e < -30000) ∨ (¬ 200 < xs.length ∧ ¬ e < -30000 ∧ 30000 < e) := by
      have := mt nearB_iff.2 hn
      omega
    obtain ⟨n, hnn⟩ : ∃ n, n = xs.length := ⟨_, rfl⟩
    rw [← hnn] at h3 ⊢
    replace hrd := hid hrd
    replace hre := hid hre
    clear h hn hnn
    rcases h3 with h1 | ⟨h1, h2⟩ | ⟨h1, h2, h3⟩
    all_goals
      go_enter Tryz.func121, Tryz.ntmps121
      go_wp2
      refine bodyPost_ret (v := .tuple #[refV zeroD none 0, .int .i64 1]) (by simp [results, Tryz.results121, go_sem, refV, zeroD]; rfl) rfl ?_
      rw [hrd.out, hre.out]
      exact ⟨none, 0, rfl, ((Below.refl _ _).alloc (Nat.le_refl _) _).alloc (by simp) _, rd_zero _⟩

end Go.Proofs.YtldhebpkplglcaaGreatDoor

namespace Go.Proofs.YtldhebpkplglcaaGreatDoor
open Go.RowKit

theorem taken_bounds {g : Bool} {xs : List Nat} {e : Int} (_h : ∀ x ∈ xs, x < 4294967296) : (Num.digs 10 (takenD g xs.length (Num.worth xs) e).m).length ≤ 400 ∧ -10400 ≤ (takenD g xs.length (Num.worth xs) e).e ∧ (takenD g xs.length (Num.worth xs) e).e ≤ 10001 := by
  have := (tk_taken g xs.length (Num.worth xs) e).good
  exact plain_bounds this.1 this.2
theorem HasR.rec {W : World} {N c : Nat} {d : D} {b : Option Addr} (h : HasR W N d b c) : Rec W N := by obtain ⟨T, h⟩ := h; exact ⟨_, _, _, _, _, T, h⟩
theorem Rec.set1 {W : World} {R K : Nat} (h : Rec W R) (hK : R ≠ K) (o : Nat) (v : Value) : Rec (W.setCell ⟨K, o, none⟩ v) R := by
  obtain ⟨g, a, n, c, e, T, h⟩ := h
  exact ⟨g, a, n, c, e, T, by rw [Below.heap_setCell _ _ _ _ hK]; exact h⟩
theorem U8.set1 {W : World} {b : Option Addr} {ds : List Nat} {R : Nat} (h : U8 W b ds) (r : Rec W R) (o : Nat) (v : Value) : U8 (W.setCell ⟨R, o, none⟩ v) b ds := by
  refine ⟨fun j x hx => ?_, h.lt⟩
  obtain ⟨bk, off, rfl, hc⟩ := h.row j x hx
  refine ⟨bk, off, rfl, ?_⟩
  have hne : bk ≠ R := by
    rintro rfl
    obtain ⟨g0, a0, n0, c0, e0, T, hr⟩ := r
    rw [blk_cell hr] at hc
    obtain ⟨y, _, rfl⟩ : ∃ y, y ∈ ds ∧ x = .int .u8 ((y : Nat) : Int) := by
      have := List.mem_of_getElem? hx
      obtain ⟨y, hy, rfl⟩ := List.mem_map.1 (show x ∈ ds.map _ from this)
      exact ⟨y, hy, rfl⟩
    generalize off + j = k at hc
    match k, hc with
    | 0, hc => simp at hc
    | 1, hc => simp at hc
    | 2, hc => simp at hc
    | k + 3, hc => simp at hc
  rw [← hc]
  exact World.cell?_of_block (Below.heap_setCell _ _ _ _ hne)

end Go.Proofs.YtldhebpkplglcaaGreatDoor

namespace Go.Proofs.YtldhebpkplglcaaGreatDoor
open Go.RowKit

set_option maxRecDepth 100000 in
set_option maxHeartbeats 1600000 in
theorem ref2_Norm (g : Bool) (a : Option Addr) (cap : Nat) (e : Int) (xs : List Nat) (w : World) (h : U32 w a xs) :
    Calls Tryz.prog 118 #[.agg #[.bool g, .slice a xs.length cap, .int .i64 e]] w (OutDE w (takenD g xs.length (Num.worth xs) e) (takenE g xs.length (Num.worth xs) e)) := by
  have CT := fun W (hb : Below w.heap.size w W) => ref2_Take g a cap e xs W (h.below hb)
  have bd := taken_bounds (g := g) (e := e) h.lt
  have hz := takenE_cases g xs.length (Num.worth xs) e
  obtain ⟨d, hd⟩ : ∃ d, d = takenD g xs.length (Num.worth xs) e := ⟨_, rfl⟩
  obtain ⟨er, her⟩ : ∃ r, r = takenE g xs.length (Num.worth xs) e := ⟨_, rfl⟩
  rw [← hd, ← her] at CT hz ⊢
  rw [← hd] at bd
  obtain ⟨n, hn⟩ : ∃ n, n = xs.length := ⟨_, rfl⟩
  rw [← hn] at CT ⊢
  replace CT := hid CT
  replace bd := hid bd
  replace hz := hid hz
  clear h hd her hn
  go_enter Tryz.func118, Tryz.ntmps118
  go_upto_region 1 with fail
  go_cut [2, 4, 5] from 6 (fun v2 v4 v5 w' => ∃ N b c, v2 = .pointer (some ⟨w.heap.size + 1, 0, none⟩) ∧ v4 = .pointer (some ⟨N, 0, none⟩) ∧ v5 = .int .i64 er ∧ w'.heap[N]? = some (.cells #[.bool d.neg, .slice b (Num.digs 10 d.m).length c, .int .i64 d.e] 168) ∧ RdD w' d b c ∧ Rec w' (w.heap.size + 1) ∧ Below w.heap.size w w')
  case first =>
    go_wp2_with fail
    refine (CT.out _ (((Below.refl _ _).alloc (Nat.le_refl _) _).alloc (by simp) _)).mono ?_
    rintro e1 w1 ⟨b1, c1, rfl, hb1, hr1⟩
    have HB1 := hid (below_alloc (below_alloc hb1))
    have HR := hid ((show Rec ((w.alloc _).alloc _) (w.heap.size + 1) from ⟨_, _, _, _, _, _, blk_new2 w _ _⟩).below hb1)
    have HI := hid hr1
    clear hb1 hr1 CT
    unfold refV
    go_wp2_with fail
    go_meet
    case rel =>
      have k1 := (Below.refl w1.heap.size w1).alloc (Nat.le_refl _) (.cells #[.bool d.neg, .slice b1 (Num.digs 10 d.m).length c1, .int .i64 d.e] 168)
      exact ⟨w1.heap.size, b1, c1, rfl, rfl, rfl, blk_new w1 _, HI.out.below k1, HR.out.below k1, below_trans HB1.out k1⟩
  case rest =>
    obtain ⟨N, b, c, rfl, rfl, rfl, hblk, hrd, hrec, hb⟩ := hcut
    obtain ⟨⟨k0, k1, k2⟩, _⟩ := blk_three hblk
    have z0 := blk_lt hblk
    obtain ⟨r0, r1, r2, p0, p1, p2⟩ := hrec.cells.get
    have f0 := hrec.cells.frozen 0
    have f1 := hrec.cells.frozen 1
    have f2 := hrec.cells.frozen 2
    have HRD := hid hrd
    have HREC := hid hrec
    have HB := hid hb
    have hlt := hrec.lt
    clear hblk hrd hrec hb CT
    by_cases h0 : er = 0
    · have hne : ((er : Int) != 0) = false := by rw [bne_eq_false_iff_eq]; omega
      have CO := ref2_To d b c wc HRD.out.1 (by have := bd.out; omega)
      unfold refV at CO
      replace CO := hid CO
      have HE := hid h0
      clear h0
      go_wp2_with fail
      refine (CO.out).mono ?_
      rintro e2 w2 ⟨a2, c2, rfl, ho2⟩
      have HB2 := hid (below_trans HB.out ho2.1)
      have HO2 := hid ho2.2
      have hr2 := HREC.out.below ho2.1
      clear ho2 p0 p1 p2 f0 f1 f2 k0 k1 k2 CO
      obtain ⟨s0, s1, s2, p0, p1, p2⟩ := hr2.cells.get
      have f0 := hr2.cells.frozen 0
      have f1 := hr2.cells.frozen 1
      have f2 := hr2.cells.frozen 2
      clear hr2
      unfold decV
      go_wp2
      refine bodyPost_ret (v := .tuple #[decV d a2 c2, .int .i64 0]) (by simp [results, Tryz.results118, go_sem, p0, p1, p2, decV]) rfl ?_
      rw [HE.out]
      exact ⟨a2, c2, rfl, below_put HB2.out (Nat.le_succ _) _ _ _ _ _, owns_mono (owns_put HO2.out hlt _ _ _ _ _) HB.out.size⟩
    · have hne : ((er : Int) != 0) = true := by rw [bne_iff_ne]; omega
      have HZ : Hid (d = zeroD) := by
        rcases hz.out with h | h
        · exact absurd h h0
        · exact h.2
      clear h0
      go_wp2
      refine bodyPost_ret (v := .tuple #[decV zeroD none 0, .int .i64 er]) (by simp [results, Tryz.results118, go_sem, p0, p1, p2, decV, zeroD]; rfl) rfl ?_
      rw [HZ.out]
      exact ⟨none, 0, rfl, below_put HB.out (Nat.le_succ _) false none 0 0 0, World.ownsRow_nil _ _ _ _⟩

set_option maxRecDepth 100000 in
set_option maxHeartbeats 1600000 in
theorem ref2_May (g : Bool) (a : Option Addr) (cap : Nat) (e : Int) (xs : List Nat) (w : World) (h : U32 w a xs) :
    Calls Tryz.prog 78 #[.agg #[.bool g, .slice a xs.length cap, .int .i64 e]] w fun en w' => en = .returned (.bool (mayB g xs e)) ∧ Below w.heap.size w w' := by
  have C := fun W (hb : Below w.heap.size w W) => ref2_Norm g a cap e xs W (h.below hb)
  have HU := hid h
  have bd := taken_bounds (g := g) (e := e) h.lt
  obtain ⟨r, hr⟩ : ∃ r, r = mayB g xs e := ⟨_, rfl⟩
  rw [← hr]
  rcases takenE_cases g xs.length (Num.worth xs) e with h0 | ⟨h0, hz⟩
  · unfold mayB at hr
    rw [h0] at C hr
    obtain ⟨d, hdd⟩ : ∃ d, d = takenD g xs.length (Num.worth xs) e := ⟨_, rfl⟩
    rw [← hdd] at C hr bd
    have hlm := limbs_400 bd.1
    have HR := hid (show r = decide (d.neg = g ∧ d.e = e ∧ Num.limbs d.m = xs) by rw [hr]; simp)
    replace C := hid C
    clear h h0 hdd hr bd
    go_enter Tryz.func78, Tryz.ntmps78
    go_wp2_with fail
    refine (C.out _ ((Below.refl _ _).alloc (Nat.le_refl _) _)).mono ?_
    rintro e1 w1 ⟨a1, c1, he, ho⟩
    have HI := hid ho.inD
    have HB := hid (below_alloc ho.1)
    obtain ⟨⟨k0, k1, k2⟩, _⟩ := blk_three (blk_below (blk_new w _) ho.1)
    have hz1 : w.heap.size < w1.heap.size := by have := ho.1.size; simp at this; omega
    unfold decV at he
    subst he
    clear ho C
    go_wp2_with fail
    refine (ref2_Same d.neg g a1 a c1 cap d.e e (Num.limbs d.m) xs _ (HI.out.u.below ((Below.refl _ _).alloc (Nat.le_refl _) _)) ((HU.out.below HB.out).below ((Below.refl _ _).alloc (Nat.le_refl _) _)) (by omega)).mono ?_
    rw [← HR.out]
    rintro e2 w2 ⟨rfl, hb2⟩
    have HB2 := hid (below_trans HB.out (below_alloc hb2))
    clear hb2 k0 k1 k2
    go_wp2
    go_ret
    exact ⟨rfl, HB2.out⟩
  · have hr' : r = false := by rw [hr]; unfold mayB; rw [decide_eq_false_iff_not]; exact fun h => h0 h.1
    subst hr'
    rw [hz] at C
    obtain ⟨er, her⟩ : ∃ er, er = takenE g xs.length (Num.worth xs) e := ⟨_, rfl⟩
    rw [← her] at C h0
    have h0' : ((er : Int) == 0) = false := by rw [beq_eq_false_iff_ne]; omega
    replace C := hid C
    clear h h0 hz her hr bd
    go_enter Tryz.func78, Tryz.ntmps78
    go_wp2_with fail
    refine (C.out _ ((Below.refl _ _).alloc (Nat.le_refl _) _)).mono ?_
    rintro e1 w1 ⟨a1, c1, he, ho⟩
    have HB := hid (below_alloc ho.1)
    unfold decV at he
    subst he
    clear ho C
    go_wp2
    go_ret
    exact ⟨rfl, HB.out.alloc HB.out.size _⟩

end Go.Proofs.YtldhebpkplglcaaGreatDoor

namespace Go.Proofs.YtldhebpkplglcaaGreatDoor
open Go.RowKit

theorem RdD.drew {w : World} {d : D} {a : Option Addr} {cap : Nat} (h : RdD w d a cap) : RdD w.drew d a cap := ⟨⟨h.1.row.drewN 1, h.1.lt⟩, h.2⟩
theorem two_fin {w wc W : World} {x y : D} {b b2 : Option Addr} {c c2 R1 R2 : Nat} (hb : Below w.heap.size w wc) (r1 : Rec wc R1) (r2 : Rec wc R2) (hx : RdD wc x b c) (hy : RdD wc y b2 c2) (h1 : w.heap.size ≤ R1) (h2 : w.heap.size ≤ R2) (h3 : R2 ≠ R1)
    (hW : W = (put3 (put3 wc R1 x.neg b (Num.digs 10 x.m).length c x.e) R2 y.neg b2 (Num.digs 10 y.m).length c2 y.e).drew) : Below w.heap.size w W ∧ RdD W x b c ∧ RdD W y b2 c2 := by
  have rb := r2.other h3 x.neg b (Num.digs 10 x.m).length c x.e
  have k1 := (hx.put r1 x.neg b (Num.digs 10 x.m).length c x.e).put rb y.neg b2 (Num.digs 10 y.m).length c2 y.e
  have k2 := (hy.put r1 x.neg b (Num.digs 10 x.m).length c x.e).put rb y.neg b2 (Num.digs 10 y.m).length c2 y.e
  have k3 := below_put (below_put hb h1 x.neg b (Num.digs 10 x.m).length c x.e) h2 y.neg b2 (Num.digs 10 y.m).length c2 y.e
  subst hW
  exact ⟨k3.drew, k1.drew, k2.drew⟩
/-- Two numbers of the document's answer, and an error. -/
def OutRDD (w : World) (x y : D) (err : Nat) (e : Ending) (w' : World) : Prop :=
  ∃ a1 c1 a2 c2, e = .returned (.tuple #[refV x a1 c1, refV y a2 c2, .int .i64 err]) ∧ Below w.heap.size w w' ∧ RdD w' x a1 c1 ∧ RdD w' y a2 c2

end Go.Proofs.YtldhebpkplglcaaGreatDoor
