/- The document's answer, seventh part: Make whole, Head, Fits, To, Tell. -/
import Derived.Test.YtmdgciolnpkccaaGreatDoorRefG
import Derived.Test.YtmdgciolnpkccaaGreatDoorDecP
namespace Go.Proofs.YtmdgciolnpkccaaGreatDoor
open Go.RowKit

theorem ref2_Make (g : Bool) (a : Option Addr) (cap m : Nat) (e : Int) (w : World) (h : U8 w a (Num.digs 10 m)) (hc : (Num.digs 10 m).length ≤ cap) (hc2 : cap ≤ 9223372036854775807) (hd : (Num.digs 10 m).length ≤ 1000000000) (he : -3000000000 ≤ e ∧ e ≤ 3000000000) :
    Calls Tryz.prog 66 #[.bool g, .slice a (Num.digs 10 m).length cap, .int .i64 e] w (OutRD w (plainD g m e)) := by
  by_cases h0 : m = 0
  · subst h0
    have : plainD g 0 e = zeroD := if_pos rfl
    rw [this]
    exact r_Make_zero g a cap e w
  · obtain ⟨b, off, rfl⟩ := h.isSome (fun e => h0 ((Num.digs_eq_nil (by decide)).1 e))
    exact r_Make_some g b off cap m e w h h0 hc hc2 hd he

theorem ref2_Head (d : D) (a : Option Addr) (cap : Nat) (w : World) (hl : (Num.digs 10 d.m).length ≤ 1000000000) (he : -3000000000 ≤ d.e ∧ d.e ≤ 3000000000) :
    Calls Tryz.prog 94 #[refV d a cap] w fun en w' => en = .returned (.int .i64 (headD d)) ∧ Below w.heap.size w w' := by
  have hh : headD d = d.e + (Num.digs 10 d.m).length - 1 := rfl
  rw [hh]
  obtain ⟨g, m, e⟩ := d
  unfold refV
  simp only at hl he ⊢
  obtain ⟨n, hn⟩ : ∃ n, n = (Num.digs 10 m).length := ⟨_, rfl⟩
  rw [← hn] at hl ⊢
  clear hh hn
  go_enter Tryz.func94, Tryz.ntmps94
  go_wp2
  go_ret
  exact ⟨rfl, (Below.refl _ _).alloc (Nat.le_refl _) _⟩

set_option maxRecDepth 100000 in
set_option maxHeartbeats 3200000 in
theorem ref2_Fits (d : D) (a : Option Addr) (cap : Nat) (w : World) (hl : (Num.digs 10 d.m).length ≤ 1000000000) (he : -3000000000 ≤ d.e ∧ d.e ≤ 3000000000) :
    Calls Tryz.prog 129 #[refV d a cap] w fun en w' => en = .returned (.bool (fitsB d)) ∧ Below w.heap.size w w' := by
  have CH := fun W => ref2_Head d a cap W hl he
  have hb : fitsB d = (decide (d.m = 0) || (decide ((Num.digs 10 d.m).length ≤ 400) && decide (-10000 ≤ headD d) && decide (headD d ≤ 10000))) := rfl
  rw [hb]
  have hz : (Num.digs 10 d.m).length = 0 ↔ d.m = 0 := by rw [List.length_eq_zero_iff]; exact Num.digs_eq_nil (by decide)
  obtain ⟨H, hH⟩ : ∃ H, H = headD d := ⟨_, rfl⟩
  rw [← hH] at CH ⊢
  obtain ⟨g, m, e⟩ := d
  unfold refV at CH ⊢
  simp only at CH hl hz ⊢
  obtain ⟨n, hn⟩ : ∃ n, n = (Num.digs 10 m).length := ⟨_, rfl⟩
  rw [← hn] at CH hl hz ⊢
  replace CH := hid CH
  clear hn hb hH he
  by_cases h0 : m = 0
  · obtain rfl : n = 0 := hz.2 h0
    rw [decide_eq_true h0, Bool.true_or]
    clear hz hl h0
    go_enter Tryz.func129, Tryz.ntmps129
    go_wp2
    go_ret
    exact ⟨rfl, (Below.refl _ _).alloc (Nat.le_refl _) _⟩
  · rw [decide_eq_false h0, Bool.false_or]
    have hn0 : ((n : Int) == 0) = false := by rw [beq_eq_false_iff_ne]; omega
    clear hz h0
    obtain ⟨V, hV⟩ : ∃ V, V = (decide (n ≤ 400) && decide (-10000 ≤ H) && decide (H ≤ 10000)) := ⟨_, rfl⟩
    rw [← hV]
    replace hV := hid hV
    by_cases q1 : n ≤ 400 <;> by_cases q2 : -10000 ≤ H <;> by_cases q3 : H ≤ 10000
    all_goals try (exfalso; omega)
    all_goals
      have HV := hid (hV.out)
      clear hV
      go_enter Tryz.func129, Tryz.ntmps129
      go_wp2_with fail
      refine (CH.out _).mono ?_
      rintro e1 w1 ⟨rfl, hb1⟩
      have k0 := blk_three (blk_below (blk_new w _) hb1)
      obtain ⟨⟨k0, k1, k2⟩, _⟩ := k0
      have HB := hid (below_alloc hb1)
      clear hb1
      go_wp2
      go_ret
      refine ⟨ret_bool ?_, HB.out⟩
      have hv := HV.out
      simp [q1, q2, q3] at hv
      rw [hv]
      try first | rfl | exact (decide_eq_false (by omega)).symm

/-- What is held of the world while a statement goes on that reads block N and ends with a store into block R. -/
theorem keepN {W0 W w1 : World} {N R : Nat} {x y z : Value} (h : W.cell? ⟨N, 0, none⟩ = some x ∧ W.cell? ⟨N, 1, none⟩ = some y ∧ W.cell? ⟨N, 2, none⟩ = some z ∧
      W.frozen? ⟨R, 0, none⟩ = false ∧ W.frozen? ⟨R, 1, none⟩ = false ∧ W.frozen? ⟨R, 2, none⟩ = false ∧ Cells3 W R ∧ But R W0 W) (hb : Below W.heap.size W w1) :
    w1.cell? ⟨N, 0, none⟩ = some x ∧ w1.cell? ⟨N, 1, none⟩ = some y ∧ w1.cell? ⟨N, 2, none⟩ = some z ∧
      w1.frozen? ⟨R, 0, none⟩ = false ∧ w1.frozen? ⟨R, 1, none⟩ = false ∧ w1.frozen? ⟨R, 2, none⟩ = false ∧ Cells3 w1 R ∧ But R W0 w1 := by
  obtain ⟨h0, h1, h2, _, _, _, h6, h7⟩ := h
  have B' := (bcell hb).1
  have c6 := h6.below hb
  exact ⟨(B' _ _ (cell_lt h0)).trans h0, (B' _ _ (cell_lt h1)).trans h1, (B' _ _ (cell_lt h2)).trans h2, c6.frozen 0, c6.frozen 1, c6.frozen 2, c6, h7.step hb⟩
theorem keepNs {W0 W : World} {N R : Nat} {x y z : Value} (h : W.cell? ⟨N, 0, none⟩ = some x ∧ W.cell? ⟨N, 1, none⟩ = some y ∧ W.cell? ⟨N, 2, none⟩ = some z ∧
      W.frozen? ⟨R, 0, none⟩ = false ∧ W.frozen? ⟨R, 1, none⟩ = false ∧ W.frozen? ⟨R, 2, none⟩ = false ∧ Cells3 W R ∧ But R W0 W) (p q r : Value) (hN : N ≠ R) (w1 : World) (hw : w1 = ((W.setCell ⟨R, 0, none⟩ p).setCell ⟨R, 1, none⟩ q).setCell ⟨R, 2, none⟩ r) :
    w1.cell? ⟨N, 0, none⟩ = some x ∧ w1.cell? ⟨N, 1, none⟩ = some y ∧ w1.cell? ⟨N, 2, none⟩ = some z ∧
      w1.frozen? ⟨R, 0, none⟩ = false ∧ w1.frozen? ⟨R, 1, none⟩ = false ∧ w1.frozen? ⟨R, 2, none⟩ = false ∧ Cells3 w1 R ∧ But R W0 w1 := by
  subst hw
  obtain ⟨h0, h1, h2, _, _, _, h6, h7⟩ := h
  have c6 := h6.set3 p q r
  have hc : ∀ (K j : Nat), K ≠ R → (((W.setCell ⟨R, 0, none⟩ p).setCell ⟨R, 1, none⟩ q).setCell ⟨R, 2, none⟩ r).cell? ⟨K, j, none⟩ = W.cell? ⟨K, j, none⟩ := fun K j hK => by
    refine World.cell?_of_block ?_
    simp only
    rw [Below.heap_setCell _ _ _ _ hK, Below.heap_setCell _ _ _ _ hK, Below.heap_setCell _ _ _ _ hK]
  exact ⟨(hc _ _ hN).trans h0, (hc _ _ hN).trans h1, (hc _ _ hN).trans h2, c6.frozen 0, c6.frozen 1, c6.frozen 2, c6, ((h7.setCell _ _).setCell _ _).setCell _ _⟩

set_option maxRecDepth 100000 in
set_option maxHeartbeats 800000 in
theorem ref2_To (d : D) (a : Option Addr) (cap : Nat) (w : World) (h : U8 w a (Num.digs 10 d.m)) (hl : (Num.digs 10 d.m).length ≤ 1000000) :
    Calls Tryz.prog 97 #[refV d a cap] w (OutD w d) := by
  have CT := fun W (hW : Below w.heap.size w W) => ref1_To a cap d.m W (h.below hW) hl
  obtain ⟨n, hn⟩ : ∃ n, n = (Num.digs 10 d.m).length := ⟨_, rfl⟩
  unfold refV
  rw [← hn] at CT ⊢
  replace CT := hid CT
  clear h hl hn
  go_enter Tryz.func97, Tryz.ntmps97
  go_upto_region 1 with fail
  obtain ⟨wi, hwi⟩ : ∃ W, W = (w.alloc (.cells #[.bool d.neg, .slice a n cap, .int .i64 d.e] 88)).alloc (.cells #[.bool false, .slice none 0 0, .int .i64 0] 25) := ⟨_, rfl⟩
  rw [← hwi]
  have hbi : Below w.heap.size w wi := by rw [hwi]; exact ((Below.refl _ _).alloc (Nat.le_refl _) _).alloc (by simp) _
  have hsz : wi.heap.size = w.heap.size + 1 + 1 := by rw [hwi]; simp
  have hk := blk_three (show wi.heap[w.heap.size]? = _ by rw [hwi]; exact blk_alloc (blk_new w _) _)
  have R3 : Cells3 wi (w.heap.size + 1) := ⟨_, _, _, _, by rw [hwi]; exact blk_new2 w _ _⟩
  obtain ⟨⟨k0, k1, k2⟩, _⟩ := hk
  have f0 := R3.frozen 0
  have f1 := R3.frozen 1
  have f2 := R3.frozen 2
  replace R3 := hid R3
  have HBI := hid hbi
  have hsz2 : w.heap.size + 1 < wi.heap.size := by omega
  have HW : ∀ W, But (w.heap.size + 1) wi W → Below w.heap.size w W := fun W hW => hW.below HBI.out (by omega) (by omega)
  have CT' := fun W (hW : But (w.heap.size + 1) wi W) => CT.out W (HW W hW)
  replace CT' := hid CT'
  replace HW := hid HW
  have HN := hid (show w.heap.size ≠ w.heap.size + 1 by omega)
  clear CT hwi hbi hsz
  go_region_held3 (fun w' => w'.cell? ⟨w.heap.size, 0, none⟩ = some (.bool d.neg) ∧ w'.cell? ⟨w.heap.size, 1, none⟩ = some (.slice a n cap) ∧ w'.cell? ⟨w.heap.size, 2, none⟩ = some (.int .i64 d.e) ∧ w'.frozen? ⟨w.heap.size + 1, 0, none⟩ = false ∧ w'.frozen? ⟨w.heap.size + 1, 1, none⟩ = false ∧ w'.frozen? ⟨w.heap.size + 1, 2, none⟩ = false ∧ Cells3 w' (w.heap.size + 1) ∧ But (w.heap.size + 1) wi w') (first | (exact ⟨k0, k1, k2, f0, f1, f2, R3.out, (But.refl _ _).drew⟩) | (exact keepN (by assumption) (by assumption)) | (exact keepNs (by assumption) _ _ _ HN.out _ rfl)) ((first | (go_at_call 162; (with_reducible refine (CT'.out _ ?_).mono ?_); (simp only [*]); rintro e1 w1 ⟨am, cm, rfl, hb1, ho1⟩; have hc2 : Cells3 wi.drew (w.heap.size + 1) := (by simp only [*]); obtain ⟨_, _, _, s0, s1, s2⟩ := (hc2.below hb1).get; have hc3 := hc2.below hb1)))
  rename_i hHeld
  obtain ⟨_, _, _, _, _, _, _, hB⟩ := hHeld
  have hz : wi.heap.size ≤ w1.heap.size := hb1.size
  have HO := hid (owns_mono (owns_set3 (R := w.heap.size + 1) ho1 (show w.heap.size + 1 < wi.heap.size from hsz2) (.bool d.neg) (.slice am (Num.limbs d.m).length cm) (.int .i64 d.e)) (show w.heap.size ≤ wi.heap.size by omega))
  have HB := hid (HW.out _ hB)
  clear hB hb1 ho1 hc2 hc3 CT'
  go_wp2_with fail
  refine bodyPost_ret (v := decV d am cm) (by simp [results, Tryz.results97, go_sem, s0, s1, s2, decV]) rfl ?_
  exact ⟨am, cm, rfl, HB.out, HO.out⟩

set_option maxRecDepth 100000 in
set_option maxHeartbeats 800000 in
theorem ref2_Tell (d : D) (a : Option Addr) (cap : Nat) (w : World) (h : U8 w a (Num.digs 10 d.m)) (hl : (Num.digs 10 d.m).length ≤ 1000000) (he : -3000000000 ≤ d.e ∧ d.e ≤ 3000000000) :
    Calls Tryz.prog 65 #[refV d a cap] w (OutDE w (tellR d).1 (tellR d).2) := by
  have CF := fun W => ref2_Fits d a cap W (by omega) he
  have CT := fun W (hW : Below w.heap.size w W) => ref2_To d a cap W (h.below hW) hl
  obtain ⟨n, hn⟩ : ∃ n, n = (Num.digs 10 d.m).length := ⟨_, rfl⟩
  unfold refV at CF CT ⊢
  rw [← hn] at CF CT ⊢
  obtain ⟨r, hr⟩ : ∃ r, r = tellR d := ⟨_, rfl⟩
  rw [← hr]
  replace CT := hid CT
  clear h hl hn he
  by_cases hf : fitsB d = true
  · rw [hf] at CF
    rw [tell_yes hf] at hr
    have HR := hid hr
    replace CF := hid CF
    clear hf hr
    go_enter Tryz.func65, Tryz.ntmps65
    go_wp2_with fail
    refine (CF.out _).mono ?_
    rintro e1 w1 ⟨rfl, hb1⟩
    have HB1 := hid (below_alloc (below_alloc hb1))
    have HK1 := hid (blk_below (blk_new2 w _ _) hb1)
    have hz1 : w.heap.size + 1 < w1.heap.size := by have := hb1.size; simp at this; omega
    have hk := blk_three (blk_below (blk_alloc (blk_new w _) _) hb1)
    obtain ⟨⟨k0, k1, k2⟩, _⟩ := hk
    clear hb1 CF
    go_wp2_with fail
    refine (CT.out _ HB1.out).mono ?_
    rintro e2 w2 ⟨a2, c2, rfl, ho2⟩
    have HB2 := hid (below_trans HB1.out ho2.1)
    have HO2 := hid (owns_mono ho2.2 (show w.heap.size + 2 ≤ w1.heap.size by omega))
    have hk2 := blk_three (blk_below HK1.out ho2.1)
    obtain ⟨⟨p0, p1, p2⟩, f0, f1, f2⟩ := hk2
    clear ho2 CT HB1 HK1 k0 k1 k2
    unfold decV
    go_wp2
    refine bodyPost_ret (v := .tuple #[decV d a2 c2, .int .i64 0]) (by simp [results, Tryz.results65, go_sem, p0, p1, p2, decV]) rfl ?_
    rw [HR.out]
    refine ⟨a2, c2, rfl, ?_, ?_⟩
    · exact ((HB2.out.setCell (Nat.le_succ _) _).setCell (Nat.le_succ _) _).setCell (Nat.le_succ _) _
    · exact owns_mono (owns_set3 (R := w.heap.size + 1) HO2.out (by omega) _ _ _) (by omega)
  · have hf' : fitsB d = false := by simpa using hf
    rw [hf'] at CF
    rw [tell_no hf] at hr
    have HR := hid hr
    replace CF := hid CF
    clear hf hr hf'
    go_enter Tryz.func65, Tryz.ntmps65
    go_wp2_with fail
    refine (CF.out _).mono ?_
    rintro e1 w1 ⟨rfl, hb1⟩
    have HB1 := hid (below_alloc (below_alloc hb1))
    have hk2 := blk_three (blk_below (blk_new2 w _ _) hb1)
    obtain ⟨⟨p0, p1, p2⟩, f0, f1, f2⟩ := hk2
    clear hb1 CF
    go_wp2
    refine bodyPost_ret (v := .tuple #[decV zeroD none 0, .int .i64 3]) (by simp [results, Tryz.results65, go_sem, p0, p1, p2, decV, zeroD]; rfl) rfl ?_
    rw [HR.out]
    refine ⟨none, 0, rfl, ?_, World.ownsRow_nil _ _ _ _⟩
    exact ((HB1.out.setCell (Nat.le_succ _) _).setCell (Nat.le_succ _) _).setCell (Nat.le_succ _) _

end Go.Proofs.YtmdgciolnpkccaaGreatDoor
