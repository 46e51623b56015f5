/- Layer 2, eleventh part: sign, told, both. -/
import Derived.Test.YtmdgciolnpkccaaGreatDoorDecJ
namespace Go.Proofs.YtmdgciolnpkccaaGreatDoor
open Go.RowKit

def signD (d : D) : Int := if d.m = 0 then 0 else if d.neg = true then -1 else 1

theorem limbs_zero_iff (m : Nat) : (Num.limbs m).length = 0 ↔ m = 0 := by
  rw [List.length_eq_zero_iff]; exact Num.digs_eq_nil Num.two_le_B9

theorem dec_sign (d : D) (a : Option Addr) (cap : Nat) (w : World) :
    Calls Tryz.prog 113 #[decV d a cap] w fun en w' => en = .returned (.int .i64 (signD d)) ∧ Below w.heap.size w w' := by
  unfold decV signD
  by_cases h0 : d.m = 0
  · have h1 := (limbs_zero_iff d.m).2 h0
    rw [if_pos h0, h1]
    clear h0 h1
    go_enter Tryz.func113, Tryz.ntmps113
    go_wp2
    go_ret
    exact ⟨rfl, (Below.refl _ _).alloc (Nat.le_refl _) _⟩
  · rw [if_neg h0]
    have h1 : (((Num.limbs d.m).length : Int) == 0) = false := by
      rw [beq_eq_false_iff_ne]; intro e; exact h0 ((limbs_zero_iff d.m).1 (by omega))
    obtain ⟨n, hn⟩ : ∃ n, n = (Num.limbs d.m).length := ⟨_, rfl⟩
    rw [← hn] at h1 ⊢
    clear h0 hn
    obtain ⟨g, m, e⟩ := d
    simp only
    cases g
    all_goals
      go_enter Tryz.func113, Tryz.ntmps113
      go_wp2
      go_ret
      exact ⟨rfl, (Below.refl _ _).alloc (Nat.le_refl _) _⟩

set_option maxRecDepth 100000 in
theorem dec_told (d : D) (a : Option Addr) (cap : Nat) (w : World) (h : InD w d a cap) (hl : (Num.limbs d.m).length ≤ 10000000) (he : -3000000 ≤ d.e ∧ d.e ≤ 3000000) (htab : Pow w) :
    Calls Tryz.prog 108 #[decV d a cap] w fun en w' =>
      (en = .returned (if fitsB d = true then .tuple #[decV d a cap, .int .i64 0] else .tuple #[decV zeroD none 0, .int .i64 3])) ∧ Below w.heap.size w w' := by
  have CF := fun W (hb : Below w.heap.size w W) => dec_fits d a cap W (h.below hb) hl he (htab.next hb)
  by_cases hf : fitsB d = true
  · rw [if_pos hf]
    rw [hf] at CF
    have CF := hid CF
    clear h hl he htab hf
    unfold decV at CF ⊢
    go_enter Tryz.func108, Tryz.ntmps108
    go_wp2_with fail
    refine (CF.out _ (((Below.refl _ _).alloc (Nat.le_refl _) _).alloc (by simp) _)).mono ?_
    rintro e1 w1 ⟨rfl, hb1⟩
    have HB1 := hid (below_alloc (below_alloc hb1))
    have hk := blk_three (blk_below (blk_alloc (blk_new w _) _) hb1)
    have hk2 := blk_three (blk_below (blk_new2 w _ _) hb1)
    obtain ⟨⟨k0, k1, k2⟩, _⟩ := hk
    obtain ⟨⟨p0, p1, p2⟩, f0, f1, f2⟩ := hk2
    clear hb1 CF
    go_wp2
    refine bodyPost_ret (v := .tuple #[.agg #[.bool d.neg, .slice a (Num.limbs d.m).length cap, .int .i64 d.e], .int .i64 0]) (by simp [results, Tryz.results108, go_sem, p0, p1, p2]) rfl ⟨rfl, ?_⟩
    exact ((HB1.out.setCell (Nat.le_succ _) _).setCell (Nat.le_succ _) _).setCell (Nat.le_succ _) _
  · rw [if_neg hf]
    have hf' : fitsB d = false := by simpa using hf
    rw [hf'] at CF
    have CF := hid CF
    clear h hl he htab hf hf'
    unfold decV at CF ⊢
    go_enter Tryz.func108, Tryz.ntmps108
    go_wp2_with fail
    refine (CF.out _ (((Below.refl _ _).alloc (Nat.le_refl _) _).alloc (by simp) _)).mono ?_
    rintro e1 w1 ⟨rfl, hb1⟩
    have HB1 := hid (below_alloc (below_alloc hb1))
    have hk := blk_three (blk_below (blk_alloc (blk_new w _) _) hb1)
    have hk2 := blk_three (blk_below (blk_new2 w _ _) hb1)
    obtain ⟨⟨k0, k1, k2⟩, _⟩ := hk
    obtain ⟨⟨p0, p1, p2⟩, f0, f1, f2⟩ := hk2
    clear hb1 CF
    go_wp2
    refine bodyPost_ret (v := .tuple #[.agg #[.bool zeroD.neg, .slice none (Num.limbs zeroD.m).length 0, .int .i64 zeroD.e], .int .i64 3]) (by simp [results, Tryz.results108, go_sem, p0, p1, p2, zeroD]; rfl) rfl ⟨rfl, ?_⟩
    exact ((HB1.out.setCell (Nat.le_succ _) _).setCell (Nat.le_succ _) _).setCell (Nat.le_succ _) _

/-- What both tells of errors. -/
def bothE (x y : Nat) : Nat := if x = 1 ∨ y = 1 then 1 else if x ≠ 0 then x else y
/-- Two numbers and an error, in memory of the call's own. -/
def OutDD (w : World) (x y : D) (err : Nat) (e : Ending) (w' : World) : Prop :=
  ∃ a1 c1 a2 c2, e = .returned (.tuple #[decV x a1 c1, decV y a2 c2, .int .i64 err]) ∧ OwnD w w' x a1 c1 ∧ OwnD w w' y a2 c2

set_option maxRecDepth 100000 in
set_option maxHeartbeats 1600000 in
theorem dec_both (g : Bool) (a : Option Addr) (cap : Nat) (e : Int) (xs : List Nat) (g2 : Bool) (a2 : Option Addr) (cap2 : Nat) (e2 : Int) (ys : List Nat) (w : World) (h : U32 w a xs) (h2 : U32 w a2 ys) (htab : Pow w) :
    Calls Tryz.prog 105 #[.agg #[.bool g, .slice a xs.length cap, .int .i64 e], .agg #[.bool g2, .slice a2 ys.length cap2, .int .i64 e2]] w
      (OutDD w (takenD g xs.length (Num.worth xs) e) (takenD g2 ys.length (Num.worth ys) e2) (bothE (takenE g xs.length (Num.worth xs) e) (takenE g2 ys.length (Num.worth ys) e2))) := by
  have C1 := fun W (hb : Below w.heap.size w W) => dec_taken g a cap e xs W (h.below hb) (htab.next hb)
  have C2 := fun W (hb : Below w.heap.size w W) => dec_taken g2 a2 cap2 e2 ys W (h2.below hb) (htab.next hb)
  obtain ⟨x, hx⟩ : ∃ x, x = takenD g xs.length (Num.worth xs) e := ⟨_, rfl⟩
  obtain ⟨y, hy⟩ : ∃ y, y = takenD g2 ys.length (Num.worth ys) e2 := ⟨_, rfl⟩
  obtain ⟨ex, hex⟩ : ∃ x, x = takenE g xs.length (Num.worth xs) e := ⟨_, rfl⟩
  obtain ⟨ey, hey⟩ : ∃ y, y = takenE g2 ys.length (Num.worth ys) e2 := ⟨_, rfl⟩
  obtain ⟨n, hn⟩ : ∃ n, n = xs.length := ⟨_, rfl⟩
  obtain ⟨n2, hn2⟩ : ∃ n, n = ys.length := ⟨_, rfl⟩
  rw [← hx, ← hex] at C1
  rw [← hy, ← hey] at C2
  rw [← hx, ← hy, ← hex, ← hey]
  rw [← hn] at C1 ⊢
  rw [← hn2] at C2 ⊢
  have C1 := hid C1
  have C2 := hid C2
  obtain ⟨er, her⟩ : ∃ er, er = bothE ex ey := ⟨_, rfl⟩
  rw [← her]
  have HER := hid her
  clear h h2 htab hx hy hex hey hn hn2 her
  go_enter Tryz.func105, Tryz.ntmps105
  go_wp2_with fail
  refine (C1.out _ (((((Below.refl _ _).alloc (Nat.le_refl _) _).alloc (by simp) _).alloc (by simp; omega) _).alloc (by simp; omega) _)).mono ?_
  rintro e1 w1 ⟨b1, c1, rfl, ho1⟩
  have HB1 := hid (below_alloc (below_alloc (below_alloc (below_alloc ho1.1))))
  have hz1 : w.heap.size + 1 + 1 + 1 + 1 ≤ w1.heap.size := by simpa using ho1.1.size
  have HO1 := hid (owns_mono ho1.2 (show w.heap.size + 1 + 1 + 1 + 1 ≤ _ by simp))
  have hk := blk_three (blk_below (blk_alloc (blk_alloc (blk_new2 w _ _) _) _) ho1.1)
  have HK2 := hid (show w1.heap[w.heap.size + 1 + 1]? = _ by simpa using blk_below (blk_alloc (blk_new2 (w.alloc _) _ _) _) ho1.1)
  have HK3 := hid (show w1.heap[w.heap.size + 1 + 1 + 1]? = _ by simpa using blk_below (blk_new2 ((w.alloc _).alloc _) _ _) ho1.1)
  obtain ⟨⟨k0, k1, k2⟩, _⟩ := hk
  have hz2 : w.heap.size + 1 < w1.heap.size := by omega
  clear ho1 C1
  unfold decV
  go_wp2_with fail
  refine (C2.out _ (HB1.out.alloc (HB1.out.size) _)).mono ?_
  rintro e2 w2 ⟨b2, c2, rfl, ho2⟩
  have hb2 := below_alloc ho2.1
  have HB2 := hid (below_trans HB1.out hb2)
  have HO2 := hid (owns_below HO1.out hb2)
  have HP2 := hid (owns_mono ho2.2 (show w.heap.size + 1 + 1 + 1 + 1 ≤ _ by simp; omega))
  have h7 := blk_three (blk_below (blk_new w1 _) ho2.1)
  have h4 := blk_three (blk_below HK2.out hb2)
  have h5 := blk_three (blk_below HK3.out hb2)
  have hz3 : w1.heap.size < w2.heap.size := by have := ho2.1.size; simp at this; omega
  have hz4 : w.heap.size + 1 + 1 < w2.heap.size := by omega
  have hz5 : w.heap.size + 1 + 1 + 1 < w2.heap.size := by omega
  have hz6 : w.heap.size + 1 + 1 < w1.heap.size := by omega
  have hz7 : w.heap.size + 1 + 1 + 1 < w1.heap.size := by omega
  clear ho2 hb2 HB1 HO1 HK2 HK3 C2 k0 k1 k2
  obtain ⟨⟨k0, k1, k2⟩, _⟩ := h7
  obtain ⟨⟨p0, p1, p2⟩, pf0, pf1, pf2⟩ := h4
  obtain ⟨⟨q0, q1, q2⟩, qf0, qf1, qf2⟩ := h5
  unfold decV
  have b6 : ∀ X, Below w.heap.size w (((((((w2.setCell { block := w.heap.size + 1 + 1, off := 0 } (Value.bool x.neg)).setCell { block := w.heap.size + 1 + 1, off := 1 } (Value.slice b1 (Num.limbs x.m).length c1)).setCell { block := w.heap.size + 1 + 1, off := 2 } (Value.int IntKind.i64 x.e)).setCell { block := w.heap.size + 1 + 1 + 1, off := 0 } (Value.bool y.neg)).setCell { block := w.heap.size + 1 + 1 + 1, off := 1 } (Value.slice b2 (Num.limbs y.m).length c2)).setCell { block := w.heap.size + 1 + 1 + 1, off := 2 } (Value.int IntKind.i64 y.e)).alloc X).drew := fun X =>
    ((((((((HB2.out.setCell (by simp only; omega) _).setCell (by simp only; omega) _).setCell (by simp only; omega) _).setCell (by simp only; omega) _).setCell (by simp only; omega) _).setCell (by simp only; omega) _).alloc (by simpa using HB2.out.size) _).drew)
  have own6 : ∀ (X : Obj) {v : Value} {k : Nat} {zs : List Value}, w2.ownsRow (w.heap.size + 1 + 1 + 1 + 1) 70 1 v k zs → (((((((w2.setCell { block := w.heap.size + 1 + 1, off := 0 } (Value.bool x.neg)).setCell { block := w.heap.size + 1 + 1, off := 1 } (Value.slice b1 (Num.limbs x.m).length c1)).setCell { block := w.heap.size + 1 + 1, off := 2 } (Value.int IntKind.i64 x.e)).setCell { block := w.heap.size + 1 + 1 + 1, off := 0 } (Value.bool y.neg)).setCell { block := w.heap.size + 1 + 1 + 1, off := 1 } (Value.slice b2 (Num.limbs y.m).length c2)).setCell { block := w.heap.size + 1 + 1 + 1, off := 2 } (Value.int IntKind.i64 y.e)).alloc X).drew.ownsRow (w.heap.size + 1 + 1 + 1 + 1) 70 1 v k zs := fun X v k zs h =>
    owns_below (ownsRow_setCell_below (ownsRow_setCell_below (ownsRow_setCell_below (ownsRow_setCell_below (ownsRow_setCell_below (ownsRow_setCell_below h (by simp only; omega) _) (by simp only; omega) _) (by simp only; omega) _) (by simp only; omega) _) (by simp only; omega) _) (by simp only; omega) _) (((Below.refl _ _).alloc (Nat.le_refl _) X).drew)
  have HBE := hid (b6 (Obj.cells #[Value.bool y.neg, Value.slice b2 (Num.limbs y.m).length c2, Value.int IntKind.i64 y.e] 25))
  have HOE := hid (own6 (Obj.cells #[Value.bool y.neg, Value.slice b2 (Num.limbs y.m).length c2, Value.int IntKind.i64 y.e] 25) HO2.out)
  have HPE := hid (own6 (Obj.cells #[Value.bool y.neg, Value.slice b2 (Num.limbs y.m).length c2, Value.int IntKind.i64 y.e] 25) HP2.out)
  clear b6 own6
  by_cases hx1 : ex = 1
  · subst hx1
    have HR := hid (show er = 1 by rw [HER.out]; unfold bothE; rw [if_pos (.inl rfl)])
    go_wp2_with fail
    go_region
    go_wp2_with fail
    refine bodyPost_ret (v := .tuple #[decV x b1 c1, decV y b2 c2, .int .i64 er]) (by rw [HR.out]; simp [results, Tryz.results105, go_sem, p0, p1, p2, q0, q1, q2, decV, hz4, hz5]) rfl ?_
    refine ⟨b1, c1, b2, c2, rfl, ⟨?_, ?_⟩, ⟨?_, ?_⟩⟩
    · exact HBE.out
    · exact owns_mono HOE.out (by omega)
    · exact HBE.out
    · exact owns_mono HPE.out (by omega)
  · have hn1 : ((ex : Int) == 1) = false := by rw [beq_eq_false_iff_ne]; omega
    by_cases hy1 : ey = 1
    · subst hy1
      have HR := hid (show er = 1 by rw [HER.out]; unfold bothE; rw [if_pos (.inr rfl)])
      go_wp2_with fail
      go_region
      go_wp2_with fail
      refine bodyPost_ret (v := .tuple #[decV x b1 c1, decV y b2 c2, .int .i64 er]) (by rw [HR.out]; simp [results, Tryz.results105, go_sem, p0, p1, p2, q0, q1, q2, decV, hz4, hz5]) rfl ?_
      refine ⟨b1, c1, b2, c2, rfl, ⟨?_, ?_⟩, ⟨?_, ?_⟩⟩
      · exact HBE.out
      · exact owns_mono HOE.out (by omega)
      · exact HBE.out
      · exact owns_mono HPE.out (by omega)
    · have hn2 : ((ey : Int) == 1) = false := by rw [beq_eq_false_iff_ne]; omega
      by_cases hx0 : ex = 0
      · subst hx0
        have HR := hid (show er = ey by rw [HER.out]; unfold bothE; rw [if_neg (by omega), if_neg (by omega)])
        go_wp2_with fail
        go_region
        go_wp2_with fail
        refine bodyPost_ret (v := .tuple #[decV x b1 c1, decV y b2 c2, .int .i64 er]) (by rw [HR.out]; simp [results, Tryz.results105, go_sem, p0, p1, p2, q0, q1, q2, decV, hz4, hz5]) rfl ?_
        refine ⟨b1, c1, b2, c2, rfl, ⟨?_, ?_⟩, ⟨?_, ?_⟩⟩
        · exact HBE.out
        · exact owns_mono HOE.out (by omega)
        · exact HBE.out
        · exact owns_mono HPE.out (by omega)
      · have hn3 : ((ex : Int) != 0) = true := by rw [bne_iff_ne]; omega
        have HR := hid (show er = ex by rw [HER.out]; unfold bothE; rw [if_neg (by omega), if_pos hx0])
        go_wp2_with fail
        go_region
        go_wp2_with fail
        refine bodyPost_ret (v := .tuple #[decV x b1 c1, decV y b2 c2, .int .i64 er]) (by rw [HR.out]; simp [results, Tryz.results105, go_sem, p0, p1, p2, q0, q1, q2, decV, hz4, hz5]) rfl ?_
        refine ⟨b1, c1, b2, c2, rfl, ⟨?_, ?_⟩, ⟨?_, ?_⟩⟩
        · exact HBE.out
        · exact owns_mono HOE.out (by omega)
        · exact HBE.out
        · exact owns_mono HPE.out (by omega)

end Go.Proofs.YtmdgciolnpkccaaGreatDoor
