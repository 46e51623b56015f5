/- The document's answer, ninth part, continued: Two. -/
import Derived.Test.YtgbgkodjjgjhgaaGreatDoorMg
import Derived.Deep.CutBlock
namespace Go.Proofs.YtgbgkodjjgjhgaaGreatDoor
open Go.RowKit

theorem RdD.drew {w : World} {d : D} {a : Option Addr} {cap : Nat} (h : RdD w d a cap) : RdD w.drew d a cap := ⟨⟨h.1.row.drewN 1, h.1.lt⟩, h.2⟩
theorem two_fin {w wc W : World} {x y : D} {b b2 : Option Addr} {c c2 R1 R2 : Nat} (hb : Below w.heap.size w wc) (r1 : Rec wc R1) (r2 : Rec wc R2) (hx : RdD wc x b c) (hy : RdD wc y b2 c2) (h1 : w.heap.size ≤ R1) (h2 : w.heap.size ≤ R2) (h3 : R2 ≠ R1)
    (hW : W = (put3 (put3 wc R1 x.neg b (Num.digs 10 x.m).length c x.e) R2 y.neg b2 (Num.digs 10 y.m).length c2 y.e).drew) : Below w.heap.size w W ∧ RdD W x b c ∧ RdD W y b2 c2 := by
  have rb := r2.other h3 x.neg b (Num.digs 10 x.m).length c x.e
  have k1 := (hx.put r1 x.neg b (Num.digs 10 x.m).length c x.e).put rb y.neg b2 (Num.digs 10 y.m).length c2 y.e
  have k2 := (hy.put r1 x.neg b (Num.digs 10 x.m).length c x.e).put rb y.neg b2 (Num.digs 10 y.m).length c2 y.e
  have k3 := below_put (below_put hb h1 x.neg b (Num.digs 10 x.m).length c x.e) h2 y.neg b2 (Num.digs 10 y.m).length c2 y.e
  subst hW
  exact ⟨k3.drew, k1.drew, k2.drew⟩
/-- Two numbers of the document's answer, and an error. -/
def OutRDD (w : World) (x y : D) (err : Nat) (e : Ending) (w' : World) : Prop :=
  ∃ a1 c1 a2 c2, e = .returned (.tuple #[refV x a1 c1, refV y a2 c2, .int .i64 err]) ∧ Below w.heap.size w w' ∧ RdD w' x a1 c1 ∧ RdD w' y a2 c2

set_option maxRecDepth 100000 in
set_option maxHeartbeats 3200000 in
theorem ref2_Two (g : Bool) (a : Option Addr) (cap : Nat) (e : Int) (xs : List Nat) (g2 : Bool) (a2 : Option Addr) (cap2 : Nat) (e2 : Int) (ys : List Nat) (w : World) (h : U32 w a xs) (h2 : U32 w a2 ys) :
    Calls Tryz.prog 71 #[.agg #[.bool g, .slice a xs.length cap, .int .i64 e], .agg #[.bool g2, .slice a2 ys.length cap2, .int .i64 e2]] w
      (OutRDD w (takenD g xs.length (Num.worth xs) e) (takenD g2 ys.length (Num.worth ys) e2) (bothE (takenE g xs.length (Num.worth xs) e) (takenE g2 ys.length (Num.worth ys) e2))) := by
  have C1 := fun W (hb : Below w.heap.size w W) => ref2_Take g a cap e xs W (h.below hb)
  have C2 := fun W (hb : Below w.heap.size w W) => ref2_Take g2 a2 cap2 e2 ys W (h2.below hb)
  obtain ⟨x, hx⟩ : ∃ x, x = takenD g xs.length (Num.worth xs) e := ⟨_, rfl⟩
  obtain ⟨y, hy⟩ : ∃ y, y = takenD g2 ys.length (Num.worth ys) e2 := ⟨_, rfl⟩
  obtain ⟨ex, hex⟩ : ∃ x, x = takenE g xs.length (Num.worth xs) e := ⟨_, rfl⟩
  obtain ⟨ey, hey⟩ : ∃ y, y = takenE g2 ys.length (Num.worth ys) e2 := ⟨_, rfl⟩
  obtain ⟨n, hn⟩ : ∃ n, n = xs.length := ⟨_, rfl⟩
  obtain ⟨n2, hn2⟩ : ∃ n, n = ys.length := ⟨_, rfl⟩
  rw [← hx, ← hex] at C1
  rw [← hy, ← hey] at C2
  rw [← hx, ← hy, ← hex, ← hey]
  rw [← hn] at C1 ⊢
  rw [← hn2] at C2 ⊢
  replace C1 := hid C1
  replace C2 := hid C2
  obtain ⟨er, her⟩ : ∃ er, er = bothE ex ey := ⟨_, rfl⟩
  rw [← her]
  have HER := hid her
  clear h h2 hx hy hex hey hn hn2 her
  go_enter Tryz.func71, Tryz.ntmps71
  go_upto_region 1 with fail
  go_cut [3, 4, 5, 7, 8] from 11 (fun v3 v4 v5 v7 v8 w' => ∃ N b c, v3 = .pointer (some ⟨w.heap.size + 1, 0, none⟩) ∧ v4 = .pointer (some ⟨w.heap.size + 1 + 1, 0, none⟩) ∧ v5 = .pointer (some ⟨w.heap.size + 1 + 1 + 1, 0, none⟩) ∧ v7 = .pointer (some ⟨N, 0, none⟩) ∧ v8 = .int .i64 ex ∧ w'.heap[N]? = some (.cells #[.bool x.neg, .slice b (Num.digs 10 x.m).length c, .int .i64 x.e] 95) ∧ RdD w' x b c ∧ Rec w' (w.heap.size + 1 + 1) ∧ Rec w' (w.heap.size + 1 + 1 + 1) ∧
    w'.heap[w.heap.size + 1]? = some (.cells #[.bool g2, .slice a2 n2 cap2, .int .i64 e2] 24) ∧ w.heap.size + 1 + 1 + 1 < N ∧ Below w.heap.size w w')
  case first =>
    go_wp2_with fail
    refine (C1.out _ (((((Below.refl _ _).alloc (Nat.le_refl _) _).alloc (by simp) _).alloc (by simp; omega) _).alloc (by simp; omega) _)).mono ?_
    rintro e1 w1 ⟨b1, c1, rfl, hb1, hr1⟩
    have HB1 := hid (below_alloc (below_alloc (below_alloc (below_alloc hb1))))
    have hz : w.heap.size + 1 + 1 + 1 + 1 ≤ w1.heap.size := by simpa using hb1.size
    have HR1 := hid ((show Rec ((((w.alloc _).alloc _).alloc _).alloc _) (w.heap.size + 1 + 1) from ⟨_, _, _, _, _, _, by simpa using blk_alloc (blk_new2 (w.alloc _) _ _) _⟩).below hb1)
    have HR2 := hid ((show Rec ((((w.alloc _).alloc _).alloc _).alloc _) (w.heap.size + 1 + 1 + 1) from ⟨_, _, _, _, _, _, by simpa using blk_new2 ((w.alloc _).alloc _) _ _⟩).below hb1)
    have HY := hid (blk_below (blk_alloc (blk_alloc (blk_new2 w _ _) _) _) hb1)
    have HI := hid hr1
    clear hb1 hr1 C1
    unfold refV
    go_wp2_with fail
    go_meet
    case rel =>
      have k1 := (Below.refl w1.heap.size w1).alloc (Nat.le_refl _) (.cells #[.bool x.neg, .slice b1 (Num.digs 10 x.m).length c1, .int .i64 x.e] 95)
      exact ⟨w1.heap.size, b1, c1, rfl, rfl, rfl, rfl, rfl, blk_new w1 _, HI.out.below k1, HR1.out.below k1, HR2.out.below k1, blk_below HY.out k1, by omega, below_trans HB1.out k1⟩
  case rest =>
    obtain ⟨N, b, c, rfl, rfl, rfl, rfl, rfl, hN, hrx, hR1, hR2, hyb, hNl, hb⟩ := hcut
    have HN := hid hN
    have HRX := hid hrx
    have HR1 := hid hR1
    have HR2 := hid hR2
    have HY := hid hyb
    have HB := hid hb
    have hyl := blk_lt hyb
    clear hN hrx hR1 hR2 hyb hb C1
    go_upto_region 2 with fail
    go_cut [7, 9, 10] from 11 (fun v7 v9 v10 w' => ∃ M b2 c2, v7 = .pointer (some ⟨N, 0, none⟩) ∧ v9 = .pointer (some ⟨M, 0, none⟩) ∧ v10 = .int .i64 ey ∧ w'.heap[M]? = some (.cells #[.bool y.neg, .slice b2 (Num.digs 10 y.m).length c2, .int .i64 y.e] 95) ∧ RdD w' y b2 c2 ∧ w.heap.size + 1 + 1 + 1 < M ∧ Below wc.heap.size wc w')
    case first =>
      obtain ⟨⟨k0, k1, k2⟩, _⟩ := blk_three HY.out
      go_wp2_with fail
      refine (C2.out _ HB.out).mono ?_
      rintro e1 w1 ⟨b1, c1, rfl, hb1, hr1⟩
      have HB1 := hid hb1
      have HI := hid hr1
      have hz1 : w.heap.size + 1 + 1 + 1 < w1.heap.size := by have := HR2.out.lt; have := hb1.size; omega
      clear hb1 hr1 C2 k0 k1 k2
      unfold refV
      go_wp2_with fail
      go_meet
      case rel =>
        have k1 := (Below.refl w1.heap.size w1).alloc (Nat.le_refl _) (.cells #[.bool y.neg, .slice b1 (Num.digs 10 y.m).length c1, .int .i64 y.e] 95)
        exact ⟨w1.heap.size, b1, c1, rfl, rfl, rfl, blk_new w1 _, HI.out.below k1, by omega, below_trans HB1.out k1⟩
    case rest =>
      obtain ⟨M, b2, c2, rfl, rfl, rfl, hM, hry, hMl, hb⟩ := hcut
      replace HN := hid (blk_below HN.out hb)
      replace HRX := hid (HRX.out.below hb)
      replace HR1 := hid (HR1.out.below hb)
      replace HR2 := hid (HR2.out.below hb)
      replace HB := hid (below_trans HB.out hb)
      have HM := hid hM
      have HRY := hid hry
      clear hM hry hb HY hyl
      obtain ⟨⟨k0, k1, k2⟩, _⟩ := blk_three HN.out
      obtain ⟨⟨q0, q1, q2⟩, _⟩ := blk_three HM.out
      obtain ⟨r0, r1, r2, p0, p1, p2⟩ := HR1.out.cells.get
      have f0 := HR1.out.cells.frozen 0
      have f1 := HR1.out.cells.frozen 1
      have f2 := HR1.out.cells.frozen 2
      obtain ⟨t0, t1, t2, s0, s1, s2⟩ := HR2.out.cells.get
      have g0 := HR2.out.cells.frozen 0
      have g1 := HR2.out.cells.frozen 1
      have g2 := HR2.out.cells.frozen 2
      have FIN := hid (fun W hW => two_fin (W := W) HB.out HR1.out HR2.out HRX.out HRY.out (by omega) (by omega) (by omega) hW)
      by_cases hx1 : ex = 1
      · have hi : ((ex : Int) == 1) = true := by simp [hx1]
        have HR := hid (show er = 1 by rw [HER.out]; unfold bothE; rw [if_pos (.inl hx1)])
        clear hx1
        go_wp2_with fail
        go_region
        go_wp2_with fail
        refine bodyPost_ret (v := .tuple #[refV x b c, refV y b2 c2, .int .i64 er]) (by rw [HR.out]; simp [results, Tryz.results71, go_sem, p0, p1, p2, s0, s1, s2, refV]) rfl ?_
        exact ⟨b, c, b2, c2, rfl, FIN.out _ rfl⟩
      · have hi : ((ex : Int) == 1) = false := by rw [beq_eq_false_iff_ne]; omega
        by_cases hy1 : ey = 1
        · have hj : ((ey : Int) == 1) = true := by simp [hy1]
          have HR := hid (show er = 1 by rw [HER.out]; unfold bothE; rw [if_pos (.inr hy1)])
          clear hx1 hy1
          go_wp2_with fail
          go_region
          go_wp2_with fail
          refine bodyPost_ret (v := .tuple #[refV x b c, refV y b2 c2, .int .i64 er]) (by rw [HR.out]; simp [results, Tryz.results71, go_sem, p0, p1, p2, s0, s1, s2, refV]) rfl ?_
          exact ⟨b, c, b2, c2, rfl, FIN.out _ rfl⟩
        · have hj : ((ey : Int) == 1) = false := by rw [beq_eq_false_iff_ne]; omega
          by_cases hx0 : ex = 0
          · have hne : ((ex : Int) != 0) = false := by rw [bne_eq_false_iff_eq]; omega
            have HR := hid (show er = ey by rw [HER.out]; unfold bothE; rw [if_neg (by omega), if_neg (by omega)])
            clear hx1 hy1 hx0
            go_wp2_with fail
            go_region
            go_wp2_with fail
            refine bodyPost_ret (v := .tuple #[refV x b c, refV y b2 c2, .int .i64 er]) (by rw [HR.out]; simp [results, Tryz.results71, go_sem, p0, p1, p2, s0, s1, s2, refV]) rfl ?_
            exact ⟨b, c, b2, c2, rfl, FIN.out _ rfl⟩
          · have hne : ((ex : Int) != 0) = true := by rw [bne_iff_ne]; omega
            have HR := hid (show er = ex by rw [HER.out]; unfold bothE; rw [if_neg (by omega), if_pos hx0])
            clear hx1 hy1 hx0
            go_wp2_with fail
            go_region
            go_wp2_with fail
            refine bodyPost_ret (v := .tuple #[refV x b c, refV y b2 c2, .int .i64 er]) (by rw [HR.out]; simp [results, Tryz.results71, go_sem, p0, p1, p2, s0, s1, s2, refV]) rfl ?_
            exact ⟨b, c, b2, c2, rfl, FIN.out _ rfl⟩

end Go.Proofs.YtgbgkodjjgjhgaaGreatDoor
