/- ValueCmps: the law, walked. -/
import Derived.Test.YtgbgkodjjgjhgaaGreatDoorLawVBack
import Derived.Test.YtgbgkodjjgjhgaaGreatDoorMv
namespace Go.Proofs.YtgbgkodjjgjhgaaGreatDoor
open Go.RowKit

set_option maxRecDepth 100000 in
set_option maxHeartbeats 6400000 in
theorem law_ValueCmps (v : JV) (cv : List Value) (x : JV) (cx : List Value) (w : World) (sv : SmallV v) (rv : RdV w cv v) (sx : SmallV x) (rx : RdV w cx x) (hT : Tabs w) :
    Calls Tryz.prog 3 #[.agg cv.toArray, .agg cx.toArray] w fun en w' => en = .returned (.bool true) ∧ Below w.heap.size w w' := by
  have hS := hid fun W (hb : Below w.heap.size w W) => law11_shown W (hT.below hb)
  have hC1 := hid fun W (hb : Below w.heap.size w W) => value_Cmp v x cv cx W sv sx (rv.stay hb) (rx.stay hb) (hT.below hb)
  have hC2 := hid fun W (hb : Below w.heap.size w W) => ref11_Cmp v x cv cx W sv sx (rv.stay hb) (rx.stay hb)
  generalize (cmpVR v x).1 = R at *
  generalize (((cmpVR v x).2 : Nat) : Int) = E at *
  obtain ⟨k1, g1, a1, l1, c1, e1, s1, aa1, an1, ac1, oa1, on1, oc1, rfl⟩ := rv.seven
  obtain ⟨k2, g2, a2, l2, c2, e2, s2, aa2, an2, ac2, oa2, on2, oc2, rfl⟩ := rx.seven
  unfold valCs strV at *
  generalize (⟨s1.toArray⟩ : ByteArray) = sb1 at *
  generalize (⟨s2.toArray⟩ : ByteArray) = sb2 at *
  clear rv rx
  obtain ⟨W, hW⟩ : ∃ W, W = (w.alloc (.cells #[.int .i64 k1, .bool g1, .slice a1 l1 c1, .int .i64 e1, .string sb1, .slice aa1 an1 ac1, .slice oa1 on1 oc1] 28)).alloc (.cells #[.int .i64 k2, .bool g2, .slice a2 l2 c2, .int .i64 e2, .string sb2, .slice aa2 an2 ac2, .slice oa2 on2 oc2] 28) := ⟨_, rfl⟩
  have hB := hid (show Below w.heap.size w W by rw [hW]; exact alloc_below2 _ _ _)
  have hX : Hid (W.heap[w.heap.size]? = some (.cells #[.int .i64 k1, .bool g1, .slice a1 l1 c1, .int .i64 e1, .string sb1, .slice aa1 an1 ac1, .slice oa1 on1 oc1] 28)) := by
    rw [hW]; exact blk_alloc (blk_new w _) _
  have hY : Hid (W.heap[w.heap.size + 1]? = some (.cells #[.int .i64 k2, .bool g2, .slice a2 l2 c2, .int .i64 e2, .string sb2, .slice aa2 an2 ac2, .slice oa2 on2 oc2] 28)) := by
    rw [hW]; exact blk_new2 w _ _
  replace hW := hid hW.symm
  show Calls _ _ #[.agg #[.int .i64 k1, .bool g1, .slice a1 l1 c1, .int .i64 e1, .string sb1, .slice aa1 an1 ac1, .slice oa1 on1 oc1], .agg #[.int .i64 k2, .bool g2, .slice a2 l2 c2, .int .i64 e2, .string sb2, .slice aa2 an2 ac2, .slice oa2 on2 oc2]] w _
  go_enter Tryz.func3, Tryz.ntmps3
  go_wp2_with fail
  rw [hW.out]
  refine (hS.out _ hB.out).mono ?_
  rintro en w1 ⟨rfl, hb⟩
  have hB1 := hid (below_trans hB.out hb)
  have hX1 := hid (blk_below hX.out hb)
  have hY1 := hid (blk_below hY.out hb)
  clear hb hX hY hB hS
  obtain ⟨⟨p0, p1, p2, p3, p4, p5, p6⟩, _⟩ := blk_seven hX1.out
  obtain ⟨⟨q0, q1, q2, q3, q4, q5, q6⟩, _⟩ := blk_seven hY1.out
  go_wp2_with fail
  refine (hC1.out _ hB1.out).mono ?_
  rintro en w2 ⟨rfl, hb⟩
  have hB2 := hid (below_trans hB1.out hb)
  have hX2 := hid (blk_below hX1.out hb)
  have hY2 := hid (blk_below hY1.out hb)
  clear hb hX1 hY1 hB1 hC1 p0 p1 p2 p3 p4 p5 p6 q0 q1 q2 q3 q4 q5 q6
  obtain ⟨⟨p0, p1, p2, p3, p4, p5, p6⟩, _⟩ := blk_seven hX2.out
  obtain ⟨⟨q0, q1, q2, q3, q4, q5, q6⟩, _⟩ := blk_seven hY2.out
  go_wp2_with fail
  refine (hC2.out _ hB2.out).mono ?_
  rintro en w3 ⟨rfl, hb⟩
  have hB3 := hid (below_trans hB2.out hb)
  clear hb hX2 hY2 hB2 hC2 p0 p1 p2 p3 p4 p5 p6 q0 q1 q2 q3 q4 q5 q6
  have f1 : (R == R) = true := by rw [beq_iff_eq]
  have f2 : (E == E) = true := by rw [beq_iff_eq]
  go_wp2_with fail
  go_ret
  exact ⟨by first | rfl | simp, hB3.out⟩

end Go.Proofs.YtgbgkodjjgjhgaaGreatDoor
