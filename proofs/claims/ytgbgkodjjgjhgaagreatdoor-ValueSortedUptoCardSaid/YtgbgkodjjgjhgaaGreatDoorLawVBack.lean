/- ValueBack: the law, walked. -/
import Derived.Test.YtgbgkodjjgjhgaaGreatDoorMp
import Derived.Test.YtgbgkodjjgjhgaaGreatDoorMn
namespace Go.Proofs.YtgbgkodjjgjhgaaGreatDoor
open Go.RowKit

/-- A value in a block of its own. -/
def BoxJ (W : World) (b : Nat) (x : JV) : Prop := ∃ (k : Int) (g : Bool) (a : Option Addr) (l c : Nat) (e : Int) (s : List UInt8) (aa : Option Addr) (an ac : Nat) (oa : Option Addr) (on oc : Nat), BoxV W b k g a l c e ⟨s.toArray⟩ aa an ac oa on oc ∧ RdV W (valCs k g a l c e s aa an ac oa on oc) x
theorem BoxJ.stay {W W' : World} {b : Nat} {x : JV} (h : BoxJ W b x) (hb : Below W.heap.size W W') : BoxJ W' b x := by
  obtain ⟨k, g, a, l, c, e, s, aa, an, ac, oa, on, oc, h1, h2⟩ := h
  exact ⟨k, g, a, l, c, e, s, aa, an, ac, oa, on, oc, h1.stay hb, h2.stay hb⟩
theorem rdv_kind {W : World} {k : Int} {g : Bool} {a : Option Addr} {l c : Nat} {e : Int} {s : List UInt8} {aa : Option Addr} {an ac : Nat} {oa : Option Addr} {on oc : Nat} {x : JV} (h : RdV W (valCs k g a l c e s aa an ac oa on oc) x) : k = x.kind := by
  obtain ⟨a', c', aa', ac', oa', oc', P⟩ := h.parts
  have := P.cells
  unfold valCs at this
  simp only [List.cons.injEq, Value.int.injEq, true_and] at this
  exact this.1
def St (w W : World) (l : List (Nat × JV)) : Prop := Below w.heap.size w W ∧ ∀ p ∈ l, BoxJ W p.1 p.2
theorem St.stay {w W W' : World} {l : List (Nat × JV)} (h : St w W l) (hb : Below W.heap.size W W') : St w W' l := ⟨below_trans h.1 hb, fun p hp => (h.2 p hp).stay hb⟩
theorem St.add {w W W' : World} {l : List (Nat × JV)} {x : JV} {k : Int} {g : Bool} {a : Option Addr} {ln c : Nat} {e : Int} {s : List UInt8} {aa : Option Addr} {an ac : Nat} {oa : Option Addr} {on oc : Nat} (h : St w W l) (hb : Below W.heap.size W W') (r : RdV W' (valCs k g a ln c e s aa an ac oa on oc) x) :
    St w (W'.alloc (.cells #[.int .i64 k, .bool g, .slice a ln c, .int .i64 e, .string ⟨s.toArray⟩, .slice aa an ac, .slice oa on oc] 28)) ((W'.heap.size, x) :: l) := by
  have hb2 := (Below.refl W'.heap.size W').alloc (Nat.le_refl _) (.cells #[.int .i64 k, .bool g, .slice a ln c, .int .i64 e, .string ⟨s.toArray⟩, .slice aa an ac, .slice oa on oc] 28)
  refine ⟨below_trans (below_trans h.1 hb) hb2, fun p hp => ?_⟩
  rcases List.mem_cons.1 hp with rfl | hp
  · exact ⟨k, g, a, ln, c, e, s, aa, an, ac, oa, on, oc, (blk_seven (blk_new W' _)).1, r.stay hb2⟩
  · exact ((h.2 p hp).stay hb).stay hb2
def NewJ (w W : World) (v e : Value) (x : JV) (err : Nat) (l : List (Nat × JV)) : Prop := ∃ b, v = .pointer (some ⟨b, 0, none⟩) ∧ e = .int .i64 err ∧ St w W ((b, x) :: l)

set_option maxRecDepth 100000 in
theorem law11_same (v u : JV) (cs ct : List Value) (w : World) (rv : RdV w cs v) (ru : RdV w ct u) : Calls Tryz.prog 15 #[.agg cs.toArray, .agg ct.toArray] w fun en w' => en = .returned (.bool (eqB v u)) ∧ Below w.heap.size w w' := by
  have C := fun W (hb : Below w.heap.size w W) => ref10_Same v u cs ct W (rv.stay hb) (ru.stay hb)
  obtain ⟨k, g, a, ln, c, e, s, aa, an, ac, oa, on, oc, rfl⟩ := rv.seven
  obtain ⟨k', g', a', ln', c', e', s', aa', an', ac', oa', on', oc', rfl⟩ := ru.seven
  clear rv ru
  generalize eqB v u = R at *
  unfold valCs strV at *
  generalize (⟨s.toArray⟩ : ByteArray) = sb at *
  generalize (⟨s'.toArray⟩ : ByteArray) = sb' at *
  replace C := hid C
  go_enter Tryz.func15, Tryz.ntmps15
  go_wp2_with fail
  refine (C.out _ (alloc_below2 _ _ _)).mono ?_
  rintro en w1 ⟨rfl, hb⟩
  have q := hid (below_trans (alloc_below2 _ _ _) hb)
  clear hb
  go_wp2
  go_ret
  exact ⟨rfl, q.out⟩

set_option maxRecDepth 100000 in
set_option maxHeartbeats 16000000 in
theorem law_ValueBack (v : JV) (cv : List Value) (key : List UInt8) (x : JV) (cx : List Value) (other : List UInt8) (w : World) (sv : SmallV v ∧ v.obj.length + 1 ≤ 1048576) (rv : RdV w cv v) (hkl : key.length ≤ 1048576) (sx : SmallV x ∧ x.obj.length + 1 ≤ 1048576) (rx : RdV w cx x) (hol : other.length ≤ 1048576) (hT : Tabs w) :
    Calls Tryz.prog 7 #[.agg cv.toArray, strV key, .agg cx.toArray, strV other] w fun en w' => en = .returned (.bool true) ∧ Below w.heap.size w w' := by
  obtain ⟨A, err, hA⟩ : ∃ A err, withR v key x = (A, err) := ⟨_, _, rfl⟩
  have hk9 : key.length ≤ 9223372036854775807 := by omega
  have ho9 : other.length ≤ 9223372036854775807 := by omega
  have hS := hid fun W (hb : Below w.heap.size w W) => law11_shown W (hT.below hb)
  obtain ⟨k1, g1, a1, l1, c1, e1, s1, aa1, an1, ac1, oa1, on1, oc1, rfl⟩ := rv.seven
  obtain ⟨k2, g2, a2, l2, c2, e2, s2, aa2, an2, ac2, oa2, on2, oc2, rfl⟩ := rx.seven
  obtain ⟨W, hW⟩ : ∃ W, W = (w.alloc (.cells #[.int .i64 k1, .bool g1, .slice a1 l1 c1, .int .i64 e1, .string ⟨s1.toArray⟩, .slice aa1 an1 ac1, .slice oa1 on1 oc1] 28)).alloc (.cells #[.int .i64 k2, .bool g2, .slice a2 l2 c2, .int .i64 e2, .string ⟨s2.toArray⟩, .slice aa2 an2 ac2, .slice oa2 on2 oc2] 28) := ⟨_, rfl⟩
  have hst0 : St w W [(w.heap.size + 1, x), (w.heap.size, v)] := by
    have h1 := St.add (l := []) (⟨Below.refl _ _, fun p hp => by cases hp⟩ : St w w []) (Below.refl _ _) rv
    have h2 := St.add h1 (Below.refl _ _) (rx.stay ((Below.refl w.heap.size w).alloc (Nat.le_refl _) _))
    rw [hW]
    simpa using h2
  have HT := hid hT
  have hst := hid hst0
  replace hW := hid hW.symm
  clear hst0 rv rx hT
  show Calls _ _ #[valV k1 g1 a1 l1 c1 e1 s1 aa1 an1 ac1 oa1 on1 oc1, strV key, valV k2 g2 a2 l2 c2 e2 s2 aa2 an2 ac2 oa2 on2 oc2, strV other] w _
  unfold valV strV
  go_enter Tryz.func7, Tryz.ntmps7
  go_upto_region 1 with fail
  go_cut [9] from 29 (fun v9 w' => v9 = .bool true ∧ St w w' [(w.heap.size + 1, x), (w.heap.size, v)])
  case first =>
    rw [hW.out]
    go_wp2_with fail
    refine (hS.out _ hst.out.1).mono ?_
    rintro en w1 ⟨rfl, hb⟩
    have q := hid (hst.out.stay hb)
    clear hb
    go_wp2_with fail
    go_meet
    case rel => exact ⟨rfl, q.out⟩
  case rest =>
  obtain ⟨rfl, g0⟩ := hcut
  replace hst := hid g0
  clear g0 hS hW
  obtain ⟨B0, hB0⟩ : ∃ B0, B0 = w.heap.size := ⟨_, rfl⟩
  obtain ⟨B1, hB1⟩ : ∃ B1, B1 = w.heap.size + 1 := ⟨_, rfl⟩
  rw [← hB1] at hst ⊢
  clear hB0 hB1
  go_upto_region 2 with fail
  go_cut [10, 11] from 29 (fun v1 v2 w' => NewJ w w' v1 v2 A err [(B1, x), (w.heap.size, v)])
  case first =>
    obtain ⟨k1, g1, a1, l1, c1, e1, s1, aa1, an1, ac1, oa1, on1, oc1, ⟨y10, y11, y12, y13, y14, y15, y16⟩, r1⟩ := hst.out.2 (w.heap.size, v) (by simp)
    obtain ⟨k2, g2, a2, l2, c2, e2, s2, aa2, an2, ac2, oa2, on2, oc2, ⟨y20, y21, y22, y23, y24, y25, y26⟩, r2⟩ := hst.out.2 (B1, x) (by simp)
    have C := hid ((by have h := value_With v x _ _ key wc hk9 sv.1 r1 r2 (HT.out.below hst.out.1); rw [hA] at h; exact h : Calls Tryz.prog 13 _ wc (OutV wc A err)))
    go_wp2_with fail
    refine C.out.mono ?_
    rintro en w1 ⟨cs1, rfl, rr, hb⟩
    obtain ⟨k9, g9, a9, l9, c9, e9, s9, aa9, an9, ac9, oa9, on9, oc9, rfl⟩ := rr.seven
    have hN : Hid (NewJ w _ (.pointer (some ⟨w1.heap.size, 0, none⟩)) (.int .i64 err) A err [(B1, x), (w.heap.size, v)]) := ⟨w1.heap.size, rfl, rfl, hst.out.add hb rr⟩
    unfold valCs at hN
    clear hb rr C
    unfold valCs strV
    go_wp2_with fail
    go_meet
    case rel => exact hN.out
  case rest =>
  obtain ⟨b10, rfl, rfl, g0⟩ := hcut
  replace hst := hid g0
  clear g0
  by_cases herr : err = 0
  rotate_left
  · have hnull : A = .null := by
      have h := hA
      unfold withR at h
      split at h
      · exact (Prod.mk.inj h).1.symm
      · split at h
        · exact (Prod.mk.inj h).1.symm
        · split at h
          · exact (Prod.mk.inj h).1.symm
          · exact absurd (Prod.mk.inj h).2.symm herr
    have f1 : ((err : Int) != 0) = true := by rw [bne_iff_ne]; omega
    have f2 : ((err : Int) == 0) = false := by rw [beq_eq_false_iff_ne]; omega
    obtain ⟨k3, g3, a3, l3, c3, e3, s3, aa3, an3, ac3, oa3, on3, oc3, ⟨y30, _⟩, r3⟩ := hst.out.2 (b10, A) (by simp)
    have hk3 := rdv_kind r3
    rw [hnull] at hk3
    obtain rfl : k3 = 0 := hk3
    clear r3 herr hnull hA
    go_wp2_with fail
    go_ret
    exact ⟨rfl, hst.out.1⟩
  subst herr
  have F := back_facts hA other
  obtain ⟨mv, mx, mk, hkk, hx9, hAo⟩ := with_ok hA
  have sA : SmallV A := by
    rw [hAo]
    have hlen : (setO key x v.obj).length ≤ 1048576 := by
      unfold setO
      split
      · rw [List.length_map]; have := sv.2; omega
      · rw [List.length_append]; exact sv.2
    have hks : ∀ p ∈ v.obj, p.1.length ≤ 1048576 := by cases sv.1; assumption
    refine .mk _ (Nat.zero_le _) hlen (Nat.zero_le _) (fun y hy => by cases hy) (fun p hp => ?_) (fun p hp => ?_)
    · rcases mem_set hp with rfl | h
      · exact hkl
      · exact hks p h
    · rcases mem_set hp with rfl | h
      · exact sx.1
      · exact sv.1.flds p h
  obtain ⟨B, j0, hB⟩ : ∃ B j0, withoutR A key = (B, j0) := ⟨_, _, rfl⟩
  obtain ⟨C0, l0, hC⟩ : ∃ C0 l0, withoutR v key = (C0, l0) := ⟨_, _, rfl⟩
  obtain ⟨V7, h7, hV7⟩ : ∃ V7 h7, getR v other = (V7, h7) := ⟨_, _, rfl⟩
  obtain ⟨V8, h8, hV8⟩ : ∃ V8 h8, getR A other = (V8, h8) := ⟨_, _, rfl⟩
  have Fj := F.bad
  have Fl := F.bad2
  have Fe := F.err
  have Fr := F.rest
  have Fn := F.none
  have Fs := F.less
  have FB := F.mayB
  rw [hB] at Fj Fn Fs FB
  rw [hC] at Fl Fs
  rw [hV7, hV8] at Fe Fr
  simp only at Fj Fl Fe Fr Fn Fs FB
  subst Fj Fl Fe
  have sB : SmallV B := by
    have hBo : B = objV (delO key A.obj) := by
      have h := hB
      unfold withoutR at h
      rw [if_neg (fun h => h ⟨F.mayA, mk⟩), hAo, if_neg (by simp [objV, JV.kind]), if_neg (by simp [objV, JV.kind])] at h
      rw [hAo]
      exact (Prod.mk.inj h).1.symm
    rw [hBo]
    have hsub : ∀ p ∈ delO key A.obj, p ∈ A.obj := fun p hp => (List.mem_filter.1 hp).1
    have hks : ∀ p ∈ A.obj, p.1.length ≤ 1048576 := by cases sA; assumption
    exact .mk _ (Nat.zero_le _) (Nat.le_trans (List.length_filter_le _ _) sA.obj) (Nat.zero_le _) (fun y hy => by cases hy) (fun p hp => hks p (hsub p hp)) (fun p hp => sA.flds p (hsub p hp))
  replace Fr := hid Fr
  replace Fs := hid Fs
  have Fg := hid F.got
  have Fa := hid F.again
  replace Fn := hid Fn
  have FA := hid F.mayA
  replace FB := hid FB
  replace hB := hid hB
  replace hC := hid hC
  replace hV7 := hid hV7
  replace hV8 := hid hV8
  clear F mv mx mk hkk hx9 hAo hA
  go_upto_region 5 with fail
  go_cut [12, 13] from 29 (fun v1 v2 w' => NewJ w w' v1 v2 x 0 [(b10, A), (B1, x), (w.heap.size, v)])
  case first =>
    obtain ⟨k1, g1, a1, l1, c1, e1, s1, aa1, an1, ac1, oa1, on1, oc1, ⟨y10, y11, y12, y13, y14, y15, y16⟩, r1⟩ := hst.out.2 (b10, A) (by simp)
    have C := hid ((by have h := value_Get A _ key wc hk9 sA r1 (HT.out.below hst.out.1); rw [Fg.out] at h; exact h : Calls Tryz.prog 17 _ wc (OutV wc x 0)))
    go_wp2_with fail
    refine C.out.mono ?_
    rintro en w1 ⟨cs1, rfl, rr, hb⟩
    obtain ⟨k9, g9, a9, l9, c9, e9, s9, aa9, an9, ac9, oa9, on9, oc9, rfl⟩ := rr.seven
    have hN : Hid (NewJ w _ (.pointer (some ⟨w1.heap.size, 0, none⟩)) (.int .i64 0) x 0 [(b10, A), (B1, x), (w.heap.size, v)]) := ⟨w1.heap.size, rfl, rfl, hst.out.add hb rr⟩
    unfold valCs at hN
    clear hb rr C
    unfold valCs strV
    go_wp2_with fail
    go_meet
    case rel => exact hN.out
  case rest =>
  obtain ⟨b12, rfl, rfl, g0⟩ := hcut
  replace hst := hid g0
  clear g0
  go_upto_region 6 with fail
  go_cut [14, 15] from 29 (fun v1 v2 w' => NewJ w w' v1 v2 A 0 [(b12, x), (b10, A), (B1, x), (w.heap.size, v)])
  case first =>
    obtain ⟨k1, g1, a1, l1, c1, e1, s1, aa1, an1, ac1, oa1, on1, oc1, ⟨y10, y11, y12, y13, y14, y15, y16⟩, r1⟩ := hst.out.2 (b10, A) (by simp)
    obtain ⟨k2, g2, a2, l2, c2, e2, s2, aa2, an2, ac2, oa2, on2, oc2, ⟨y20, y21, y22, y23, y24, y25, y26⟩, r2⟩ := hst.out.2 (B1, x) (by simp)
    have C := hid ((by have h := value_With A x _ _ key wc hk9 sA r1 r2 (HT.out.below hst.out.1); rw [Fa.out] at h; exact h : Calls Tryz.prog 13 _ wc (OutV wc A 0)))
    go_wp2_with fail
    refine C.out.mono ?_
    rintro en w1 ⟨cs1, rfl, rr, hb⟩
    obtain ⟨k9, g9, a9, l9, c9, e9, s9, aa9, an9, ac9, oa9, on9, oc9, rfl⟩ := rr.seven
    have hN : Hid (NewJ w _ (.pointer (some ⟨w1.heap.size, 0, none⟩)) (.int .i64 0) A 0 [(b12, x), (b10, A), (B1, x), (w.heap.size, v)]) := ⟨w1.heap.size, rfl, rfl, hst.out.add hb rr⟩
    unfold valCs at hN
    clear hb rr C
    unfold valCs strV
    go_wp2_with fail
    go_meet
    case rel => exact hN.out
  case rest =>
  obtain ⟨b14, rfl, rfl, g0⟩ := hcut
  replace hst := hid g0
  clear g0
  go_upto_region 7 with fail
  go_cut [16, 17] from 29 (fun v1 v2 w' => NewJ w w' v1 v2 V7 h7 [(b14, A), (b12, x), (b10, A), (B1, x), (w.heap.size, v)])
  case first =>
    obtain ⟨k1, g1, a1, l1, c1, e1, s1, aa1, an1, ac1, oa1, on1, oc1, ⟨y10, y11, y12, y13, y14, y15, y16⟩, r1⟩ := hst.out.2 (w.heap.size, v) (by simp)
    have C := hid ((by have h := value_Get v _ other wc ho9 sv.1 r1 (HT.out.below hst.out.1); rw [hV7.out] at h; exact h : Calls Tryz.prog 17 _ wc (OutV wc V7 h7)))
    go_wp2_with fail
    refine C.out.mono ?_
    rintro en w1 ⟨cs1, rfl, rr, hb⟩
    obtain ⟨k9, g9, a9, l9, c9, e9, s9, aa9, an9, ac9, oa9, on9, oc9, rfl⟩ := rr.seven
    have hN : Hid (NewJ w _ (.pointer (some ⟨w1.heap.size, 0, none⟩)) (.int .i64 h7) V7 h7 [(b14, A), (b12, x), (b10, A), (B1, x), (w.heap.size, v)]) := ⟨w1.heap.size, rfl, rfl, hst.out.add hb rr⟩
    unfold valCs at hN
    clear hb rr C
    unfold valCs strV
    go_wp2_with fail
    go_meet
    case rel => exact hN.out
  case rest =>
  obtain ⟨b16, rfl, rfl, g0⟩ := hcut
  replace hst := hid g0
  clear g0
  go_upto_region 8 with fail
  go_cut [18, 19] from 29 (fun v1 v2 w' => NewJ w w' v1 v2 V8 h7 [(b16, V7), (b14, A), (b12, x), (b10, A), (B1, x), (w.heap.size, v)])
  case first =>
    obtain ⟨k1, g1, a1, l1, c1, e1, s1, aa1, an1, ac1, oa1, on1, oc1, ⟨y10, y11, y12, y13, y14, y15, y16⟩, r1⟩ := hst.out.2 (b10, A) (by simp)
    have C := hid ((by have h := value_Get A _ other wc ho9 sA r1 (HT.out.below hst.out.1); rw [hV8.out] at h; exact h : Calls Tryz.prog 17 _ wc (OutV wc V8 h7)))
    go_wp2_with fail
    refine C.out.mono ?_
    rintro en w1 ⟨cs1, rfl, rr, hb⟩
    obtain ⟨k9, g9, a9, l9, c9, e9, s9, aa9, an9, ac9, oa9, on9, oc9, rfl⟩ := rr.seven
    have hN : Hid (NewJ w _ (.pointer (some ⟨w1.heap.size, 0, none⟩)) (.int .i64 h7) V8 h7 [(b16, V7), (b14, A), (b12, x), (b10, A), (B1, x), (w.heap.size, v)]) := ⟨w1.heap.size, rfl, rfl, hst.out.add hb rr⟩
    unfold valCs at hN
    clear hb rr C
    unfold valCs strV
    go_wp2_with fail
    go_meet
    case rel => exact hN.out
  case rest =>
  obtain ⟨b18, rfl, rfl, g0⟩ := hcut
  replace hst := hid g0
  clear g0
  go_upto_region 9 with fail
  go_cut [20, 21] from 29 (fun v1 v2 w' => NewJ w w' v1 v2 B 0 [(b18, V8), (b16, V7), (b14, A), (b12, x), (b10, A), (B1, x), (w.heap.size, v)])
  case first =>
    obtain ⟨k1, g1, a1, l1, c1, e1, s1, aa1, an1, ac1, oa1, on1, oc1, ⟨y10, y11, y12, y13, y14, y15, y16⟩, r1⟩ := hst.out.2 (b10, A) (by simp)
    have C := hid ((by have h := value_Without A _ key wc hk9 sA r1 (HT.out.below hst.out.1); rw [hB.out] at h; exact h : Calls Tryz.prog 19 _ wc (OutV wc B 0)))
    go_wp2_with fail
    refine C.out.mono ?_
    rintro en w1 ⟨cs1, rfl, rr, hb⟩
    obtain ⟨k9, g9, a9, l9, c9, e9, s9, aa9, an9, ac9, oa9, on9, oc9, rfl⟩ := rr.seven
    have hN : Hid (NewJ w _ (.pointer (some ⟨w1.heap.size, 0, none⟩)) (.int .i64 0) B 0 [(b18, V8), (b16, V7), (b14, A), (b12, x), (b10, A), (B1, x), (w.heap.size, v)]) := ⟨w1.heap.size, rfl, rfl, hst.out.add hb rr⟩
    unfold valCs at hN
    clear hb rr C
    unfold valCs strV
    go_wp2_with fail
    go_meet
    case rel => exact hN.out
  case rest =>
  obtain ⟨b20, rfl, rfl, g0⟩ := hcut
  replace hst := hid g0
  clear g0
  go_upto_region 10 with fail
  go_cut [22, 23] from 29 (fun v1 v2 w' => NewJ w w' v1 v2 JV.null 0 [(b20, B), (b18, V8), (b16, V7), (b14, A), (b12, x), (b10, A), (B1, x), (w.heap.size, v)])
  case first =>
    obtain ⟨k1, g1, a1, l1, c1, e1, s1, aa1, an1, ac1, oa1, on1, oc1, ⟨y10, y11, y12, y13, y14, y15, y16⟩, r1⟩ := hst.out.2 (b20, B) (by simp)
    have C := hid ((by have h := value_Get B _ key wc hk9 sB r1 (HT.out.below hst.out.1); rw [Fn.out] at h; exact h : Calls Tryz.prog 17 _ wc (OutV wc JV.null 0)))
    go_wp2_with fail
    refine C.out.mono ?_
    rintro en w1 ⟨cs1, rfl, rr, hb⟩
    obtain ⟨k9, g9, a9, l9, c9, e9, s9, aa9, an9, ac9, oa9, on9, oc9, rfl⟩ := rr.seven
    have hN : Hid (NewJ w _ (.pointer (some ⟨w1.heap.size, 0, none⟩)) (.int .i64 0) JV.null 0 [(b20, B), (b18, V8), (b16, V7), (b14, A), (b12, x), (b10, A), (B1, x), (w.heap.size, v)]) := ⟨w1.heap.size, rfl, rfl, hst.out.add hb rr⟩
    unfold valCs at hN
    clear hb rr C
    unfold valCs strV
    go_wp2_with fail
    go_meet
    case rel => exact hN.out
  case rest =>
  obtain ⟨b22, rfl, rfl, g0⟩ := hcut
  replace hst := hid g0
  clear g0
  go_upto_region 11 with fail
  go_cut [24, 25] from 29 (fun v1 v2 w' => NewJ w w' v1 v2 C0 0 [(b22, JV.null), (b20, B), (b18, V8), (b16, V7), (b14, A), (b12, x), (b10, A), (B1, x), (w.heap.size, v)])
  case first =>
    obtain ⟨k1, g1, a1, l1, c1, e1, s1, aa1, an1, ac1, oa1, on1, oc1, ⟨y10, y11, y12, y13, y14, y15, y16⟩, r1⟩ := hst.out.2 (w.heap.size, v) (by simp)
    have C := hid ((by have h := value_Without v _ key wc hk9 sv.1 r1 (HT.out.below hst.out.1); rw [hC.out] at h; exact h : Calls Tryz.prog 19 _ wc (OutV wc C0 0)))
    go_wp2_with fail
    refine C.out.mono ?_
    rintro en w1 ⟨cs1, rfl, rr, hb⟩
    obtain ⟨k9, g9, a9, l9, c9, e9, s9, aa9, an9, ac9, oa9, on9, oc9, rfl⟩ := rr.seven
    have hN : Hid (NewJ w _ (.pointer (some ⟨w1.heap.size, 0, none⟩)) (.int .i64 0) C0 0 [(b22, JV.null), (b20, B), (b18, V8), (b16, V7), (b14, A), (b12, x), (b10, A), (B1, x), (w.heap.size, v)]) := ⟨w1.heap.size, rfl, rfl, hst.out.add hb rr⟩
    unfold valCs at hN
    clear hb rr C
    unfold valCs strV
    go_wp2_with fail
    go_meet
    case rel => exact hN.out
  case rest =>
  obtain ⟨b24, rfl, rfl, g0⟩ := hcut
  replace hst := hid g0
  clear g0
  go_upto_region 12 with fail
  go_cut [26] from 29 (fun v1 w' => v1 = .bool true ∧ St w w' [(b24, C0), (b22, JV.null), (b20, B), (b18, V8), (b16, V7), (b14, A), (b12, x), (b10, A), (B1, x), (w.heap.size, v)])
  case first =>
    obtain ⟨k1, g1, a1, l1, c1, e1, s1, aa1, an1, ac1, oa1, on1, oc1, ⟨y10, y11, y12, y13, y14, y15, y16⟩, r1⟩ := hst.out.2 (b12, x) (by simp)
    obtain ⟨k2, g2, a2, l2, c2, e2, s2, aa2, an2, ac2, oa2, on2, oc2, ⟨y20, y21, y22, y23, y24, y25, y26⟩, r2⟩ := hst.out.2 (B1, x) (by simp)
    have C1 := hid (by have h := law11_same x x _ _ wc r1 r2; rw [eqB_true rfl] at h; exact h : Calls Tryz.prog 15 _ wc fun en w' => en = .returned (.bool true) ∧ Below wc.heap.size wc w')
    go_wp2_with fail
    refine C1.out.mono ?_
    rintro en w1 ⟨rfl, hb⟩
    replace hst := hid (hst.out.stay hb)
    clear hb
    clear C1 y10 y11 y12 y13 y14 y15 y16 y20 y21 y22 y23 y24 y25 y26 r1 r2
    obtain ⟨k3, g3, a3, l3, c3, e3, s3, aa3, an3, ac3, oa3, on3, oc3, ⟨y30, y31, y32, y33, y34, y35, y36⟩, r3⟩ := hst.out.2 (b14, A) (by simp)
    obtain ⟨k4, g4, a4, l4, c4, e4, s4, aa4, an4, ac4, oa4, on4, oc4, ⟨y40, y41, y42, y43, y44, y45, y46⟩, r4⟩ := hst.out.2 (b10, A) (by simp)
    have C3 := hid (by have h := law11_same A A _ _ w1 r3 r4; rw [eqB_true rfl] at h; exact h : Calls Tryz.prog 15 _ w1 fun en w' => en = .returned (.bool true) ∧ Below w1.heap.size w1 w')
    go_wp2_with fail
    refine C3.out.mono ?_
    rintro en w2 ⟨rfl, hb⟩
    replace hst := hid (hst.out.stay hb)
    clear hb
    go_wp2_with fail
    go_meet
    case rel => exact ⟨rfl, hst.out⟩
  case rest =>
  obtain ⟨rfl, g0⟩ := hcut
  replace hst := hid g0
  clear g0
  go_upto_region 13 with fail
  go_cut [27] from 29 (fun v1 w' => v1 = .bool true ∧ St w w' [(b24, C0), (b22, JV.null), (b20, B), (b18, V8), (b16, V7), (b14, A), (b12, x), (b10, A), (B1, x), (w.heap.size, v)])
  case first =>
    have f1 : ((h7 : Int) == (h7 : Int)) = true := by rw [beq_iff_eq]
    by_cases hko : key = other
    rotate_left
    · have f2 := str_ne hko
      by_cases h70 : h7 = 0
      rotate_left
      · have f3 : ((h7 : Int) != 0) = true := by rw [bne_iff_ne]; omega
        go_wp2_with fail
        go_meet
        case rel => exact ⟨rfl, hst.out⟩
      · have e78 : V7 = V8 := by
          rcases Fr.out with h | h | h
          · exact absurd h hko
          · exact absurd h70 h
          · exact h
        have f3 : ((h7 : Int) != 0) = false := by rw [h70]; rfl
        clear h70
        obtain ⟨k1, g1, a1, l1, c1, e1, s1, aa1, an1, ac1, oa1, on1, oc1, ⟨y10, y11, y12, y13, y14, y15, y16⟩, r1⟩ := hst.out.2 (b16, V7) (by simp)
        obtain ⟨k2, g2, a2, l2, c2, e2, s2, aa2, an2, ac2, oa2, on2, oc2, ⟨y20, y21, y22, y23, y24, y25, y26⟩, r2⟩ := hst.out.2 (b18, V8) (by simp)
        have C1 := hid (by have h := law11_same V7 V8 _ _ wc r1 r2; rw [eqB_true e78] at h; exact h : Calls Tryz.prog 15 _ wc fun en w' => en = .returned (.bool true) ∧ Below wc.heap.size wc w')
        clear e78
        go_wp2_with fail
        refine C1.out.mono ?_
        rintro en w1 ⟨rfl, hb⟩
        replace hst := hid (hst.out.stay hb)
        clear hb
        go_wp2_with fail
        go_meet
        case rel => exact ⟨rfl, hst.out⟩
    · have f2 : ((⟨key.toArray⟩ : ByteArray).toList == (⟨other.toArray⟩ : ByteArray).toList) = true := by rw [hko]; exact beq_self_eq_true _
      go_wp2_with fail
      go_meet
      case rel => exact ⟨rfl, hst.out⟩
  case rest =>
  obtain ⟨rfl, g0⟩ := hcut
  replace hst := hid g0
  clear g0
  go_upto_region 14 with fail
  go_cut [28] from 29 (fun v1 w' => v1 = .bool true ∧ St w w' [(b24, C0), (b22, JV.null), (b20, B), (b18, V8), (b16, V7), (b14, A), (b12, x), (b10, A), (B1, x), (w.heap.size, v)])
  case first =>
    obtain ⟨k1, g1, a1, l1, c1, e1, s1, aa1, an1, ac1, oa1, on1, oc1, ⟨y10, y11, y12, y13, y14, y15, y16⟩, r1⟩ := hst.out.2 (b22, JV.null) (by simp)
    have C1 := hid (by have h := law11_same JV.null JV.null _ _ wc r1 (rdv_null wc); rw [eqB_true rfl] at h; exact h : Calls Tryz.prog 15 _ wc fun en w' => en = .returned (.bool true) ∧ Below wc.heap.size wc w')
    go_wp2_with fail
    refine C1.out.mono ?_
    rintro en w1 ⟨rfl, hb⟩
    replace hst := hid (hst.out.stay hb)
    clear hb
    obtain ⟨k2, g2, a2, l2, c2, e2, s2, aa2, an2, ac2, oa2, on2, oc2, ⟨y20, y21, y22, y23, y24, y25, y26⟩, r2⟩ := hst.out.2 (w.heap.size, v) (by simp)
    by_cases hk0 : v.kind = 0
    · have hk2 := (rdv_kind r2).trans hk0
      subst hk2
      go_wp2_with fail
      go_meet
      case rel => exact ⟨rfl, hst.out⟩
    · have f2 : (k2 == 0) = false := by rw [beq_eq_false_iff_ne, rdv_kind r2]; exact hk0
      have eB : B = C0 := by
        rcases Fs.out with h | h
        · exact absurd h hk0
        · exact h
      obtain ⟨k3, g3, a3, l3, c3, e3, s3, aa3, an3, ac3, oa3, on3, oc3, ⟨y30, y31, y32, y33, y34, y35, y36⟩, r3⟩ := hst.out.2 (b20, B) (by simp)
      obtain ⟨k4, g4, a4, l4, c4, e4, s4, aa4, an4, ac4, oa4, on4, oc4, ⟨y40, y41, y42, y43, y44, y45, y46⟩, r4⟩ := hst.out.2 (b24, C0) (by simp)
      have C3 := hid (by have h := law11_same B C0 _ _ w1 r3 r4; rw [eqB_true eB] at h; exact h : Calls Tryz.prog 15 _ w1 fun en w' => en = .returned (.bool true) ∧ Below w1.heap.size w1 w')
      clear eB
      go_wp2_with fail
      refine C3.out.mono ?_
      rintro en w2 ⟨rfl, hb⟩
      replace hst := hid (hst.out.stay hb)
      clear hb
      go_wp2_with fail
      go_meet
      case rel => exact ⟨rfl, hst.out⟩
  case rest =>
  obtain ⟨rfl, g0⟩ := hcut
  replace hst := hid g0
  clear g0
  obtain ⟨k1, g1, a1, l1, c1, e1, s1, aa1, an1, ac1, oa1, on1, oc1, ⟨y10, y11, y12, y13, y14, y15, y16⟩, r1⟩ := hst.out.2 (b10, A) (by simp)
  have C1 := hid (by have h := value_May A _ wc r1 (HT.out.below hst.out.1); rw [FA.out] at h; exact h : Calls Tryz.prog 16 _ wc fun en w' => en = .returned (.bool true) ∧ Below wc.heap.size wc w')
  go_wp2_with fail
  refine C1.out.mono ?_
  rintro en w1 ⟨rfl, hb⟩
  replace hst := hid (hst.out.stay hb)
  clear hb
  obtain ⟨k2, g2, a2, l2, c2, e2, s2, aa2, an2, ac2, oa2, on2, oc2, ⟨y20, y21, y22, y23, y24, y25, y26⟩, r2⟩ := hst.out.2 (b20, B) (by simp)
  have C2 := hid (by have h := value_May B _ w1 r2 (HT.out.below hst.out.1); rw [FB.out] at h; exact h : Calls Tryz.prog 16 _ w1 fun en w' => en = .returned (.bool true) ∧ Below w1.heap.size w1 w')
  go_wp2_with fail
  refine C2.out.mono ?_
  rintro en w2 ⟨rfl, hb⟩
  replace hst := hid (hst.out.stay hb)
  clear hb
  go_wp2_with fail
  go_ret
  exact ⟨rfl, hst.out.1⟩

end Go.Proofs.YtgbgkodjjgjhgaaGreatDoor
