/- The document's answer, thirteenth part: Of. -/
import Derived.Test.YtphdncifcljmpaaGreatDoorRefI
import Derived.Test.YtphdncifcljmpaaGreatDoorRefJ
namespace Go.Proofs.YtphdncifcljmpaaGreatDoor
open Go.RowKit

theorem of_bounds {g : Bool} {k : Nat} (hk : k ≤ 9223372036854775808) : (Num.digs 10 (plainD g k 0).m).length ≤ 19 := Nat.le_trans (Num.digs_length_mono (by decide) (plain_m_le _ _ _)) (of_digs k hk)

set_option maxRecDepth 100000 in
set_option maxHeartbeats 1600000 in
theorem ref2_Of_pos (k : Nat) (w : World) (hk : k ≤ 9223372036854775807) :
    Calls Tryz.prog 19 #[.int .i64 k] w (OutD w (plainD false k 0)) := by
  have CS := fun W => ref1_Small k W (by omega)
  have hd := of_digs k (by omega)
  have hb := of_bounds (g := false) (k := k) (by omega)
  have CM := fun W b c (hu : U8 W b (Num.digs 10 k)) (h1 : (Num.digs 10 k).length ≤ c) (h2 : c ≤ 9223372036854775807) => ref2_Make false b c k 0 W hu h1 h2 (by omega) (by omega)
  obtain ⟨d, hdd⟩ : ∃ d, d = plainD false k 0 := ⟨_, rfl⟩
  rw [← hdd] at CM hb ⊢
  have CT := fun W b c (hu : U8 W b (Num.digs 10 d.m)) => ref2_To d b c W hu (by omega)
  unfold refV at CT
  replace CS := hid CS
  replace CM := hid CM
  replace CT := hid CT
  clear hd hb hdd
  go_enter Tryz.func19, Tryz.ntmps19
  go_wp2_with fail
  refine (CS.out _).mono ?_
  rintro e1 w1 ⟨b1, c1, rfl, hb1, ho1⟩
  have HB1 := hid (below_alloc hb1)
  have HR1 := hid ((show Rec (w.alloc _) w.heap.size from ⟨_, _, _, _, _, _, blk_new w _⟩).below hb1)
  have HU1 := hid (u8_of ho1 (digs_ten_lt k))
  have hc := owns_cap ho1
  have hc1 := hc.1
  have hc2 := hc.2
  clear hb1 ho1 CS hc
  go_wp2_with fail
  refine (CM.out _ _ _ HU1.out hc1 hc2).mono ?_
  rintro e2 w2 ⟨b2, c2, rfl, hb2, hr2⟩
  have HB2 := hid (below_trans HB1.out hb2)
  have HR2 := hid (HR1.out.below hb2)
  have HU2 := hid hr2.1
  clear hb2 hr2 CM HB1 HR1 HU1
  unfold refV
  go_wp2_with fail
  refine (CT.out _ _ _ HU2.out).mono ?_
  rintro e3 w3 ⟨b3, c3, rfl, ho3⟩
  have HB3 := hid (below_trans HB2.out ho3.1)
  have HR3 := hid (HR2.out.below ho3.1)
  have HO3 := hid ho3.2
  have hlt := HR2.out.lt
  clear ho3 CT
  obtain ⟨_, _, _, p0, p1, p2⟩ := HR3.out.cells.get
  have f0 := HR3.out.cells.frozen 0
  have f1 := HR3.out.cells.frozen 1
  have f2 := HR3.out.cells.frozen 2
  unfold decV
  go_wp2
  refine bodyPost_ret (v := decV d b3 c3) (by simp [results, Tryz.results19, go_sem, p0, p1, p2, decV]) rfl ?_
  exact ⟨b3, c3, rfl, below_put HB3.out (Nat.le_refl _) _ _ _ _ _, owns_mono (owns_put HO3.out hlt _ _ _ _ _) (by omega)⟩

section
variable {P : Program} {ops : Array Oper} {rest : List Oper} {o : Oper} {a : Act} {Q : Exit → Act → World → Prop}
theorem own_one (w : World) (e : TypeId) (u : Value) : (w.alloc (.cells #[u] e)).ownsRow w.heap.size e 1 (.slice (some ⟨w.heap.size, 0, none⟩) 1 1) 1 [u] :=
  ⟨rfl, .inr ⟨w.heap.size, 1, #[u], rfl, Nat.le_refl _, blk_new w _, Nat.le_refl _, by unfold maxLen; omega, rfl, rfl⟩⟩
/-- 'append(T{u}, y...)': u has just been laid in a new cell. -/
theorem wpList_before {w : World} {t e : TypeId} {z : Value} {bytes : Nat} (he : SliceOf P t e z bytes) (hg : o.guard = none) (s x : Operand) (hop : o.op = Op.call { callee := Callee.builtin Builtin.append, args := #[s, x], argTypes := #[t, t] })
    {u : Value} (hs : a.eval s = .slice (some ⟨w.heap.size, 0, none⟩) 1 1) {ao : Option Addr} {m c : Nat} {ys : List Value} (hx : a.eval x = .slice ao m c) (hrow : Row w ao ys) (hl : ys.length = m) (hnone : ao = none → c = 0) (hu : ∀ u ∈ ys, u.oneCell' = true)
    (hm : 1 + m ≤ maxLen) (hn : (1 + m) * bytes ≤ 140737488355328)
    (hK : ∀ v' w', w'.ownsRow w.heap.size e 1 v' (1 + m) (u :: ys) → Below w.heap.size w w' → wpList P ops Q rest (a.put o.dst v') w') :
    wpList P ops Q (o :: rest) a (w.alloc (.cells #[u] e)) := by
  have hb := (Below.refl w.heap.size w).alloc (Nat.le_refl _) (.cells #[u] e)
  refine wpList_extend he hg s x hop w.heap.size (own_one w e u) hs hx (hrow.below hb) hl hnone hu hm hn (by simp) ?_
  intro v' w' h1 h2
  exact hK v' w' h1 (hb.trans h2)
end

theorem digs_cons (k : Nat) (hk : k ≠ 0) : Num.digs 10 k = k % 10 :: Num.digs 10 (k / 10) := Num.digs_pos (by decide) hk

set_option maxRecDepth 100000 in
set_option maxHeartbeats 1600000 in
theorem ref2_Of_neg (k : Nat) (w : World) (hk1 : 1 ≤ k) (hk : k ≤ 9223372036854775808) :
    Calls Tryz.prog 19 #[.int .i64 (-(k : Int))] w (OutD w (plainD true k 0)) := by
  have CS := fun W => ref1_Small (k / 10) W (by omega)
  have hd := of_digs k (by omega)
  have hb := of_bounds (g := true) (k := k) (by omega)
  have CM := fun W b c (hu : U8 W b (Num.digs 10 k)) (h1 : (Num.digs 10 k).length ≤ c) (h2 : c ≤ 9223372036854775807) => ref2_Make true b c k 0 W hu h1 h2 (by omega) (by omega)
  obtain ⟨d, hdd⟩ : ∃ d, d = plainD true k 0 := ⟨_, rfl⟩
  rw [← hdd] at CM hb ⊢
  have CT := fun W b c (hu : U8 W b (Num.digs 10 d.m)) => ref2_To d b c W hu (by omega)
  unfold refV at CT
  replace CS := hid CS
  replace CM := hid CM
  replace CT := hid CT
  clear hb hdd
  go_enter Tryz.func19, Tryz.ntmps19
  go_wp2_with fail
  refine (CS.out _).mono ?_
  rintro e1 w1 ⟨b1, c1, rfl, hb1, ho1⟩
  have HB1 := hid (below_alloc hb1)
  have HR1 := hid ((show Rec (w.alloc _) w.heap.size from ⟨_, _, _, _, _, _, blk_new w _⟩).below hb1)
  have HU1 := hid (u8_of ho1 (digs_ten_lt (k / 10)))
  have HN1 := hid (owns_none ho1)
  have HE : Hid (Num.digs 10 k = k % 10 :: Num.digs 10 (k / 10)) := digs_cons k (by omega)
  have hl19 : (Num.digs 10 (k / 10)).length ≤ 19 := Nat.le_trans (Num.digs_length_mono (by decide) (by omega)) hd
  clear hb1 ho1 CS hd
  have hmod : IntKind.u8.wrap ((k : Int) % 10) = (k : Int) % 10 := by rw [IntKind.wrap_u8]; omega
  have hrl : (u8s (Num.digs 10 (k / 10))).length = (Num.digs 10 (k / 10)).length := by simp [u8s]
  have HRL := hid hrl
  have HRW := hid HU1.out.row
  clear hrl
  go_wp2_with (at_builtin; refine wpList_before numSlice rfl _ _ rfl (u := .int .u8 (((k % 10 : Nat)) : Int)) rfl rfl HRW.out HRL.out HN1.out (u8s_one _) (by unfold maxLen; omega) (by omega) ?_; intro v3 w3 hown hb3)
  have ho := hown
  rw [show (Value.int IntKind.u8 ((k % 10 : Nat) : Int) :: u8s (Num.digs 10 (k / 10))) = u8s (Num.digs 10 k) by rw [HE.out]; rfl, show 1 + (Num.digs 10 (k / 10)).length = (Num.digs 10 k).length by rw [HE.out]; simp; omega] at ho
  obtain ⟨b3, c3, rfl, _, _⟩ := owns_row ho
  have HU3 := hid (u8_of ho (digs_ten_lt k))
  have hc := owns_cap ho
  have hc1 := hc.1
  have hc2 := hc.2
  have HB3 := hid (below_trans HB1.out hb3)
  have HR3 := hid (HR1.out.below hb3)
  clear hown ho hb3 hc HRW HRL HU1 HN1 HB1 HR1 hl19 hmod HE
  refine (CM.out _ _ _ HU3.out hc1 hc2).mono ?_
  rintro e2 w2 ⟨b2, c2, rfl, hb2, hr2⟩
  have HB2 := hid (below_trans HB3.out hb2)
  have HR2 := hid (HR3.out.below hb2)
  have HU2 := hid hr2.1
  clear hb2 hr2 CM HB3 HR3 HU3
  unfold refV
  go_wp2_with fail
  refine (CT.out _ _ _ HU2.out).mono ?_
  rintro e4 w4 ⟨b4, c4, rfl, ho4⟩
  have HB4 := hid (below_trans HB2.out ho4.1)
  have HR4 := hid (HR2.out.below ho4.1)
  have HO4 := hid ho4.2
  have hlt := HR2.out.lt
  clear ho4 CT
  obtain ⟨_, _, _, p0, p1, p2⟩ := HR4.out.cells.get
  have f0 := HR4.out.cells.frozen 0
  have f1 := HR4.out.cells.frozen 1
  have f2 := HR4.out.cells.frozen 2
  unfold decV
  go_wp2
  refine bodyPost_ret (v := decV d b4 c4) (by simp [results, Tryz.results19, go_sem, p0, p1, p2, decV]) rfl ?_
  exact ⟨b4, c4, rfl, below_put HB4.out (Nat.le_refl _) _ _ _ _ _, owns_mono (owns_put HO4.out hlt _ _ _ _ _) (by omega)⟩

end Go.Proofs.YtphdncifcljmpaaGreatDoor
