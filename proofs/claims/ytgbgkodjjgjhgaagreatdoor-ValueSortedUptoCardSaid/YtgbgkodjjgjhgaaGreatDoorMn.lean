/- Where an object has a key: slices.IndexFunc at fields, value.place. A key set where an object has it: value.With's one way. A key set where an object has it: what value.With answers. The document's examples at the head of chapter 11's laws: the values they are about. The document's examples at the head of chapter 11's laws. -/
import Derived.Test.YtgbgkodjjgjhgaaGreatDoorMm
import Derived.Test.YtgbgkodjjgjhgaaGreatDoorMk
import Derived.Laws.IdiomCopy
namespace Go.Proofs.YtgbgkodjjgjhgaaGreatDoor
open Go.RowKit

/-- The first field that is meant, counted from k on; -1: none. -/
def idxO (key : List UInt8) : List Fld → Nat → Int
  | [], _ => -1
  | x :: l, k => if x.1 = key then (k : Int) else idxO key l (k + 1)
theorem idxO_drop {key : List UInt8} {xs : List Fld} {k : Nat} {x : Fld} (h : xs[k]? = some x) (i : Nat) : idxO key (xs.drop k) i = if x.1 = key then (i : Int) else idxO key (xs.drop (k + 1)) (i + 1) := by
  obtain ⟨h1, e1⟩ := List.getElem?_eq_some_iff.1 h
  rw [List.drop_eq_getElem_cons h1, e1]
  rfl

set_option maxRecDepth 100000 in
set_option maxHeartbeats 1600000 in
theorem indexFunc_fld (g : Nat) (eg : ∀ args w, (callFunc g args).run Tryz.prog w = .ok (.enter g args) w) (kp : Value) (key : List UInt8) (xs : List Fld) (aa : Option Addr) (ac : Nat) (w : World) (hxs : RdO w aa xs) (hxl : xs.length ≤ 1048576)
    (hC : ∀ (x : Fld) (cx : List Value) (W : World), Below w.heap.size w W → RdV W cx x.2 → Calls Tryz.prog g #[.agg (strV x.1 :: cx).toArray, kp] W fun e w' => e = .returned (.bool (decide (x.1 = key))) ∧ Below W.heap.size W w') :
    Calls Tryz.prog 55 #[.slice aa xs.length ac, .func (.func g) #[] #[kp]] w fun e w' => e = .returned (.int .i64 (idxO key xs 0)) ∧ Below w.heap.size w w' := by
  obtain ⟨R, hR⟩ : ∃ R, R = idxO key xs 0 := ⟨_, rfl⟩
  rw [← hR]
  replace hR := hid hR
  replace hC := hid hC
  replace hxs := hid hxs
  generalize hnx : xs.length = nx at *
  replace hnx := hid hnx
  go_enter Tryz.func55, Tryz.ntmps55
  go_wp2
  go_loopw [5, 8] (fun _ v8 wr => ∃ k : Nat, k ≤ nx ∧ Hid (R = idxO key (xs.drop k) k) ∧ v8 = .int .i64 k ∧ Below w.heap.size w wr) (fun _ v8 _ => nx - (intOf v8).toNat)
  case atStart => exact ⟨0, Nat.zero_le _, hid (by simpa using hR.out), rfl, Below.refl _ _⟩
  case round =>
    obtain ⟨k, hk, hK, rfl, hb⟩ := hrel
    clear hR
    by_cases hlt : k < nx
    · have hlt2 : (k : Int) < (nx : Int) := by omega
      have hk1 : k < xs.length := by rw [hnx.out]; exact hlt
      obtain ⟨b, off, a1, c1, aa1, ac1, oa1, oc1, rfl, _, P1, C1⟩ := (hxs.out.below hb).at hk1
      have rd := hid P1.rd
      clear P1
      unfold Cells8f strV at C1
      obtain ⟨x, hx⟩ : ∃ x, x = xs[k] := ⟨_, rfl⟩
      rw [← hx] at C1 rd
      have HXX := hid (show xs[k]? = some x by rw [hx]; exact List.getElem?_eq_getElem hk1)
      clear hx
      have hKn := hid (show R = if x.1 = key then (k : Int) else idxO key (xs.drop (k + 1)) (k + 1) by rw [hK.out]; exact idxO_drop HXX.out k)
      have hC2 := hC.out x _ wr hb rd.out
      obtain ⟨kx, x⟩ := x
      simp only at C1
      obtain ⟨c0, c1', c2, c3, c4, c5, c6, c7⟩ := C1
      clear hK rd HXX
      by_cases he : kx = key
      · obtain rfl : R = (k : Int) := by rw [hKn.out, if_pos he]
        rw [show decide ((kx, x).1 = key) = true from decide_eq_true he] at hC2
        replace hC2 := hid hC2
        clear hKn he
        go_wp2_with (first | (go_at_fn g; (refine hC2.out.mono ?_); rintro en w1 ⟨rfl, hb1⟩) | fail)
        go_ret
        exact ⟨rfl, below_trans hb hb1⟩
      · have hK2 := hid (show R = idxO key (xs.drop (k + 1)) (k + 1) by rw [hKn.out, if_neg he])
        rw [show decide ((kx, x).1 = key) = false from decide_eq_false he] at hC2
        replace hC2 := hid hC2
        clear hKn he
        go_wp2_with (first | (go_at_fn g; (refine hC2.out.mono ?_); rintro en w1 ⟨rfl, hb1⟩) | fail)
        go_roundw
        case rel => exact ⟨k + 1, by omega, hK2, by first | rfl | go_num, below_trans hb hb1⟩
        case measure => simp [intOf]; omega
    · obtain rfl : k = nx := by omega
      have hlt2 : ¬ ((k : Nat) : Int) < (k : Int) := by omega
      obtain rfl : R = -1 := by rw [hK.out, List.drop_of_length_le (by rw [hnx.out]; exact Nat.le_refl _)]; rfl
      go_wp2
      go_ret
      exact ⟨rfl, hb⟩

set_option maxRecDepth 100000 in
theorem place1 (x key : List UInt8) (x1 x2 x3 x4 x5 x6 x7 : Value) (kb : Nat) (w : World) (hk : w.cell? ⟨kb, 0, none⟩ = some (strV key)) :
    Calls Tryz.prog 56 #[.agg #[strV x, x1, x2, x3, x4, x5, x6, x7], .pointer (some ⟨kb, 0, none⟩)] w fun e w' => e = .returned (.bool (decide (x = key))) ∧ Below w.heap.size w w' := by
  have hl := cell_lt hk
  have he := beq_s x key
  rw [show decide (keyC x key = 0) = decide (x = key) from decide_eq_decide.2 ⟨keyC_eq, fun h => by rw [h]; exact keyC_refl _⟩] at he
  unfold strV at *
  generalize (⟨x.toArray⟩ : ByteArray) = xb at *
  generalize (⟨key.toArray⟩ : ByteArray) = yb at *
  generalize decide (x = key) = B at *
  have hb := hid ((Below.refl w.heap.size w).alloc (Nat.le_refl _) (.cells #[.string xb, x1, x2, x3, x4, x5, x6, x7] 53))
  go_enter Tryz.func56, Tryz.ntmps56
  go_wp2
  go_ret
  exact ⟨by first | rfl | rw [he], hb.out⟩

set_option maxRecDepth 100000 in
theorem value_place (v : JV) (cs : List Value) (key : List UInt8) (w : World) (sv : SmallV v) (rv : RdV w cs v) :
    Calls Tryz.prog 32 #[.agg cs.toArray, strV key] w fun e w' => e = .returned (.int .i64 (idxO key v.obj 0)) ∧ Below w.heap.size w w' := by
  obtain ⟨a, c, aa, ac, oa, oc, P⟩ := rv.parts
  have e := P.cells
  subst e
  have hO := P.obj
  have hol := sv.obj
  have HI := fun W (kb : Nat) (hb : Below w.heap.size w W) (hk : W.cell? ⟨kb, 0, none⟩ = some (strV key)) => indexFunc_fld 56 (run_callFunc Tryz.func56 (by kernel_rfl) (by kernel_rfl)) (.pointer (some ⟨kb, 0, none⟩)) key v.obj oa oc W (hO.below hb) hol (fun x cx W' hb' rx => by
    obtain ⟨x1, x2, x3, x4, x5, x6, x7, rfl⟩ := seven_of rx.len
    exact place1 x.1 key x1 x2 x3 x4 x5 x6 x7 kb W' (cell_stay hk hb'))
  replace HI := hid HI
  clear P hO rv sv
  generalize idxO key v.obj 0 = R at *
  obtain ⟨kind, g, ls, e, s, arr, obj⟩ := v
  simp only [JV.kind, JV.g, JV.ls, JV.e, JV.s, JV.arr, JV.obj] at *
  unfold valCs strV at *
  generalize ls.length = ln at *
  generalize arr.length = an at *
  generalize obj.length = on at *
  generalize (⟨s.toArray⟩ : ByteArray) = sb at *
  generalize (⟨key.toArray⟩ : ByteArray) = kb at *
  have hk : ∀ o, ((w.alloc o).alloc (.cells #[.string kb] 9)).cell? ⟨w.heap.size + 1, 0, none⟩ = some (.string kb) := fun o => by simp [go_sem]
  replace hk := hid hk
  go_enter Tryz.func32, Tryz.ntmps32
  go_wp2_with fail
  refine (HI.out _ _ (alloc_below2 _ _ _) (hk.out _)).mono ?_
  rintro en w1 ⟨rfl, hb1⟩
  have hbb := hid (below_trans (alloc_below2 _ _ _) hb1)
  clear hb1
  go_wp2
  go_ret
  exact ⟨rfl, hbb.out⟩

end Go.Proofs.YtgbgkodjjgjhgaaGreatDoor

namespace Go.Proofs.YtgbgkodjjgjhgaaGreatDoor
open Go.RowKit

/-- A value and an error. -/
def OutV (w : World) (x : JV) (err : Nat) (e : Ending) (w' : World) : Prop := ∃ cs, e = .returned (.tuple #[.agg cs.toArray, .int .i64 err]) ∧ RdV w' cs x ∧ Below w.heap.size w w'
theorem blk_seven {w : World} {N : Nat} {x0 x1 x2 x3 x4 x5 x6 : Value} {T : TypeId} (h : w.heap[N]? = some (.cells #[x0, x1, x2, x3, x4, x5, x6] T (0, 0))) :
    (w.cell? ⟨N, 0, none⟩ = some x0 ∧ w.cell? ⟨N, 1, none⟩ = some x1 ∧ w.cell? ⟨N, 2, none⟩ = some x2 ∧ w.cell? ⟨N, 3, none⟩ = some x3 ∧ w.cell? ⟨N, 4, none⟩ = some x4 ∧ w.cell? ⟨N, 5, none⟩ = some x5 ∧ w.cell? ⟨N, 6, none⟩ = some x6) ∧
    (w.frozen? ⟨N, 0, none⟩ = false ∧ w.frozen? ⟨N, 1, none⟩ = false ∧ w.frozen? ⟨N, 2, none⟩ = false ∧ w.frozen? ⟨N, 3, none⟩ = false ∧ w.frozen? ⟨N, 4, none⟩ = false ∧ w.frozen? ⟨N, 5, none⟩ = false ∧ w.frozen? ⟨N, 6, none⟩ = false) :=
  ⟨⟨blk_cell h 0, blk_cell h 1, blk_cell h 2, blk_cell h 3, blk_cell h 4, blk_cell h 5, blk_cell h 6⟩, blk_frozen h 0, blk_frozen h 1, blk_frozen h 2, blk_frozen h 3, blk_frozen h 4, blk_frozen h 5, blk_frozen h 6⟩

set_option maxRecDepth 100000 in
set_option maxHeartbeats 8000000 in
/-- The walk, over what each call tells. -/
theorem with_walk (g g' : Bool) (a a' : Option Addr) (l l' c c' : Nat) (k' : Int) (e e' : Int) (s s' : List UInt8) (aa aa' : Option Addr) (an an' ac ac' : Nat) (oa oa' : Option Addr) (on on' oc oc' : Nat) (key : List UInt8) (i : Nat) (D : Nat) (hD : D ≠ 200) (_hDl : D ≤ 201) (hi : i < on) (w : World) (Q : Ending → World → Prop)
    (y0 y1 y2 y3 y4 y5 y6 : Value) (G : World → Nat → Nat → Prop)
    (h1 : ∀ W, Below w.heap.size w W → Calls Tryz.prog 16 #[valV 6 g a l c e s aa an ac oa on oc] W fun en w' => en = .returned (.bool true) ∧ Below W.heap.size W w')
    (h2 : ∀ W, Below w.heap.size w W → Calls Tryz.prog 16 #[valV k' g' a' l' c' e' s' aa' an' ac' oa' on' oc'] W fun en w' => en = .returned (.bool true) ∧ Below W.heap.size W w')
    (h3 : ∀ W, Below w.heap.size w W → Calls Tryz.prog 30 #[strV key] W fun en w' => en = .returned (.bool true) ∧ Below W.heap.size W w')
    (h4 : ∀ W, Below w.heap.size w W → Calls Tryz.prog 25 #[valV k' g' a' l' c' e' s' aa' an' ac' oa' on' oc'] W fun en w' => en = .returned (.int .i64 (D : Int)) ∧ Below W.heap.size W w')
    (h5 : ∀ W, Below w.heap.size w W → Calls Tryz.prog 31 #[.slice oa on oc] W fun en w' => ∃ q cap, en = .returned (.slice (some ⟨q, 0, none⟩) on cap) ∧ W.heap.size ≤ q ∧ on ≤ cap ∧ cap ≤ 9223372036854775807 ∧ G w' q cap ∧ Below W.heap.size W w')
    (h6 : ∀ W, Below w.heap.size w W → Calls Tryz.prog 32 #[valV 6 g a l c e s aa an ac oa on oc, strV key] W fun en w' => en = .returned (.int .i64 (i : Int)) ∧ Below W.heap.size W w')
    (hG : ∀ W q cap W', G W q cap → Below W.heap.size W W' → G W' q cap)
    (hGc : ∀ W q cap, G W q cap → (W.cell? ⟨q, i * 8 + 1, none⟩ = some y0 ∧ W.cell? ⟨q, i * 8 + 2, none⟩ = some y1 ∧ W.cell? ⟨q, i * 8 + 3, none⟩ = some y2 ∧ W.cell? ⟨q, i * 8 + 4, none⟩ = some y3 ∧ W.cell? ⟨q, i * 8 + 5, none⟩ = some y4 ∧ W.cell? ⟨q, i * 8 + 6, none⟩ = some y5 ∧ W.cell? ⟨q, i * 8 + 7, none⟩ = some y6) ∧ ∀ j, W.frozen? ⟨q, j, none⟩ = false)
    (hQ : ∀ W q cap r zs, G W q cap → Below w.heap.size w W → w.heap.size ≤ q → on ≤ cap → cap ≤ 9223372036854775807 → q ≠ r → w.heap.size ≤ r →
      Q (.returned (.tuple #[.agg (valCs 6 false none 0 0 0 [] none 0 0 (some ⟨q, 0, none⟩) on cap).toArray, .int .i64 0])) ((W.setCells q (i * 8 + 1) (valCs k' g' a' l' c' e' s' aa' an' ac' oa' on' oc')).setCells r 0 zs)) :
    Calls Tryz.prog 13 #[valV 6 g a l c e s aa an ac oa on oc, strV key, valV k' g' a' l' c' e' s' aa' an' ac' oa' on' oc'] w Q := by
  unfold valV valCs strV at *
  generalize (⟨s.toArray⟩ : ByteArray) = sb at *
  generalize (⟨s'.toArray⟩ : ByteArray) = sb' at *
  generalize (⟨key.toArray⟩ : ByteArray) = kb at *
  obtain ⟨W, hW⟩ : ∃ W, W = ((w.alloc (.cells #[.int .i64 6, .bool g, .slice a l c, .int .i64 e, .string sb, .slice aa an ac, .slice oa on oc] 28)).alloc (.cells #[.int .i64 k', .bool g', .slice a' l' c', .int .i64 e', .string sb', .slice aa' an' ac', .slice oa' on' oc'] 28)).alloc (.cells #[.int .i64 0, .bool false, .slice none 0 0, .int .i64 0, .string ⟨#[]⟩, .slice none 0 0, .slice none 0 0] 28) := ⟨_, rfl⟩
  have hB := hid (show Below w.heap.size w W by rw [hW]; exact (alloc_below2 _ _ _).alloc (by simp; omega) _)
  have hX : Hid (BoxV W w.heap.size 6 g a l c e sb aa an ac oa on oc) := by
    rw [hW]
    exact ⟨by simp [go_sem], by simp [go_sem], by simp [go_sem], by simp [go_sem], by simp [go_sem], by simp [go_sem], by simp [go_sem]⟩
  have hY : Hid (BoxV W (w.heap.size + 1) k' g' a' l' c' e' sb' aa' an' ac' oa' on' oc') := by
    rw [hW]
    exact ⟨by simp [go_sem], by simp [go_sem], by simp [go_sem], by simp [go_sem], by simp [go_sem], by simp [go_sem], by simp [go_sem]⟩
  have hZ0 : (W.heap[w.heap.size + 1 + 1]? = some (.cells #[.int .i64 0, .bool false, .slice none 0 0, .int .i64 0, .string ⟨#[]⟩, .slice none 0 0, .slice none 0 0] 28)) := by
    rw [hW]
    have := blk_new ((w.alloc (.cells #[.int .i64 6, .bool g, .slice a l c, .int .i64 e, .string sb, .slice aa an ac, .slice oa on oc] 28)).alloc (.cells #[.int .i64 k', .bool g', .slice a' l' c', .int .i64 e', .string sb', .slice aa' an' ac', .slice oa' on' oc'] 28)) (.cells #[.int .i64 0, .bool false, .slice none 0 0, .int .i64 0, .string ⟨#[]⟩, .slice none 0 0, .slice none 0 0] 28)
    simpa [Nat.add_assoc] using this
  have hZ := hid hZ0
  clear hZ0
  replace hW := hid hW.symm
  replace h1 := hid h1
  replace h2 := hid h2
  replace h3 := hid h3
  replace h4 := hid h4
  replace h5 := hid h5
  replace h6 := hid h6
  replace hG := hid hG
  replace hGc := hid hGc
  replace hQ := hid hQ
  have hD1 : ((D : Int) == 200) = false := by rw [beq_eq_false_iff_ne]; omega
  have hD2 : (D == 200) = false := by rw [beq_eq_false_iff_ne]; exact hD
  clear hD
  go_enter Tryz.func13, Tryz.ntmps13
  go_wp2_with fail
  rw [hW.out]
  refine (h1.out _ hB.out).mono ?_
  rintro en w1 ⟨rfl, hb⟩
  replace hB := hid (below_trans hB.out hb)
  replace hX := hid (hX.out.stay hb)
  replace hY := hid (hY.out.stay hb)
  replace hZ := hid (blk_below hZ.out hb)
  obtain ⟨q0, q1, q2, q3, q4, q5, q6⟩ := hY.out
  clear hb hW
  go_wp2_with fail
  refine (h2.out _ hB.out).mono ?_
  rintro en w2 ⟨rfl, hb⟩
  replace hB := hid (below_trans hB.out hb)
  replace hX := hid (hX.out.stay hb)
  replace hY := hid (hY.out.stay hb)
  replace hZ := hid (blk_below hZ.out hb)
  clear hb q0 q1 q2 q3 q4 q5 q6
  go_wp2_with fail
  refine (h3.out _ hB.out).mono ?_
  rintro en w3 ⟨rfl, hb⟩
  replace hB := hid (below_trans hB.out hb)
  replace hX := hid (hX.out.stay hb)
  replace hY := hid (hY.out.stay hb)
  replace hZ := hid (blk_below hZ.out hb)
  obtain ⟨p0, p1, p2, p3, p4, p5, p6⟩ := hX.out
  obtain ⟨q0, q1, q2, q3, q4, q5, q6⟩ := hY.out
  clear hb
  go_wp2_with fail
  refine (h4.out _ hB.out).mono ?_
  rintro en w4 ⟨rfl, hb⟩
  replace hB := hid (below_trans hB.out hb)
  replace hX := hid (hX.out.stay hb)
  replace hY := hid (hY.out.stay hb)
  replace hZ := hid (blk_below hZ.out hb)
  clear p0 p1 p2 p3 p4 p5 p6 q0 q1 q2 q3 q4 q5 q6
  obtain ⟨p0, p1, p2, p3, p4, p5, p6⟩ := hX.out
  clear hb
  go_wp2_with fail
  refine (h5.out _ hB.out).mono ?_
  rintro en w5 ⟨q, cap, rfl, hq, hcap, hcm, hg5, hb⟩
  have hqw : Hid (w.heap.size ≤ q) := Nat.le_trans hB.out.size hq
  have hq2 : Hid (w.heap.size + 1 + 1 < q) := Nat.lt_of_lt_of_le (blk_lt hZ.out) hq
  replace hB := hid (below_trans hB.out hb)
  replace hX := hid (hX.out.stay hb)
  replace hY := hid (hY.out.stay hb)
  replace hZ := hid (blk_below hZ.out hb)
  clear hb p0 p1 p2 p3 p4 p5 p6
  obtain ⟨U, hU⟩ : ∃ U, U = w5.alloc (.cells #[.int .i64 6, .bool false, .slice none 0 0, .int .i64 0, .string ⟨#[]⟩, .slice none 0 0, .slice (some ⟨q, 0, none⟩) on cap] 28) := ⟨_, rfl⟩
  have hbU : Below w5.heap.size w5 U := by rw [hU]; exact (Below.refl _ _).alloc (Nat.le_refl _) _
  have hOut0 : U.heap[w5.heap.size]? = some (.cells #[.int .i64 6, .bool false, .slice none 0 0, .int .i64 0, .string ⟨#[]⟩, .slice none 0 0, .slice (some ⟨q, 0, none⟩) on cap] 28) := by rw [hU]; exact blk_new w5 _
  obtain ⟨p0, p1, p2, p3, p4, p5, p6⟩ := hX.out
  have hl5 := cell_lt p0
  have hOut := hid hOut0
  have hbU2 := hid hbU
  replace hU := hid hU.symm
  clear hOut0 hbU
  go_wp2_with fail
  rw [hU.out]
  refine (h6.out _ (below_trans hB.out hbU2.out)).mono ?_
  rintro en w6 ⟨rfl, hb⟩
  have hb56 := hid (below_trans hbU2.out hb)
  have hq5 : Hid (q < w5.heap.size) := cell_lt (hGc.out w5 q cap hg5).1.1
  have hG6 := hid (hG.out w5 q cap w6 hg5 hb56.out)
  replace hOut := hid (blk_below hOut.out hb)
  replace hB := hid (below_trans hB.out hb56.out)
  have hY6 := hid (hY.out.stay hb56.out)
  have hZ6 := hid (blk_below hZ.out hb56.out)
  clear hb hg5 hX hY hZ p0 p1 p2 p3 p4 p5 p6 hl5 hbU2 hU h1 h2 h3 h4 h5 h6
  obtain ⟨O, hO⟩ : ∃ O, O = w5.heap.size := ⟨_, rfl⟩
  rw [← hO] at hOut hq5 ⊢
  clear hO hb56
  obtain ⟨B, hBB⟩ : ∃ B, B = w.heap.size + 1 + 1 := ⟨_, rfl⟩
  rw [← hBB] at hZ6 hq2 ⊢
  have hwB : Hid (w.heap.size ≤ B) := by rw [hBB]; show w.heap.size ≤ _; omega
  clear hBB
  obtain ⟨⟨r0, r1, r2, r3, r4, r5, r6⟩, s0, s1, s2, s3, s4, s5, s6⟩ := blk_seven hZ6.out
  obtain ⟨⟨o0, o1, o2, o3, o4, o5, o6⟩, _⟩ := blk_seven hOut.out
  obtain ⟨x0, x1, x2, x3, x4, x5, x6⟩ := hY6.out
  obtain ⟨⟨g0, g1, g2, g3, g4, g5, g6⟩, gf⟩ := hGc.out w6 q cap hG6.out
  have f1 := gf (i * 8 + 1)
  have f2 := gf (i * 8 + 2)
  have f3 := gf (i * 8 + 3)
  have f4 := gf (i * 8 + 4)
  have f5 := gf (i * 8 + 5)
  have f6 := gf (i * 8 + 6)
  have f7 := gf (i * 8 + 7)
  have n1 : ¬ q = O := by have := hq5.out; omega
  have n2 : ¬ O = q := by have := hq5.out; omega
  have n3 : ¬ q = B := by have := hq2.out; omega
  have n4 : ¬ B = q := by have := hq2.out; omega
  have i0 : (0 : Int) ≤ (i : Int) := by omega
  have i1 : (i : Int) < (on : Int) := by omega
  have i2 : (on : Int) ≤ 9223372036854775807 := by omega
  clear gf hGc
  go_wp2_with fail
  refine bodyPost_ret (v := .tuple #[.agg #[.int .i64 6, .bool false, .slice none 0 0, .int .i64 0, .string ⟨#[]⟩, .slice none 0 0, .slice (some ⟨q, 0, none⟩) on cap], .int .i64 0]) (by simp [results, Tryz.results13, go_sem, r0, r1, r2, r3, r4, r5, r6]) rfl ?_
  exact hQ.out w6 q cap B [.int .i64 6, .bool false, .slice none 0 0, .int .i64 0, .string ⟨#[]⟩, .slice none 0 0, .slice (some ⟨q, 0, none⟩) on cap] hG6.out hB.out hqw.out hcap hcm (by have := hq2.out; omega) hwB.out

end Go.Proofs.YtgbgkodjjgjhgaaGreatDoor

namespace Go.Proofs.YtgbgkodjjgjhgaaGreatDoor
open Go.RowKit

theorem below_setCells {B : Nat} {a : World} (b : Nat) (hb : B ≤ b) : ∀ (vs : List Value) (o : Nat) (w : World), Below B a w → Below B a (w.setCells b o vs)
  | [], _, _, h => h
  | v :: vs, o, w, h => below_setCells b hb vs (o + 1) _ (h.setCell (by exact hb) v)
/-- A row of fields in a block. -/
def RowF (E : List FE) (W : World) (q cap : Nat) : Prop := ∃ cur, W.heap[q]? = some (.cells cur 53 (0, 0)) ∧ E.length ≤ cap ∧ cur.size = cap * 8 ∧ cur.toList.take (E.length * 8) = E.flatMap FE.enc
theorem RowF.stay {E : List FE} {W W' : World} {q cap : Nat} (h : RowF E W q cap) (hb : Below W.heap.size W W') : RowF E W' q cap := by
  obtain ⟨cur, h1, h2⟩ := h
  exact ⟨cur, blk_below h1 hb, h2⟩
theorem RowF.cell {E : List FE} {W : World} {q cap : Nat} (h : RowF E W q cap) {i : Nat} {f : FE} (hf : E[i]? = some f) {j : Nat} {v : Value} (hv : f.enc[j]? = some v) : W.cell? ⟨q, i * 8 + j, none⟩ = some v := by
  obtain ⟨cur, h1, h2, h3, h4⟩ := h
  have hj : j < 8 := by have := (List.getElem?_eq_some_iff.1 hv).1; rw [f.len] at this; exact this
  have hi := (List.getElem?_eq_some_iff.1 hf).1
  have e1 : cur[i * 8 + j]? = (E.flatMap FE.enc)[i * 8 + j]? := by
    rw [← h4, List.getElem?_take_of_lt (by omega), Array.getElem?_toList]
  rw [flat_at E i j f hf hj, hv] at e1
  simp only [World.cell?, h1]
  simpa using e1
theorem RowF.frozen {E : List FE} {W : World} {q cap : Nat} (h : RowF E W q cap) (j : Nat) : W.frozen? ⟨q, j, none⟩ = false := by
  obtain ⟨cur, h1, _⟩ := h
  simp [World.frozen?, h1]

theorem value_With_found (v x : JV) (cs cx : List Value) (key : List UInt8) (i : Nat) (w : World) (hv : mayJ 200 v = true) (hx : mayJ 200 x = true) (hk : soundB key = true) (hkl : key.length ≤ 9223372036854775807) (h6 : v.kind = 6) (hd : depthJ 200 x ≠ 200)
    (hi : idxO key v.obj 0 = (i : Int)) (hil : i < v.obj.length) (sv : SmallV v) (rv : RdV w cs v) (rx : RdV w cx x) (hT : Tabs w) :
    Calls Tryz.prog 13 #[.agg cs.toArray, strV key, .agg cx.toArray] w (OutV w (objV (v.obj.set i ((v.obj[i]'hil).1, x))) 0) := by
  have C1 := fun W (hb : Below w.heap.size w W) => value_May v cs W (rv.stay hb) (hT.below hb)
  have C2 := fun W (hb : Below w.heap.size w W) => value_May x cx W (rx.stay hb) (hT.below hb)
  have C3 := fun W (hb : Below w.heap.size w W) => value_sound key W hkl (hT.below hb).1
  have C4 := fun W (hb : Below w.heap.size w W) => value_Depth x cx W (rx.stay hb)
  have C6 := fun W (hb : Below w.heap.size w W) => value_place v cs key W sv (rv.stay hb)
  simp only [hv] at C1
  simp only [hx] at C2
  simp only [hk] at C3
  simp only [hi] at C6
  have hdl := depth_most 200 x
  obtain ⟨a, c, aa, ac, oa, oc, P⟩ := rv.parts
  have e := P.cells
  subst e
  obtain ⟨k', g', a', ln', c', e', s', aa', an', ac', oa', on', oc', rfl⟩ := rx.seven
  obtain ⟨⟨⟨_, _⟩, ho⟩, _⟩ := may_succ.1 hv
  have hol := sv.obj
  obtain ⟨b, off, hoa⟩ : ∃ b off, oa = some ⟨b, off, none⟩ := by
    obtain ⟨cs0, ⟨b, off, e, _⟩, _⟩ := P.obj i _ (List.getElem?_eq_getElem hil)
    exact ⟨b, off, e⟩
  subst hoa
  obtain ⟨E, e1, e2, e3⟩ := fes_of (obj := v.obj) (k := 0) (fun j y hy => by rw [Nat.zero_add]; exact P.obj j y hy) (fun p hp => (ho p hp).1)
  simp only [Nat.zero_add] at e3
  have hlen : E.length = v.obj.length := by rw [← e1]; simp
  have hiE : i < E.length := by omega
  have hEi := List.getElem?_eq_getElem hiE
  obtain ⟨y0, y1, y2, y3, y4, y5, y6, hcs⟩ := seven_of (E[i]).seven
  have henc : (E[i]).enc = [strV (E[i]).key, y0, y1, y2, y3, y4, y5, y6] := by unfold FE.enc; rw [hcs]
  have := with_walk v.g g' a a' v.ls.length ln' c c' k' v.e e' v.s s' aa aa' v.arr.length an' ac ac' (some ⟨b, off, none⟩) oa' v.obj.length on' oc oc' key i (depthJ 200 x) hd (by omega) hil w (OutV w (objV (v.obj.set i ((v.obj[i]'hil).1, x))) 0)
    y0 y1 y2 y3 y4 y5 y6 (fun W q cap => RowF E W q cap)
    (fun W hb => by have := C1 W hb; rw [h6] at this; exact this) C2 C3 C4
    (fun W hb => by
      rw [← hlen]
      refine (clone_fld b off oc E W (fun j f hf => (e3 j f hf).below hb) (by omega)).mono ?_
      rintro en w' ⟨q, cap, cur, rfl, k1, k2, k3, k4, k5, k6, k7⟩
      exact ⟨q, cap, rfl, k1, k3, by simpa [maxLen] using k4, ⟨cur, k2, k3, k5, k6⟩, k7⟩)
    (fun W hb => by have := C6 W hb; rw [h6] at this; exact this)
    (fun W q cap W' h hb => h.stay hb)
    (fun W q cap h => ⟨⟨h.cell hEi (j := 1) (by rw [henc]; rfl), h.cell hEi (j := 2) (by rw [henc]; rfl), h.cell hEi (j := 3) (by rw [henc]; rfl), h.cell hEi (j := 4) (by rw [henc]; rfl), h.cell hEi (j := 5) (by rw [henc]; rfl), h.cell hEi (j := 6) (by rw [henc]; rfl), h.cell hEi (j := 7) (by rw [henc]; rfl)⟩, h.frozen⟩)
    (fun W q cap r zs hG hb hqw hcap hcm hqr hrw => by
      have hbW : Below w.heap.size w ((W.setCells q (i * 8 + 1) (valCs k' g' a' ln' c' e' s' aa' an' ac' oa' on' oc')).setCells r 0 zs) := below_setCells r hrw _ _ _ (below_setCells q hqw _ _ _ hb)
      refine ⟨_, rfl, ?_, hbW⟩
      have hRO : RdO ((W.setCells q (i * 8 + 1) (valCs k' g' a' ln' c' e' s' aa' an' ac' oa' on' oc')).setCells r 0 zs) (some ⟨q, 0, none⟩) (v.obj.set i ((v.obj[i]'hil).1, x)) := by
        have hout : ∀ t, ((W.setCells q (i * 8 + 1) (valCs k' g' a' ln' c' e' s' aa' an' ac' oa' on' oc')).setCells r 0 zs).cell? ⟨q, t, none⟩ = (W.setCells q (i * 8 + 1) (valCs k' g' a' ln' c' e' s' aa' an' ac' oa' on' oc')).cell? ⟨q, t, none⟩ := fun t => World.cell?_setCells_out r zs 0 _ ⟨q, t, none⟩ (fun h => absurd h hqr)
        intro j y hy
        have hj : j < v.obj.length := by have := (List.getElem?_eq_some_iff.1 hy).1; simpa using this
        have hjE : j < E.length := by omega
        have hEj := List.getElem?_eq_getElem hjE
        have hfl : (E[j]).fld = v.obj[j] := by
          have : (E.map FE.fld)[j]? = v.obj[j]? := by rw [e1]
          rw [List.getElem?_map, hEj, List.getElem?_eq_getElem hj] at this
          simpa using this
        by_cases hji : j = i
        · subst hji
          rw [List.getElem?_set_self (by omega)] at hy
          injection hy with hy
          subst hy
          refine ⟨valCs k' g' a' ln' c' e' s' aa' an' ac' oa' on' oc', ⟨q, 0, rfl, fun t u hu => ?_⟩, ?_, rx.stay hbW⟩
          · rw [Nat.zero_add, hout]
            cases t with
            | zero =>
              rw [World.cell?_setCells_out q _ _ _ ⟨q, _, none⟩ (fun _ _ => by simp)]
              refine hG.cell hEj (j := 0) ?_
              unfold FE.enc
              rw [← hu, ← hfl]
              rfl
            | succ t =>
              have hu' : (valCs k' g' a' ln' c' e' s' aa' an' ac' oa' on' oc')[t]? = some u := by simpa using hu
              obtain ⟨ht, hue⟩ := List.getElem?_eq_some_iff.1 hu'
              have := World.cell?_setCells_in q (valCs k' g' a' ln' c' e' s' aa' an' ac' oa' on' oc') (j * 8 + 1) W (fun m hm => by
                have hm7 : m < 7 := by simpa [valCs] using hm
                have hle : m + 1 < (E[j]).enc.length := by rw [FE.len]; omega
                rw [show j * 8 + 1 + m = j * 8 + (m + 1) by omega, hG.cell hEj (List.getElem?_eq_getElem hle)]
                rfl) t ht
              rw [show j * 8 + (t + 1) = j * 8 + 1 + t by omega, this, hue]
          · have := (E[j]).short
            rw [show (v.obj[j]).1 = (E[j]).key by rw [← hfl]; rfl]
            exact this
        · rw [List.getElem?_set_ne (fun h => hji h.symm), List.getElem?_eq_getElem hj] at hy
          injection hy with hy
          subst hy
          rw [← hfl]
          refine ⟨(E[j]).cs, ⟨q, 0, rfl, fun t u hu => ?_⟩, (E[j]).short, (e2 _ (List.getElem_mem hjE)).stay hbW⟩
          have ht : t < 8 := by
            have h1 := (List.getElem?_eq_some_iff.1 hu).1
            have h2 := (E[j]).seven
            simp at h1
            omega
          rw [Nat.zero_add, hout, World.cell?_setCells_out q _ _ _ ⟨q, _, none⟩ (fun _ _ => by simp only [valCs, List.length_cons, List.length_nil]; omega)]
          exact hG.cell hEj hu
      refine PartsV.rd (v := objV (v.obj.set i ((v.obj[i]'hil).1, x))) (a := none) (c := 0) (aa := none) (ac := 0) (oa := some ⟨q, 0, none⟩) (oc := cap) ⟨?_, (show I64 6 by unfold I64; decide), (show I64 0 by unfold I64; decide), by show (0:Nat) ≤ _; omega, ⟨Nat.le_refl _, by omega⟩, ⟨by simpa [objV, JV.obj] using hcap, hcm⟩, ⟨Nat.le_refl _, by omega⟩, ⟨Row.nil _ _, fun x hx => by cases hx⟩, fun j y hy => by simp [objV, JV.arr] at hy, hRO⟩
      show valCs 6 false none 0 0 0 [] none 0 0 (some ⟨q, 0, none⟩) v.obj.length cap = _
      unfold valCs
      simp [objV, JV.kind, JV.g, JV.ls, JV.e, JV.s, JV.arr, JV.obj])
  rw [← h6] at this
  exact this

end Go.Proofs.YtgbgkodjjgjhgaaGreatDoor

namespace Go.Proofs.YtgbgkodjjgjhgaaGreatDoor
open Go.RowKit

def trueJ : JV := .mk 2 false [] 0 [] [] []
def oneJ : JV := .mk 3 false [1] 0 [] [] []
def objJ (a b : List UInt8) : JV := .mk 6 false [] 0 [] [] [(a, trueJ), (b, trueJ)]
def arrJ (v : JV) : JV := .mk 5 false [] 0 [] [v] []
def textJ : JV := .mk 4 false [] 0 [97] [] []

theorem ex_cmp1 : cmpVR (objJ [98] [97]) (objJ [97] [98]) = (0, 0) := by decide +kernel
theorem ex_cmp2 : cmpVR textJ oneJ = (1, 0) := by decide +kernel
theorem ex_may1 : mayJ 200 oneJ = true := by decide +kernel
theorem ex_may2 : mayJ 200 (objJ [97] [98]) = true := by decide +kernel
theorem ex_depth1 : depthJ 200 oneJ ≠ 200 := by decide +kernel
theorem ex_depth2 : depthJ 200 (arrJ (arrJ oneJ)) = 2 := by decide +kernel
theorem ex_idx : idxO [97] (objJ [97] [98]).obj 0 = ((0 : Nat) : Int) := by decide +kernel
theorem ex_sound : soundB [97] = true := by decide +kernel

theorem small_flat {v : JV} (h1 : v.arr = []) (h2 : v.obj = []) (h3 : v.s.length ≤ 1048576) : SmallV v :=
  .mk v (by rw [h1]; exact Nat.zero_le _) (by rw [h2]; exact Nat.zero_le _) h3 (fun x hx => by rw [h1] at hx; cases hx) (fun x hx => by rw [h2] at hx; cases hx) (fun x hx => by rw [h2] at hx; cases hx)
theorem small_true : SmallV trueJ := small_flat rfl rfl (by decide)
theorem small_one : SmallV oneJ := small_flat rfl rfl (by decide)
theorem small_text : SmallV textJ := small_flat rfl rfl (by decide)
theorem small_obj {a b : List UInt8} (ha : a.length ≤ 1048576) (hb : b.length ≤ 1048576) : SmallV (objJ a b) :=
  .mk _ (by show 0 ≤ _; omega) (by show 2 ≤ _; omega) (by show 0 ≤ _; omega) (fun x hx => by cases hx) (fun p hp => by
    rcases List.mem_cons.1 hp with rfl | hp
    · exact ha
    · rw [List.mem_singleton.1 hp]; exact hb) (fun p hp => by
    rcases List.mem_cons.1 hp with rfl | hp
    · exact small_true
    · rw [List.mem_singleton.1 hp]; exact small_true)
theorem cellsAt_blk {W : World} {b k : Nat} {arr : Array Value} {T : TypeId} {cs : List Value} (h : W.heap[b]? = some (.cells arr T (0, 0))) (hs : ∀ (j : Nat) (v : Value), cs[j]? = some v → arr[k + j]? = some v) : CellsAt W (some ⟨b, 0, none⟩) k cs :=
  ⟨b, 0, rfl, fun j v hv => by
    simp only [World.cell?, h, Nat.zero_add]
    simpa using hs j v hv⟩
theorem rdv_true (W : World) : RdV W (valCs 2 false none 0 0 0 [] none 0 0 none 0 0) trueJ :=
  PartsV.rd (v := trueJ) ⟨rfl, by unfold I64; decide, by unfold I64; decide, by decide, by decide, by decide, by decide, ⟨Row.nil _ _, fun x hx => by cases hx⟩, fun i x hx => by simp [trueJ, JV.arr] at hx, fun i x hx => by simp [trueJ, JV.obj] at hx⟩
theorem rdv_text (W : World) : RdV W (valCs 4 false none 0 0 0 [97] none 0 0 none 0 0) textJ :=
  PartsV.rd (v := textJ) ⟨rfl, by unfold I64; decide, by unfold I64; decide, by decide, by decide, by decide, by decide, ⟨Row.nil _ _, fun x hx => by cases hx⟩, fun i x hx => by simp [textJ, JV.arr] at hx, fun i x hx => by simp [textJ, JV.obj] at hx⟩

/-- A value of the call's own. -/
def OutC (w : World) (x : JV) (e : Ending) (w' : World) : Prop := ∃ cs, e = .returned (.agg cs.toArray) ∧ RdV w' cs x ∧ Below w.heap.size w w'

set_option maxRecDepth 100000 in
theorem law11_one (w : World) : Calls Tryz.prog 24 #[] w (OutC w oneJ) := by
  have hQ : ∀ W cap, W.heap[w.heap.size + 1]? = some (.cells #[.int .u32 1] 67 (0, 0)) → Below w.heap.size w W → cap = 1 → OutC w oneJ (.returned (.agg #[.int .i64 3, .bool false, .slice (some ⟨w.heap.size + 1, 0, none⟩) 1 cap, .int .i64 0, .string ⟨#[]⟩, .slice none 0 0, .slice none 0 0])) W := by
    rintro W cap h hb rfl
    refine ⟨valCs 3 false (some ⟨w.heap.size + 1, 0, none⟩) 1 1 0 [] none 0 0 none 0 0, rfl, ?_, hb⟩
    exact PartsV.rd (v := oneJ) ⟨rfl, by unfold I64; decide, by unfold I64; decide, by decide, by decide, by decide, by decide, ⟨fun j x hx => by
      match j, hx with
      | 0, hx =>
        simp [oneJ, JV.ls, u32s] at hx
        exact ⟨_, 0, rfl, by simp [World.cell?, h, ← hx]⟩
      | j + 1, hx => simp [oneJ, JV.ls, u32s] at hx, fun x hx => by
        simp only [oneJ, JV.ls, List.mem_singleton] at hx
        rw [hx]
        decide⟩, fun i x hx => by simp [oneJ, JV.arr] at hx, fun i x hx => by simp [oneJ, JV.obj] at hx⟩
  replace hQ := hid hQ
  go_enter Tryz.func24, Tryz.ntmps24
  go_wp2
  refine bodyPost_ret (v := .agg #[.int .i64 3, .bool false, .slice (some ⟨w.heap.size + 1, 0, none⟩) 1 1, .int .i64 0, .string ⟨#[]⟩, .slice none 0 0, .slice none 0 0]) (by simp [results, Tryz.results24, go_sem]) rfl ?_
  exact hQ.out _ 1 (blk_new2 w _ _) (alloc_below2 _ _ _) rfl

def row2 (a b : List UInt8) : Array Value := #[strV a, .int .i64 2, .bool false, .slice none 0 0, .int .i64 0, .string ⟨#[]⟩, .slice none 0 0, .slice none 0 0, strV b, .int .i64 2, .bool false, .slice none 0 0, .int .i64 0, .string ⟨#[]⟩, .slice none 0 0, .slice none 0 0]
theorem row2_a (a b : List UInt8) : ∀ (j : Nat) (v : Value), (strV a :: valCs 2 false none 0 0 0 [] none 0 0 none 0 0)[j]? = some v → (row2 a b)[0 * 8 + j]? = some v := by
  intro j v h
  match j, h with
  | 0, h | 1, h | 2, h | 3, h | 4, h | 5, h | 6, h | 7, h => simpa [valCs, row2, strV] using h
  | j + 8, h => simp [valCs] at h
theorem row2_b (a b : List UInt8) : ∀ (j : Nat) (v : Value), (strV b :: valCs 2 false none 0 0 0 [] none 0 0 none 0 0)[j]? = some v → (row2 a b)[1 * 8 + j]? = some v := by
  intro j v h
  match j, h with
  | 0, h | 1, h | 2, h | 3, h | 4, h | 5, h | 6, h | 7, h => simpa [valCs, row2, strV] using h
  | j + 8, h => simp [valCs] at h
set_option maxRecDepth 100000 in
theorem law11_object (a b : List UInt8) (w : World) (ha : a.length ≤ 1048576) (hb : b.length ≤ 1048576) : Calls Tryz.prog 23 #[strV a, strV b] w (OutC w (objJ a b)) := by
  have hQ : ∀ W, W.heap[w.heap.size + 1]? = some (.cells (row2 a b) 53 (0, 0)) → Below w.heap.size w W → OutC w (objJ a b) (.returned (.agg #[.int .i64 6, .bool false, .slice none 0 0, .int .i64 0, .string ⟨#[]⟩, .slice none 0 0, .slice (some ⟨w.heap.size + 1, 0, none⟩) 2 2])) W := by
    intro W h hbl
    refine ⟨valCs 6 false none 0 0 0 [] none 0 0 (some ⟨w.heap.size + 1, 0, none⟩) 2 2, rfl, ?_, hbl⟩
    refine PartsV.rd (v := objJ a b) ⟨rfl, (show I64 6 by unfold I64; decide), (show I64 0 by unfold I64; decide), by show 0 ≤ _; omega, ⟨Nat.le_refl _, by omega⟩, ⟨Nat.le_refl _, by show 2 ≤ _; omega⟩, ⟨Nat.le_refl _, by omega⟩, ⟨Row.nil _ _, fun x hx => by cases hx⟩, fun i x hx => by simp [objJ, JV.arr] at hx, fun i x hx => ?_⟩
    match i, hx with
    | 0, hx =>
      simp [objJ, JV.obj] at hx
      subst hx
      exact ⟨_, cellsAt_blk h (row2_a a b), by show a.length ≤ _; omega, rdv_true W⟩
    | 1, hx =>
      simp [objJ, JV.obj] at hx
      subst hx
      exact ⟨_, cellsAt_blk h (row2_b a b), by show b.length ≤ _; omega, rdv_true W⟩
    | i + 2, hx => simp [objJ, JV.obj] at hx
  unfold row2 strV at hQ
  unfold strV
  generalize objJ a b = J at *
  generalize (⟨a.toArray⟩ : ByteArray) = ab at *
  generalize (⟨b.toArray⟩ : ByteArray) = bb at *
  replace hQ := hid hQ
  go_enter Tryz.func23, Tryz.ntmps23
  go_wp2
  refine bodyPost_ret (v := .agg #[.int .i64 6, .bool false, .slice none 0 0, .int .i64 0, .string ⟨#[]⟩, .slice none 0 0, .slice (some ⟨w.heap.size + 1, 0, none⟩) 2 2]) (by simp [results, Tryz.results23, go_sem]) rfl ?_
  exact hQ.out _ (blk_new2 w _ _) (alloc_below2 _ _ _)

theorem blk_new3 (w : World) (o o2 o3 : Obj) : (((w.alloc o).alloc o2).alloc o3).heap[w.heap.size + 1 + 1]? = some o3 := by
  have h := blk_new ((w.alloc o).alloc o2) o3
  have e : ((w.alloc o).alloc o2).heap.size = w.heap.size + 1 + 1 := by simp
  rw [e] at h
  exact h
theorem seven_at {x0 x1 x2 x3 x4 x5 x6 : Value} : ∀ (j : Nat) (v : Value), ([x0, x1, x2, x3, x4, x5, x6] : List Value)[j]? = some v → (#[x0, x1, x2, x3, x4, x5, x6] : Array Value)[0 * 7 + j]? = some v := by
  intro j v h
  match j, h with
  | 0, h | 1, h | 2, h | 3, h | 4, h | 5, h | 6, h => simpa using h
  | j + 7, h => simp at h
set_option maxRecDepth 100000 in
theorem law11_array (v : JV) (cs : List Value) (w : World) (h : RdV w cs v) : Calls Tryz.prog 26 #[.agg cs.toArray] w (OutC w (arrJ v)) := by
  obtain ⟨k, g, a, ln, c, e, s, aa, an, ac, oa, on, oc, rfl⟩ := h.seven
  have hQ : ∀ W, W.heap[w.heap.size + 1 + 1]? = some (.cells (valCs k g a ln c e s aa an ac oa on oc).toArray 28 (0, 0)) → Below w.heap.size w W → OutC w (arrJ v) (.returned (.agg #[.int .i64 5, .bool false, .slice none 0 0, .int .i64 0, .string ⟨#[]⟩, .slice (some ⟨w.heap.size + 1 + 1, 0, none⟩) 1 1, .slice none 0 0])) W := by
    intro W hh hb
    refine ⟨valCs 5 false none 0 0 0 [] (some ⟨w.heap.size + 1 + 1, 0, none⟩) 1 1 none 0 0, rfl, ?_, hb⟩
    refine PartsV.rd (v := arrJ v) ⟨rfl, (show I64 5 by unfold I64; decide), (show I64 0 by unfold I64; decide), by show 0 ≤ _; omega, ⟨Nat.le_refl _, by show 1 ≤ _; omega⟩, ⟨Nat.le_refl _, by omega⟩, ⟨Nat.le_refl _, by omega⟩, ⟨Row.nil _ _, fun x hx => by cases hx⟩, fun i x hx => ?_, fun i x hx => by simp [arrJ, JV.obj] at hx⟩
    match i, hx with
    | 0, hx =>
      simp [arrJ, JV.arr] at hx
      subst hx
      exact ⟨_, cellsAt_blk (arr := (valCs k g a ln c e s aa an ac oa on oc).toArray) hh seven_at, h.stay hb⟩
    | i + 1, hx => simp [arrJ, JV.arr] at hx
  clear h
  generalize arrJ v = J at *
  unfold valCs strV at *
  generalize (⟨s.toArray⟩ : ByteArray) = sb at *
  replace hQ := hid hQ
  go_enter Tryz.func26, Tryz.ntmps26
  go_wp2
  refine bodyPost_ret (v := .agg #[.int .i64 5, .bool false, .slice none 0 0, .int .i64 0, .string ⟨#[]⟩, .slice (some ⟨w.heap.size + 1 + 1, 0, none⟩) 1 1, .slice none 0 0]) (by simp [results, Tryz.results26, go_sem]) rfl ?_
  refine hQ.out _ ?_ ?_
  · exact blk_new3 _ _ _ _
  · exact (alloc_below2 _ _ _).alloc (by simp; omega) _

end Go.Proofs.YtgbgkodjjgjhgaaGreatDoor

namespace Go.Proofs.YtgbgkodjjgjhgaaGreatDoor
open Go.RowKit

set_option maxRecDepth 100000 in
set_option maxHeartbeats 8000000 in
theorem law11_shown (w : World) (hT : Tabs w) : Calls Tryz.prog 10 #[] w fun e w' => e = .returned (.bool true) ∧ Below w.heap.size w w' := by
  have HT := hid hT
  clear hT
  go_enter Tryz.func10, Tryz.ntmps10
  go_wp2_with fail
  refine (law11_object [98] [97] w (by decide) (by decide)).mono ?_
  rintro en w1 ⟨c1, rfl, r1, b1⟩
  replace r1 := hid r1
  replace b1 := hid b1
  go_wp2_with fail
  refine (law11_object [97] [98] w1 (by decide) (by decide)).mono ?_
  rintro en w2 ⟨c2, rfl, r2, b2⟩
  have C := value_Cmp (objJ [98] [97]) (objJ [97] [98]) c1 c2 w2 (small_obj (by decide) (by decide)) (small_obj (by decide) (by decide)) (r1.out.stay b2) r2 (HT.out.below (below_trans b1.out b2))
  rw [ex_cmp1] at C
  replace C := hid C
  have B2 := hid (below_trans b1.out b2)
  clear r1 r2 b1 b2
  go_wp2_with fail
  refine C.out.mono ?_
  rintro en w3 ⟨rfl, b3⟩
  have B3 := hid (below_trans B2.out b3)
  clear b3 B2 C
  go_wp2_with fail
  refine (law11_one w3).mono ?_
  rintro en w4 ⟨c4, rfl, r4, b4⟩
  have B4 := hid (below_trans B3.out b4)
  have C := value_Cmp textJ oneJ _ c4 w4 small_text small_one (rdv_text w4) r4 (HT.out.below B4.out)
  rw [ex_cmp2] at C
  replace C := hid C
  clear r4 b4 B3
  go_wp2_with fail
  refine C.out.mono ?_
  rintro en w5 ⟨rfl, b5⟩
  have B5 := hid (below_trans B4.out b5)
  clear b5 B4 C
  go_wp2_with fail
  refine (law11_object [97] [98] w5 (by decide) (by decide)).mono ?_
  rintro en w6 ⟨c6, rfl, r6, b6⟩
  have B6 := hid (below_trans B5.out b6)
  replace r6 := hid r6
  clear b6 B5
  go_wp2_with fail
  refine (law11_one w6).mono ?_
  rintro en w7 ⟨c7, rfl, r7, b7⟩
  have B7 := hid (below_trans B6.out b7)
  have C := value_With_found (objJ [97] [98]) oneJ c6 c7 [97] 0 w7 ex_may2 ex_may1 ex_sound (by decide) rfl ex_depth1 ex_idx (by decide) (small_obj (by decide) (by decide)) (r6.out.stay b7) r7 (HT.out.below B7.out)
  replace C := hid C
  clear r6 r7 b7 B6
  go_wp2_with fail
  refine C.out.mono ?_
  rintro en w8 ⟨c8, rfl, r8, b8⟩
  have B8 := hid (below_trans B7.out b8)
  obtain ⟨a8, d8, aa8, ac8, oa8, oc8, P8⟩ := r8.parts
  have e8 := P8.cells
  have hO := P8.obj.at (k := 0) (by decide)
  obtain ⟨b, off, a9, d9, aa9, ac9, oa9, oc9, rfl, _, _, C9⟩ := hO
  obtain ⟨_, C91, _⟩ := C9
  replace C91 : w8.cell? ⟨b, off + 0 * 8 + 1, none⟩ = some (.int .i64 3) := C91
  replace e8 : c8 = [.int .i64 6, .bool false, .slice a8 0 d8, .int .i64 0, .string ⟨#[]⟩, .slice aa8 0 ac8, .slice (some ⟨b, off, none⟩) 2 oc8] := e8
  subst e8
  clear r8 P8 b8 B7 C
  simp only [Nat.zero_mul, Nat.add_zero] at C91
  have hl := cell_lt C91
  rename_i z1 z2 z3 z4
  clear z1 z2 z3 z4
  have B9 := hid (below_trans B8.out ((Below.refl w8.heap.size w8).alloc (Nat.le_refl _) (.cells #[.int .i64 6, .bool false, .slice a8 0 d8, .int .i64 0, .string ⟨#[]⟩, .slice aa8 0 ac8, .slice (some ⟨b, off, none⟩) 2 oc8] 28)))
  go_wp2_with fail
  refine (law11_one _).mono ?_
  rintro en wa ⟨ca, rfl, ra, ba⟩
  have BA := hid (below_trans B9.out ba)
  clear ba B9 B8 C91 hl
  have Ca := hid (law11_array oneJ ca wa ra)
  go_wp2_with fail
  refine Ca.out.mono ?_
  rintro en wb ⟨cb, rfl, rb, bb⟩
  have BB := hid (below_trans BA.out bb)
  have Cb := hid (law11_array (arrJ oneJ) cb wb rb)
  clear bb BA ra Ca rb
  go_wp2_with fail
  refine Cb.out.mono ?_
  rintro en wc ⟨cc, rfl, rc, bc⟩
  have BC := hid (below_trans BB.out bc)
  have Cc := value_Depth (arrJ (arrJ oneJ)) cc wc rc
  rw [ex_depth2] at Cc
  replace Cc := hid Cc
  clear bc BB Cb rc
  go_wp2_with fail
  refine Cc.out.mono ?_
  rintro en wd ⟨rfl, bd⟩
  have BD := hid (below_trans BC.out bd)
  clear bd BC Cc
  go_wp2_with fail
  refine (law11_one wd).mono ?_
  rintro en we ⟨ce, rfl, re, be⟩
  have BE := hid (below_trans BD.out be)
  have Ce := value_May oneJ ce we re (HT.out.below BE.out)
  rw [ex_may1] at Ce
  replace Ce := hid Ce
  clear be BD re
  go_wp2_with fail
  refine Ce.out.mono ?_
  rintro en wf ⟨rfl, bf⟩
  have BF := hid (below_trans BE.out bf)
  clear bf BE Ce
  go_wp2_with fail
  go_ret
  exact ⟨rfl, BF.out⟩

end Go.Proofs.YtgbgkodjjgjhgaaGreatDoor
