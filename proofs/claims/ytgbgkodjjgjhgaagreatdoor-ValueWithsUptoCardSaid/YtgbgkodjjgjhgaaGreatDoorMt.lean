/- What the document's answer makes of an object and a key: plain laws. The document's answer: an object with a key set. Its loop and what follows, walked. The document's answer: an object with a key set. -/
import Derived.Test.YtgbgkodjjgjhgaaGreatDoorMp
import Derived.Test.YtgbgkodjjgjhgaaGreatDoorMq
namespace Go.Proofs.YtgbgkodjjgjhgaaGreatDoor
open Go.RowKit

def setL (k : List UInt8) (x : JV) (l : List Fld) : List Fld := l.map fun p => if p.1 = k then (k, x) else p
theorem setL_none {k : List UInt8} {x : JV} : ∀ {l : List Fld}, hasO k l = false → setL k x l = l
  | [], _ => rfl
  | p :: l, h => by
    simp only [hasO, List.any_cons, Bool.or_eq_false_iff, decide_eq_false_iff_not] at h
    show (if p.1 = k then (k, x) else p) :: setL k x l = p :: l
    rw [if_neg h.1, setL_none (l := l) h.2]
theorem setO_has {k : List UInt8} {x : JV} {l : List Fld} (h : hasO k l = true) : setO k x l = setL k x l := by unfold setO; rw [if_pos h]; rfl
theorem setO_new {k : List UInt8} {x : JV} {l : List Fld} (h : hasO k l = false) : setO k x l = setL k x l ++ [(k, x)] := by unfold setO; rw [if_neg (by rw [h]; decide), setL_none h]
theorem setL_app (k : List UInt8) (x : JV) (l m : List Fld) : setL k x (l ++ m) = setL k x l ++ setL k x m := by unfold setL; exact List.map_append
theorem hasO_app (k : List UInt8) (l m : List Fld) : hasO k (l ++ m) = (hasO k l || hasO k m) := by unfold hasO; exact List.any_append
/-- Whether what was made may be. -/
theorem with_deep {v x : JV} {k : List UInt8} (hv : mayJ 200 v = true) (hx : mayJ 200 x = true) (hk : soundB k = true) : mayJ 200 (objV (setO k x v.obj)) = !decide (depthJ 200 x = 200) := by
  by_cases hd : depthJ 200 x = 200
  · rw [decide_eq_true hd]
    show _ = false
    rw [Bool.eq_false_iff]
    intro h
    have h1 := (obj_may.1 h).1 (k, x) (get_mem (get_set_same k x v.obj))
    have := may_depth 199 200 x h1.2 (by omega)
    omega
  · rw [decide_eq_false hd]
    have h0 := may_depth 200 200 x hx (Nat.le_refl _)
    exact set_may hv (may_down 199 200 x hx (by omega) (by omega)) hk
/-- What has been made reads as an object. -/
theorem OutRow.rd {w W : World} {O : Nat} {V : Value} {L : List Fld} (h : OutRow w W O V L) (hL : L.length ≤ 9223372036854775807) : ∃ (oa : Option Addr) (oc : Nat), V = .slice oa L.length oc ∧ RdV W (valCs 6 false none 0 0 0 [] none 0 0 oa L.length oc) (objV L) := by
  obtain ⟨oa, oc, e, hro, h1, h2⟩ := h.shut hL
  refine ⟨oa, oc, e, ?_⟩
  refine PartsV.rd (v := objV L) (a := none) (c := 0) (aa := none) (ac := 0) (oa := oa) (oc := oc) ⟨rfl, (show I64 6 by unfold I64; decide), (show I64 0 by unfold I64; decide), by show (0:Nat) ≤ _; omega, ⟨Nat.le_refl _, by omega⟩, ⟨h1, h2⟩, ⟨Nat.le_refl _, by omega⟩, ⟨Row.nil _ _, fun x hx => by cases hx⟩, fun j y hy => by simp [objV, JV.arr] at hy, ?_⟩
  intro i x hx
  obtain ⟨cs, h3, h4, h5⟩ := hro i x hx
  exact ⟨cs, h3, h4, h5.stay h.bel⟩

end Go.Proofs.YtgbgkodjjgjhgaaGreatDoor

namespace Go.Proofs.YtgbgkodjjgjhgaaGreatDoor
open Go.RowKit

theorem blk_eight {w : World} {N : Nat} {x0 x1 x2 x3 x4 x5 x6 x7 : Value} {T : TypeId} (h : w.heap[N]? = some (.cells #[x0, x1, x2, x3, x4, x5, x6, x7] T (0, 0))) :
    (w.cell? ⟨N, 0, none⟩ = some x0 ∧ w.cell? ⟨N, 1, none⟩ = some x1 ∧ w.cell? ⟨N, 2, none⟩ = some x2 ∧ w.cell? ⟨N, 3, none⟩ = some x3 ∧ w.cell? ⟨N, 4, none⟩ = some x4 ∧ w.cell? ⟨N, 5, none⟩ = some x5 ∧ w.cell? ⟨N, 6, none⟩ = some x6 ∧ w.cell? ⟨N, 7, none⟩ = some x7) ∧
    (w.frozen? ⟨N, 0, none⟩ = false ∧ w.frozen? ⟨N, 1, none⟩ = false ∧ w.frozen? ⟨N, 2, none⟩ = false ∧ w.frozen? ⟨N, 3, none⟩ = false ∧ w.frozen? ⟨N, 4, none⟩ = false ∧ w.frozen? ⟨N, 5, none⟩ = false ∧ w.frozen? ⟨N, 6, none⟩ = false ∧ w.frozen? ⟨N, 7, none⟩ = false) :=
  ⟨⟨blk_cell h 0, blk_cell h 1, blk_cell h 2, blk_cell h 3, blk_cell h 4, blk_cell h 5, blk_cell h 6, blk_cell h 7⟩, blk_frozen h 0, blk_frozen h 1, blk_frozen h 2, blk_frozen h 3, blk_frozen h 4, blk_frozen h 5, blk_frozen h 6, blk_frozen h 7⟩
theorem blk8_set {w : World} {N : Nat} {x0 x1 x2 x3 x4 x5 x6 x7 y1 y2 y3 y4 y5 y6 y7 : Value} {T : TypeId} (h : w.heap[N]? = some (.cells #[x0, x1, x2, x3, x4, x5, x6, x7] T (0, 0))) : (w.setCells N 1 [y1, y2, y3, y4, y5, y6, y7]).heap[N]? = some (.cells #[x0, y1, y2, y3, y4, y5, y6, y7] T (0, 0)) := by
  simp [World.setCells, World.setCell, Array.getElem?_modify, h]
theorem heap_setCells {N M : Nat} (hn : M ≠ N) : ∀ (vs : List Value) (o : Nat) (w : World), (w.setCells N o vs).heap[M]? = w.heap[M]?
  | [], _, _ => rfl
  | v :: vs, o, w => by
    show ((w.setCell ⟨N, o, none⟩ v).setCells N (o + 1) vs).heap[M]? = _
    rw [heap_setCells hn vs (o + 1), Below.heap_setCell _ _ _ _ hn]
theorem owns_setCells {base : Nat} {e : TypeId} {size : Nat} {v : Value} {n : Nat} {xs : List Value} {w : World} {N : Nat} (h : w.ownsRow base e size v n xs) (hN : some N ≠ v.ownBlock) (o : Nat) (vs : List Value) : (w.setCells N o vs).ownsRow base e size v n xs := by
  refine ⟨h.1, ?_⟩
  rcases h.2 with hn | ⟨g, cap, cur, rfl, hb, hg, rest⟩
  · exact .inl hn
  · refine .inr ⟨g, cap, cur, rfl, hb, ?_, rest⟩
    rw [heap_setCells (fun e => hN (by rw [← e]; rfl))]
    exact hg

set_option maxRecDepth 100000 in
set_option maxHeartbeats 16000000 in
theorem refwi_loop (k : Int) (hk : k = 6 ∨ k = 0) (g g' : Bool) (a a' : Option Addr) (l l' c c' : Nat) (k' e e' : Int) (s s' : List UInt8) (aa aa' : Option Addr) (an an' ac ac' : Nat) (oa oa' : Option Addr) (oc on' oc' : Nat) (key : List UInt8) (x : JV) (w : World) (obj : List Fld) (hO : RdO w oa obj) (hol : obj.length ≤ 1048576) (hol2 : obj.length + 1 ≤ 1048576) (hso : ∀ p ∈ obj, soundB p.1 = true) (hks : soundB key = true) (hkl : key.length ≤ 9223372036854775807)
    (rx : RdV w (valCs k' g' a' l' c' e' s' aa' an' ac' oa' on' oc') x) (m3 : Bool) (R : JV) (err : Nat) (hR1 : m3 = true → R = objV (setO key x obj) ∧ err = 0) (hR2 : m3 = false → R = .null ∧ err = 6)
    (h1 : ∀ W, Below w.heap.size w W → Calls Tryz.prog 28 #[valV k g a l c e s aa an ac oa obj.length oc] W fun en w' => en = .returned (.bool true) ∧ Below W.heap.size W w')
    (h2 : ∀ W, Below w.heap.size w W → Calls Tryz.prog 28 #[valV k' g' a' l' c' e' s' aa' an' ac' oa' on' oc'] W fun en w' => en = .returned (.bool true) ∧ Below W.heap.size W w')
    (h3 : ∀ W, Below w.heap.size w W → Calls Tryz.prog 33 #[strV key] W fun en w' => en = .returned (.bool true) ∧ Below W.heap.size W w')
    (h4 : ∀ W cs, Below w.heap.size w W → RdV W cs (objV (setO key x obj)) → Calls Tryz.prog 28 #[.agg cs.toArray] W fun en w' => en = .returned (.bool m3) ∧ Below W.heap.size W w') :
    Calls Tryz.prog 14 #[valV k g a l c e s aa an ac oa obj.length oc, strV key, valV k' g' a' l' c' e' s' aa' an' ac' oa' on' oc'] w (OutV w R err) := by
  replace hR1 := hid hR1
  replace hR2 := hid hR2
  obtain ⟨fx, fx1, fx2, fx3⟩ : ∃ f : FE, f.fld = (key, x) ∧ RdV w f.cs f.v ∧ f.enc = strV key :: valCs k' g' a' l' c' e' s' aa' an' ac' oa' on' oc' := ⟨⟨key, x, valCs k' g' a' l' c' e' s' aa' an' ac' oa' on' oc', hks, hkl, rfl, parts_one rx⟩, rfl, rx, rfl⟩
  unfold valCs at fx3
  clear rx
  unfold valV strV at *
  generalize (⟨s.toArray⟩ : ByteArray) = sb at *
  generalize (⟨s'.toArray⟩ : ByteArray) = sb' at *
  obtain ⟨kb, hkb⟩ : ∃ kb : ByteArray, kb = ⟨key.toArray⟩ := ⟨_, rfl⟩
  rw [← hkb] at h3 fx3 ⊢
  replace fx1 := hid fx1
  replace fx2 := hid fx2
  replace fx3 := hid fx3
  replace hkb := hid hkb
  generalize hon : obj.length = on at *
  replace hon := hid hon
  replace hO := hid hO
  replace hso := hid hso
  obtain ⟨W, hW⟩ : ∃ W, W = ((w.alloc (.cells #[.int .i64 k, .bool g, .slice a l c, .int .i64 e, .string sb, .slice aa an ac, .slice oa on oc] 28)).alloc (.cells #[.int .i64 k', .bool g', .slice a' l' c', .int .i64 e', .string sb', .slice aa' an' ac', .slice oa' on' oc'] 28)).alloc (.cells #[.int .i64 0, .bool false, .slice none 0 0, .int .i64 0, .string ⟨#[]⟩, .slice none 0 0, .slice none 0 0] 28) := ⟨_, rfl⟩
  have hB := hid (show Below w.heap.size w W by rw [hW]; exact (alloc_below2 _ _ _).alloc (by simp; omega) _)
  have hX : Hid (W.heap[w.heap.size]? = some (.cells #[.int .i64 k, .bool g, .slice a l c, .int .i64 e, .string sb, .slice aa an ac, .slice oa on oc] 28)) := by
    rw [hW]
    exact blk_alloc (blk_alloc (blk_new w _) _) _
  have hY : Hid (W.heap[w.heap.size + 1]? = some (.cells #[.int .i64 k', .bool g', .slice a' l' c', .int .i64 e', .string sb', .slice aa' an' ac', .slice oa' on' oc'] 28)) := by
    rw [hW]
    exact blk_alloc (blk_new2 w _ _) _
  have hZ : Hid (W.heap[w.heap.size + 1 + 1]? = some (.cells #[.int .i64 0, .bool false, .slice none 0 0, .int .i64 0, .string ⟨#[]⟩, .slice none 0 0, .slice none 0 0] 28)) := by
    rw [hW]
    have := blk_new ((w.alloc (.cells #[.int .i64 k, .bool g, .slice a l c, .int .i64 e, .string sb, .slice aa an ac, .slice oa on oc] 28)).alloc (.cells #[.int .i64 k', .bool g', .slice a' l' c', .int .i64 e', .string sb', .slice aa' an' ac', .slice oa' on' oc'] 28)) (.cells #[.int .i64 0, .bool false, .slice none 0 0, .int .i64 0, .string ⟨#[]⟩, .slice none 0 0, .slice none 0 0] 28)
    show _ = _
    simpa [Nat.add_assoc] using this
  replace hW := hid hW.symm
  replace h1 := hid h1
  replace h2 := hid h2
  replace h3 := hid h3
  replace h4 := hid h4
  obtain ⟨i0, i1, i2, i3, zv, i4, i5⟩ := infoField
  replace i1 := hid i1
  replace i2 := hid i2
  replace i3 := hid i3
  replace i4 := hid i4
  replace i5 := hid i5
  have hkH := hid hk
  clear hk
  all_goals
    obtain ⟨⟨p0, p1, p2, p3, p4, p5, p6⟩, _⟩ := blk_seven hX.out
    go_enter Tryz.func14, Tryz.ntmps14
    go_wp2_with fail
    rw [hW.out]
    refine (h1.out _ hB.out).mono ?_
    rintro en w1 ⟨rfl, hb⟩
    replace hB := hid (below_trans hB.out hb)
    replace hX := hid (blk_below hX.out hb)
    replace hY := hid (blk_below hY.out hb)
    replace hZ := hid (blk_below hZ.out hb)
    clear p0 p1 p2 p3 p4 p5 p6 hb hW
    obtain ⟨⟨p0, p1, p2, p3, p4, p5, p6⟩, _⟩ := blk_seven hY.out
    go_wp2_with fail
    refine (h2.out _ hB.out).mono ?_
    rintro en w2 ⟨rfl, hb⟩
    replace hB := hid (below_trans hB.out hb)
    replace hX := hid (blk_below hX.out hb)
    replace hY := hid (blk_below hY.out hb)
    replace hZ := hid (blk_below hZ.out hb)
    clear p0 p1 p2 p3 p4 p5 p6 hb
    go_wp2_with fail
    refine (h3.out _ hB.out).mono ?_
    rintro en w3 ⟨rfl, hb⟩
    replace hB := hid (below_trans hB.out hb)
    replace hX := hid (blk_below hX.out hb)
    replace hY := hid (blk_below hY.out hb)
    replace hZ := hid (blk_below hZ.out hb)
    clear hb
    obtain ⟨⟨p0, p1, p2, p3, p4, p5, p6⟩, _⟩ := blk_seven hX.out
    have hOR : Hid (OutRow w (w3.alloc (.cells #[.int .i64 6, .bool false, .slice none 0 0, .int .i64 0, .string ⟨#[]⟩, .slice none 0 0, .slice none 0 0] 28)) w3.heap.size (.slice none 0 0) []) :=
      ⟨blk_new w3 _, ⟨[], rfl, (fun f hf => by cases hf), ⟨by simp, .inl ⟨rfl, rfl⟩⟩⟩, hB.out.alloc hB.out.size _, hB.out.size⟩
    have hX3 := hid (blk_alloc hX.out (.cells #[.int .i64 6, .bool false, .slice none 0 0, .int .i64 0, .string ⟨#[]⟩, .slice none 0 0, .slice none 0 0] 28))
    have hY3 := hid (blk_alloc hY.out (.cells #[.int .i64 6, .bool false, .slice none 0 0, .int .i64 0, .string ⟨#[]⟩, .slice none 0 0, .slice none 0 0] 28))
    have hZ3 := hid (blk_alloc hZ.out (.cells #[.int .i64 6, .bool false, .slice none 0 0, .int .i64 0, .string ⟨#[]⟩, .slice none 0 0, .slice none 0 0] 28))
    have hXl : Hid (w.heap.size < w3.heap.size) := blk_lt hX.out
    have hYl : Hid (w.heap.size + 1 < w3.heap.size) := blk_lt hY.out
    have hZl : Hid (w.heap.size + 1 + 1 < w3.heap.size) := blk_lt hZ.out
    go_upto_region 3 with fail
    go_cut [33] from 26 (fun v33 w' => v33 = .bool false ∧ w' = w3)
    case first =>
      rcases hkH.out with rfl | rfl
      all_goals
        go_wp2_with fail
        go_meet
        case rel => exact ⟨rfl, rfl⟩
    case rest =>
    obtain ⟨rfl, hw3⟩ := hcut
    rw [hw3]
    clear hw3
    go_upto_region 8 with fail
    clear p0 p1 p2 p3 p4 p5 p6 h1 h2 h3 hX hY hZ hB
    generalize w3.alloc (.cells #[.int .i64 6, .bool false, .slice none 0 0, .int .i64 0, .string ⟨#[]⟩, .slice none 0 0, .slice none 0 0] 28) = w4 at *
    generalize w3.heap.size = O at *
    obtain ⟨Z, hZe⟩ : ∃ Z, Z = w.heap.size + 1 + 1 := ⟨_, rfl⟩
    have hwZ : Hid (w.heap.size ≤ Z) := by rw [hZe]; show w.heap.size ≤ _; omega
    rw [← hZe] at hZ3 hZl ⊢
    clear hZe
    obtain ⟨Y, hYe⟩ : ∃ Y, Y = w.heap.size + 1 := ⟨_, rfl⟩
    rw [← hYe] at hY3 hYl ⊢
    clear hYe
    obtain ⟨X, hXe⟩ : ∃ X, X = w.heap.size := ⟨_, rfl⟩
    rw [← hXe] at hX3 hXl ⊢
    clear hXe
    go_loopw [9, 10] (fun v9 v10 wr => ∃ (j : Nat) (V : Value), j ≤ on ∧ Hid (OutRow w wr O V (setL key x (obj.take j))) ∧ v9 = .bool (hasO key (obj.take j)) ∧ v10 = .int .i64 j ∧ Hid (wr.heap[Z]? = some (.cells #[.int .i64 0, .bool false, .slice none 0 0, .int .i64 0, .string ⟨#[]⟩, .slice none 0 0, .slice none 0 0] 28)) ∧ Hid (wr.heap[X]? = some (.cells #[.int .i64 k, .bool g, .slice a l c, .int .i64 e, .string sb, .slice aa an ac, .slice oa on oc] 28)) ∧ Hid (wr.heap[Y]? = some (.cells #[.int .i64 k', .bool g', .slice a' l' c', .int .i64 e', .string sb', .slice aa' an' ac', .slice oa' on' oc'] 28))) (fun _ v10 _ => on - (intOf v10).toNat)
    case atStart => exact ⟨0, _, Nat.zero_le _, hid (by simpa [setL] using hOR.out), rfl, rfl, hZ3, hX3, hY3⟩
    case round =>
      obtain ⟨j, V, hj, hR, rfl, rfl, hz, hv, hy⟩ := hrel
      clear hOR hZ3 hX3 hY3
      obtain ⟨⟨p0, p1, p2, p3, p4, p5, p6⟩, _⟩ := blk_seven hv.out
      have hpl := cell_lt p0
      obtain ⟨fd, hfd⟩ : ∃ fd, fd = hasO key (obj.take j) := ⟨_, rfl⟩
      rw [← hfd]
      replace hfd := hid hfd
      by_cases hlt : j < on
      · have hlt2 : (j : Int) < (on : Int) := by omega
        have hj1 : j < obj.length := by rw [hon.out]; exact hlt
        obtain ⟨b0, off0, a0, c0, aa0, ac0, oa0, oc0, rfl, hkl0, P0, C0⟩ := hO.out.at hj1
        have hsk := hso.out _ (List.getElem_mem hj1)
        unfold Cells8f strV at C0
        obtain ⟨y, hyy⟩ : ∃ y, y = obj[j] := ⟨_, rfl⟩
        have htk : Hid (obj.take (j + 1) = obj.take j ++ [y]) := by show _ = _; rw [List.take_succ_eq_append_getElem hj1, hyy]
        rw [← hyy] at C0 P0 hkl0 hsk
        clear hyy
        obtain ⟨kx, y⟩ := y
        simp only at C0 P0 hkl0 hsk
        have hbw := hR.out.bel
        obtain ⟨s0, s1, s2, s3, s4, s5, s6, s7⟩ := C0
        replace s0 := cell_stay s0 hbw
        replace s1 := cell_stay s1 hbw
        replace s2 := cell_stay s2 hbw
        replace s3 := cell_stay s3 hbw
        replace s4 := cell_stay s4 hbw
        replace s5 := cell_stay s5 hbw
        replace s6 := cell_stay s6 hbw
        replace s7 := cell_stay s7 hbw
        clear hbw
        obtain ⟨f, hf1, hf2, hf3⟩ : ∃ f : FE, f.fld = (kx, y) ∧ RdV w f.cs f.v ∧ f.enc = strV kx :: valCs y.kind y.g a0 y.ls.length c0 y.e y.s aa0 y.arr.length ac0 oa0 y.obj.length oc0 :=
          ⟨⟨kx, y, valCs y.kind y.g a0 y.ls.length c0 y.e y.s aa0 y.arr.length ac0 oa0 y.obj.length oc0, hsk, hkl0, rfl, parts_one P0.rd⟩, rfl, P0.rd, rfl⟩
        clear P0 hsk hkl0
        unfold valCs strV at hf3
        have hq1 := beq_s kx key
        rw [show decide (keyC kx key = 0) = decide (kx = key) from decide_eq_decide.2 ⟨keyC_eq, fun h => by rw [h]; exact keyC_refl _⟩, ← hkb.out] at hq1
        obtain ⟨kxb, hkx⟩ : ∃ kxb : ByteArray, kxb = ⟨kx.toArray⟩ := ⟨_, rfl⟩
        rw [← hkx] at s0 hf3 hq1
        replace hkx := hid hkx
        generalize (⟨y.s.toArray⟩ : ByteArray) = ysb at *
        replace hf3 := hid hf3
        replace hf2 := hid hf2
        replace hf1 := hid hf1
        obtain ⟨qb, hqb⟩ : ∃ qb, qb = decide (kx = key) := ⟨_, rfl⟩
        rw [← hqb] at hq1
        replace hqb := hid hqb
        obtain ⟨U, hU⟩ : ∃ U, U = wr.alloc (.cells #[.string kxb, .int .i64 y.kind, .bool y.g, .slice a0 y.ls.length c0, .int .i64 y.e, .string ysb, .slice aa0 y.arr.length ac0, .slice oa0 y.obj.length oc0] 53) := ⟨_, rfl⟩
        have hbU : Below wr.heap.size wr U := by rw [hU]; exact (Below.refl _ _).alloc (Nat.le_refl _) _
        have hFb : Hid (U.heap[wr.heap.size]? = some (.cells #[.string kxb, .int .i64 y.kind, .bool y.g, .slice a0 y.ls.length c0, .int .i64 y.e, .string ysb, .slice aa0 y.arr.length ac0, .slice oa0 y.obj.length oc0] 53)) := by rw [hU]; exact blk_new wr _
        have hRU := hid (hR.out.stay hbU)
        have hzU := hid (blk_below hz.out hbU)
        have hvU := hid (blk_below hv.out hbU)
        have hyU := hid (blk_below hy.out hbU)
        have hOl : Hid (O < wr.heap.size) := blk_lt hR.out.blk
        have hZl2 : Hid (Z < wr.heap.size) := blk_lt hz.out
        have hXl2 : Hid (X < wr.heap.size) := blk_lt hv.out
        have hYl2 : Hid (Y < wr.heap.size) := blk_lt hy.out
        have hwF : Hid (w.heap.size ≤ wr.heap.size) := hR.out.bel.size
        replace hU := hid hU.symm
        clear hbU
        have hFne : Hid (∀ g2 cap n, V = .slice (some ⟨g2, 0, none⟩) n cap → wr.heap.size ≠ g2) := by
          intro g2 cap n e
          obtain ⟨E, _, _, e3⟩ := hR.out.row
          have := (e3.lt g2 (by rw [e]; rfl)).2
          omega
        obtain ⟨fd2, hfd2⟩ : ∃ fd2, fd2 = hasO key (obj.take (j + 1)) := ⟨_, rfl⟩
        replace hfd2 := hid hfd2
        go_upto_if 51 with fail
        rw [hU.out]
        clear hU p0 p1 p2 p3 p4 p5 p6 hpl s0 s1 s2 s3 s4 s5 s6 s7 hz hv hy hR
        generalize wr.heap.size = Fb at *
        go_cut [9] from 36 to 59 (fun v9 w' => v9 = .bool fd2 ∧ ∃ f : FE, Hid (setL key x (obj.take (j + 1)) = setL key x (obj.take j) ++ [f.fld]) ∧ Hid (RdV w f.cs f.v) ∧ Hid (w'.heap[Fb]? = some (.cells f.enc.toArray 53 (0, 0))) ∧ Hid (OutRow w w' O V (setL key x (obj.take j))) ∧ Hid (w'.heap[Z]? = some (.cells #[.int .i64 0, .bool false, .slice none 0 0, .int .i64 0, .string ⟨#[]⟩, .slice none 0 0, .slice none 0 0] 28)) ∧ Hid (w'.heap[X]? = some (.cells #[.int .i64 k, .bool g, .slice a l c, .int .i64 e, .string sb, .slice aa an ac, .slice (some ⟨b0, off0, none⟩) on oc] 28)) ∧ Hid (w'.heap[Y]? = some (.cells #[.int .i64 k', .bool g', .slice a' l' c', .int .i64 e', .string sb', .slice aa' an' ac', .slice oa' on' oc'] 28)))
        case first =>
          by_cases hkk : kx = key
          · obtain rfl : qb = true := by rw [hqb.out]; exact decide_eq_true hkk
            have e1 : fd2 = true := by rw [hfd2.out, htk.out, hasO_app]; simp [hasO, hkk]
            have e2 : Hid (setL key x (obj.take (j + 1)) = setL key x (obj.take j) ++ [fx.fld]) := by
              show _ = _
              rw [htk.out, setL_app, fx1.out]
              simp [setL, hkk]
            obtain ⟨⟨q0, q1, q2, q3, q4, q5, q6, q7⟩, f0, f1, f2, f3, f4, f5, f6, f7⟩ := blk_eight hFb.out
            obtain ⟨⟨p0, p1, p2, p3, p4, p5, p6⟩, _⟩ := blk_seven hyU.out
            have hkk2 : kxb = kb := by rw [hkx.out, hkb.out, hkk]
            subst e1
            clear hkk
            have hN := hid (blk8_set (y1 := .int .i64 k') (y2 := .bool g') (y3 := .slice a' l' c') (y4 := .int .i64 e') (y5 := .string sb') (y6 := .slice aa' an' ac') (y7 := .slice oa' on' oc') hFb.out)
            rw [hkk2] at hN
            clear hkk2
            have hRn : Hid (OutRow w (U.setCells Fb 1 [.int .i64 k', .bool g', .slice a' l' c', .int .i64 e', .string sb', .slice aa' an' ac', .slice oa' on' oc']) O V (setL key x (obj.take j))) := by
              obtain ⟨b1, ⟨E, e1, e2, e3⟩, b3, b4⟩ := hRU.out
              refine ⟨?_, ⟨E, e1, e2, owns_setCells e3 ?_ _ _⟩, below_setCells Fb hwF.out _ _ _ b3, b4⟩
              · rw [heap_setCells (show O ≠ Fb by have := hOl.out; omega)]; exact b1
              · have hb := hFb.out
                intro hh
                rcases e3.2 with ⟨rfl, _⟩ | ⟨g2, cap, cur, rfl, _, hg, _⟩
                · cases hh
                · have hh : some Fb = some g2 := hh
                  injection hh with hh
                  exact absurd hh (hFne.out g2 cap E.length rfl)
            have hzn : Hid ((U.setCells Fb 1 [.int .i64 k', .bool g', .slice a' l' c', .int .i64 e', .string sb', .slice aa' an' ac', .slice oa' on' oc']).heap[Z]? = some (.cells #[.int .i64 0, .bool false, .slice none 0 0, .int .i64 0, .string ⟨#[]⟩, .slice none 0 0, .slice none 0 0] 28)) := by
              show _ = _
              rw [heap_setCells (show Z ≠ Fb by have := hZl2.out; omega)]; exact hzU.out
            have hvn : Hid ((U.setCells Fb 1 [.int .i64 k', .bool g', .slice a' l' c', .int .i64 e', .string sb', .slice aa' an' ac', .slice oa' on' oc']).heap[X]? = some (.cells #[.int .i64 k, .bool g, .slice a l c, .int .i64 e, .string sb, .slice aa an ac, .slice (some ⟨b0, off0, none⟩) on oc] 28)) := by
              show _ = _
              rw [heap_setCells (show X ≠ Fb by have := hXl2.out; omega)]; exact hvU.out
            have hyn : Hid ((U.setCells Fb 1 [.int .i64 k', .bool g', .slice a' l' c', .int .i64 e', .string sb', .slice aa' an' ac', .slice oa' on' oc']).heap[Y]? = some (.cells #[.int .i64 k', .bool g', .slice a' l' c', .int .i64 e', .string sb', .slice aa' an' ac', .slice oa' on' oc'] 28)) := by
              show _ = _
              rw [heap_setCells (show Y ≠ Fb by have := hYl2.out; omega)]; exact hyU.out
            go_wp2_with fail
            go_meet
            case rel => exact ⟨rfl, fx, e2, fx2, hid (by rw [fx3.out]; exact hN.out), hRn, hzn, hvn, hyn⟩
          · obtain rfl : qb = false := by rw [hqb.out]; exact decide_eq_false hkk
            have e1 : fd2 = fd := by rw [hfd2.out, htk.out, hasO_app, ← hfd.out]; simp [hasO, hkk]
            have e2 : Hid (setL key x (obj.take (j + 1)) = setL key x (obj.take j) ++ [f.fld]) := by
              show _ = _
              rw [htk.out, setL_app, hf1.out]
              simp [setL, hkk]
            subst e1
            clear hkk
            go_wp2_with fail
            go_meet
            case rel => exact ⟨rfl, f, e2, hf2, hid (by rw [hf3.out]; exact hFb.out), hRU, hzU, hvU, hyU⟩
        case rest =>
        obtain ⟨rfl, f9, e2, hf9, hF9, hR9, hz9, hv9, hy9⟩ := hcut
        clear hRU hzU hvU hyU hFb hf1 hf2 hf3 hq1 hqb hfd
        obtain ⟨y0, y1, y2, y3, y4, y5, y6, henc⟩ : ∃ y0 y1 y2 y3 y4 y5 y6, f9.enc = [strV f9.key, y0, y1, y2, y3, y4, y5, y6] := by
          obtain ⟨y0, y1, y2, y3, y4, y5, y6, hcs⟩ := seven_of f9.seven
          exact ⟨y0, y1, y2, y3, y4, y5, y6, by unfold FE.enc; rw [hcs]⟩
        unfold strV at henc
        generalize (⟨f9.key.toArray⟩ : ByteArray) = kb9 at *
        have HEN := hid henc
        have hF9' := hF9.out
        rw [henc] at hF9'
        clear henc
        obtain ⟨⟨q0, q1, q2, q3, q4, q5, q6, q7⟩, _⟩ := blk_eight (by exact hF9')
        clear hF9'
        obtain ⟨⟨o0, o1, o2, o3, o4, o5, o6⟩, _⟩ := blk_seven hR9.out.blk
        obtain ⟨E, E1, E2, E3⟩ := hR9.out.row
        have hEl : E.length ≤ j := by
          have h1 : E.length = (setL key x (obj.take j)).length := by rw [← E1]; simp
          have h2 : (setL key x (obj.take j)).length = (obj.take j).length := by unfold setL; simp
          have h3 : (obj.take j).length ≤ j := by simp; omega
          omega
        have HE1 := hid E1
        have HE2 := hid E2
        have hW7 := hid ((Below.refl wc.heap.size wc).alloc (Nat.le_refl _) (.cells #[.string kb9, y0, y1, y2, y3, y4, y5, y6] 53))
        have E4 := hid (owns_stayF E3 hW7.out)
        have hnew : Hid (∀ (jj : Nat) (u : Value), ([.string kb9, y0, y1, y2, y3, y4, y5, y6] : List Value)[jj]? = some u → (wc.alloc (.cells #[.string kb9, y0, y1, y2, y3, y4, y5, y6] 53)).cell? ((⟨wc.heap.size, 0, none⟩ : Addr).add jj) = some u) := by
          intro jj u hu
          rw [Addr.add_lit]
          have h := blk_new wc (.cells #[.string kb9, y0, y1, y2, y3, y4, y5, y6] 53)
          simp only [World.cell?, h, Nat.zero_add]
          simpa using hu
        have hones : Hid (∀ u ∈ ([.string kb9, y0, y1, y2, y3, y4, y5, y6] : List Value), u.oneCell' = true) := by
          have := f9.ones
          rw [HEN.out] at this
          exact this
        have hRR := hid (hR9.out.stay hW7.out)
        have hz4 := hid (blk_below hz9.out hW7.out)
        have hv4 := hid (blk_below hv9.out hW7.out)
        have hy4 := hid (blk_below hy9.out hW7.out)
        clear E1 E2 E3 hR9 hz9 hv9 hy9
        go_wp2_with (at_builtin; refine wpList_append_own _ rfl _ _ _ rfl w.heap.size _ i0 zv 8 128 Tryz.underlying26 i1.out i4.out i2.out i3.out i5.out (by decide) _ E.length (E.flatMap FE.enc) rfl E4.out ⟨wc.heap.size, 0, none⟩ 1 1 [.string kb9, y0, y1, y2, y3, y4, y5, y6] rfl rfl hnew.out hones.out (by unfold maxLen; omega) (by omega) (by have := hRR.out.bel.size; omega) ?_; intro V2 w7 hown hgr _; obtain ⟨g5, cap5, rfl⟩ := owns_succ hown; have hOb := (hgr.block O (blk_lt hRR.out.blk) (owns_not E4.out hRR.out.blk (by decide))); have hZb := hid ((hgr.block Z (blk_lt hz4.out) (owns_not E4.out hz4.out (by decide))).trans hz4.out); have hXb := hid ((hgr.block X (blk_lt hv4.out) (owns_not E4.out hv4.out (by decide))).trans hv4.out); have hYb := hid ((hgr.block Y (blk_lt hy4.out) (owns_not E4.out hy4.out (by decide))).trans hy4.out); have hBl := hRR.out.bel.grown hgr hRR.out.bel.size (fun k hk => (E4.out.lt k hk).1); have hfin := hid (OutRow.more hf9.out hRR.out HE1.out HE2.out (by rw [HEN.out]; exact hown) hBl hOb); have hOb2 := hOb.trans hRR.out.blk; obtain ⟨⟨t0, t1, t2, t3, t4, t5, t6⟩, u0, u1, u2, u3, u4, u5, u6⟩ := blk_seven hOb2; clear hgr hOb2 hOb hBl hown)
        have hzf : Hid ((w7.setCell ⟨O, 6, none⟩ (.slice (some ⟨g5, 0, none⟩) (E.length + 1) cap5)).heap[Z]? = some (.cells #[.int .i64 0, .bool false, .slice none 0 0, .int .i64 0, .string ⟨#[]⟩, .slice none 0 0, .slice none 0 0] 28)) := by
          show (w7.setCell ⟨O, 6, none⟩ (.slice (some ⟨g5, 0, none⟩) (E.length + 1) cap5)).heap[Z]? = _
          rw [Below.heap_setCell _ _ _ _ (show Z ≠ O by have := hZl.out; omega)]
          exact hZb.out
        have hvf : Hid ((w7.setCell ⟨O, 6, none⟩ (.slice (some ⟨g5, 0, none⟩) (E.length + 1) cap5)).heap[X]? = some (.cells #[.int .i64 k, .bool g, .slice a l c, .int .i64 e, .string sb, .slice aa an ac, .slice (some ⟨b0, off0, none⟩) on oc] 28)) := by
          show (w7.setCell ⟨O, 6, none⟩ (.slice (some ⟨g5, 0, none⟩) (E.length + 1) cap5)).heap[X]? = _
          rw [Below.heap_setCell _ _ _ _ (show X ≠ O by have := hXl.out; omega)]
          exact hXb.out
        have hyf : Hid ((w7.setCell ⟨O, 6, none⟩ (.slice (some ⟨g5, 0, none⟩) (E.length + 1) cap5)).heap[Y]? = some (.cells #[.int .i64 k', .bool g', .slice a' l' c', .int .i64 e', .string sb', .slice aa' an' ac', .slice oa' on' oc'] 28)) := by
          show (w7.setCell ⟨O, 6, none⟩ (.slice (some ⟨g5, 0, none⟩) (E.length + 1) cap5)).heap[Y]? = _
          rw [Below.heap_setCell _ _ _ _ (show Y ≠ O by have := hYl.out; omega)]
          exact hYb.out
        go_roundw
        case rel => exact ⟨j + 1, .slice (some ⟨g5, 0, none⟩) (E.length + 1) cap5, by omega, hid (by rw [e2.out]; exact hfin.out), by rw [hfd2.out], by first | rfl | go_num, hzf, hvf, hyf⟩
        case measure => simp [intOf]; omega
      · obtain rfl : j = on := by omega
        have hlt2 : ¬ ((j : Nat) : Int) < (j : Int) := by omega
        have htk : obj.take j = obj := List.take_of_length_le (by rw [hon.out]; exact Nat.le_refl _)
        rw [htk] at hfd hR
        clear htk
        have hyY := hy
        go_upto_if 61 with fail
        clear p0 p1 p2 p3 p4 p5 p6 hpl
        go_cut [] from 60 (fun w' => ∃ V, Hid (OutRow w w' O V (setO key x obj)) ∧ Hid (w'.heap[Z]? = some (.cells #[.int .i64 0, .bool false, .slice none 0 0, .int .i64 0, .string ⟨#[]⟩, .slice none 0 0, .slice none 0 0] 28)))
        case first =>
          cases fd with
          | true =>
            have hL : Hid (OutRow w wr O V (setO key x obj)) := by
              have := hR.out
              rw [← setO_has hfd.out.symm] at this
              exact this
            go_wp2_with fail
            go_meet
            case rel => exact ⟨V, hL, hz⟩
          | false =>
            have hset : Hid (setO key x obj = setL key x obj ++ [fx.fld]) := hid (by rw [fx1.out]; exact setO_new hfd.out.symm)
            obtain ⟨⟨q0, q1, q2, q3, q4, q5, q6⟩, _⟩ := blk_seven hy.out
            obtain ⟨⟨o0, o1, o2, o3, o4, o5, o6⟩, _⟩ := blk_seven hR.out.blk
            obtain ⟨E, E1, E2, E3⟩ := hR.out.row
            have hEl : E.length ≤ 1048576 := by
              have h1 : E.length = (setL key x obj).length := by rw [← E1]; simp
              have h2 : (setL key x obj).length = obj.length := by unfold setL; simp
              have h3 := hon.out
              omega
            have HE1 := hid E1
            have HE2 := hid E2
            have hW7 := hid ((Below.refl wr.heap.size wr).alloc (Nat.le_refl _) (.cells #[.string kb, .int .i64 k', .bool g', .slice a' l' c', .int .i64 e', .string sb', .slice aa' an' ac', .slice oa' on' oc'] 53))
            have E4 := hid (owns_stayF E3 hW7.out)
            have hnew : Hid (∀ (jj : Nat) (u : Value), ([.string kb, .int .i64 k', .bool g', .slice a' l' c', .int .i64 e', .string sb', .slice aa' an' ac', .slice oa' on' oc'] : List Value)[jj]? = some u → (wr.alloc (.cells #[.string kb, .int .i64 k', .bool g', .slice a' l' c', .int .i64 e', .string sb', .slice aa' an' ac', .slice oa' on' oc'] 53)).cell? ((⟨wr.heap.size, 0, none⟩ : Addr).add jj) = some u) := by
              intro jj u hu
              rw [Addr.add_lit]
              have h := blk_new wr (.cells #[.string kb, .int .i64 k', .bool g', .slice a' l' c', .int .i64 e', .string sb', .slice aa' an' ac', .slice oa' on' oc'] 53)
              simp only [World.cell?, h, Nat.zero_add]
              simpa using hu
            have hones : Hid (∀ u ∈ ([.string kb, .int .i64 k', .bool g', .slice a' l' c', .int .i64 e', .string sb', .slice aa' an' ac', .slice oa' on' oc'] : List Value), u.oneCell' = true) := by
              have := fx.ones
              rw [fx3.out] at this
              exact this
            have hRR := hid (hR.out.stay hW7.out)
            have hz4 := hid (blk_below hz.out hW7.out)
            clear E1 E2 E3 hR hz
            go_wp2_with (at_builtin; refine wpList_append_own _ rfl _ _ _ rfl w.heap.size _ i0 zv 8 128 Tryz.underlying26 i1.out i4.out i2.out i3.out i5.out (by decide) _ E.length (E.flatMap FE.enc) rfl E4.out ⟨wr.heap.size, 0, none⟩ 1 1 [.string kb, .int .i64 k', .bool g', .slice a' l' c', .int .i64 e', .string sb', .slice aa' an' ac', .slice oa' on' oc'] rfl rfl hnew.out hones.out (by unfold maxLen; omega) (by omega) (by have := hRR.out.bel.size; omega) ?_; intro V2 w7 hown hgr _; obtain ⟨g5, cap5, rfl⟩ := owns_succ hown; have hOb := (hgr.block O (blk_lt hRR.out.blk) (owns_not E4.out hRR.out.blk (by decide))); have hZb := hid ((hgr.block Z (blk_lt hz4.out) (owns_not E4.out hz4.out (by decide))).trans hz4.out); have hBl := hRR.out.bel.grown hgr hRR.out.bel.size (fun k hk => (E4.out.lt k hk).1); have hfin := hid (OutRow.more fx2.out hRR.out HE1.out HE2.out (by rw [fx3.out]; exact hown) hBl hOb); have hOb2 := hOb.trans hRR.out.blk; obtain ⟨⟨t0, t1, t2, t3, t4, t5, t6⟩, u0, u1, u2, u3, u4, u5, u6⟩ := blk_seven hOb2; clear hgr hOb2 hOb hBl hown)
            have hzf : Hid ((w7.setCell ⟨O, 6, none⟩ (.slice (some ⟨g5, 0, none⟩) (E.length + 1) cap5)).heap[Z]? = some (.cells #[.int .i64 0, .bool false, .slice none 0 0, .int .i64 0, .string ⟨#[]⟩, .slice none 0 0, .slice none 0 0] 28)) := by
              show (w7.setCell ⟨O, 6, none⟩ (.slice (some ⟨g5, 0, none⟩) (E.length + 1) cap5)).heap[Z]? = _
              rw [Below.heap_setCell _ _ _ _ (show Z ≠ O by have := hZl.out; omega)]
              exact hZb.out
            go_meet
            case rel => exact ⟨_, hid (by rw [hset.out]; exact hfin.out), hzf⟩
        case rest =>
        obtain ⟨V9, hR9, hz9⟩ := hcut
        clear hR hz hv hy hyY
        have hsl : (setO key x obj).length ≤ 1048576 := by
          have h3 := hon.out
          cases hh : hasO key obj with
          | true => rw [setO_has hh]; unfold setL; simp; omega
          | false => rw [setO_new hh]; unfold setL; simp; omega
        obtain ⟨oa9, oc9, rfl, rd9⟩ := hR9.out.rd (by omega)
        have C4 := hid (h4.out wc _ hR9.out.bel rd9)
        obtain ⟨⟨o0, o1, o2, o3, o4, o5, o6⟩, _⟩ := blk_seven hR9.out.blk
        clear rd9 h4
        go_wp2_with fail
        refine C4.out.mono ?_
        rintro en w9 ⟨rfl, hb⟩
        replace hR9 := hid (hR9.out.stay hb)
        replace hz9 := hid (blk_below hz9.out hb)
        clear hb C4 o0 o1 o2 o3 o4 o5 o6
        obtain ⟨⟨o0, o1, o2, o3, o4, o5, o6⟩, _⟩ := blk_seven hR9.out.blk
        obtain ⟨⟨r0, r1, r2, r3, r4, r5, r6⟩, s0, s1, s2, s3, s4, s5, s6⟩ := blk_seven hz9.out
        cases m3 with
        | true =>
          obtain ⟨oa7, oc7, hV7, hO7⟩ := hR9.out.final hz9.out hwZ.out (by omega)
          injection hV7 with v1 v2 v3
          subst v1 v3
          have hFin := hid hO7
          clear hO7 v2
          go_wp2_with fail
          refine bodyPost_ret (v := .tuple #[.agg #[.int .i64 6, .bool false, .slice none 0 0, .int .i64 0, .string ⟨#[]⟩, .slice none 0 0, .slice oa9 (setO key x obj).length oc9], .int .i64 0]) (by simp [results, Tryz.results14, go_sem, r0, r1, r2, r3, r4, r5, r6]) rfl ?_
          obtain ⟨hr, he⟩ := hR1.out (by first | rfl | trivial)
          rw [hr, he]
          exact hFin.out
        | false =>
          have hOut := hid (outV_null (err := 6) (zs := [.int .i64 0, .bool false, .slice none 0 0, .int .i64 0, .string ⟨#[]⟩, .slice none 0 0, .slice none 0 0]) hR9.out.bel hwZ.out)
          go_wp2_with fail
          refine bodyPost_ret (v := .tuple #[.agg #[.int .i64 0, .bool false, .slice none 0 0, .int .i64 0, .string ⟨#[]⟩, .slice none 0 0, .slice none 0 0], .int .i64 6]) (by simp [results, Tryz.results14, go_sem, r0, r1, r2, r3, r4, r5, r6]) rfl ?_
          obtain ⟨hr, he⟩ := hR2.out (by first | rfl | trivial)
          rw [hr, he]
          exact hOut.out

end Go.Proofs.YtgbgkodjjgjhgaaGreatDoor

namespace Go.Proofs.YtgbgkodjjgjhgaaGreatDoor
open Go.RowKit

set_option maxRecDepth 100000 in
set_option maxHeartbeats 8000000 in
/-- The refusals. -/
theorem refwi_early (k : Int) (g g' : Bool) (a a' : Option Addr) (l l' c c' : Nat) (k' : Int) (e e' : Int) (s s' : List UInt8) (aa aa' : Option Addr) (an an' ac ac' : Nat) (oa oa' : Option Addr) (on on' oc oc' : Nat) (key : List UInt8) (w : World) (m1 m2 sd : Bool) (err : Nat)
    (h1 : ∀ W, Below w.heap.size w W → Calls Tryz.prog 28 #[valV k g a l c e s aa an ac oa on oc] W fun en w' => en = .returned (.bool m1) ∧ Below W.heap.size W w')
    (h2 : ∀ W, Below w.heap.size w W → Calls Tryz.prog 28 #[valV k' g' a' l' c' e' s' aa' an' ac' oa' on' oc'] W fun en w' => en = .returned (.bool m2) ∧ Below W.heap.size W w')
    (h3 : ∀ W, Below w.heap.size w W → Calls Tryz.prog 33 #[strV key] W fun en w' => en = .returned (.bool sd) ∧ Below W.heap.size W w')
    (hx : (m1 = false ∧ err = 1) ∨ (m1 = true ∧ m2 = false ∧ err = 1) ∨ (m1 = true ∧ m2 = true ∧ sd = false ∧ err = 1) ∨ (m1 = true ∧ m2 = true ∧ sd = true ∧ k ≠ 6 ∧ k ≠ 0 ∧ err = 9)) :
    Calls Tryz.prog 14 #[valV k g a l c e s aa an ac oa on oc, strV key, valV k' g' a' l' c' e' s' aa' an' ac' oa' on' oc'] w (OutV w .null err) := by
  unfold valV strV at *
  generalize (⟨s.toArray⟩ : ByteArray) = sb at *
  generalize (⟨s'.toArray⟩ : ByteArray) = sb' at *
  generalize (⟨key.toArray⟩ : ByteArray) = kb at *
  obtain ⟨W, hW⟩ : ∃ W, W = ((w.alloc (.cells #[.int .i64 k, .bool g, .slice a l c, .int .i64 e, .string sb, .slice aa an ac, .slice oa on oc] 28)).alloc (.cells #[.int .i64 k', .bool g', .slice a' l' c', .int .i64 e', .string sb', .slice aa' an' ac', .slice oa' on' oc'] 28)).alloc (.cells #[.int .i64 0, .bool false, .slice none 0 0, .int .i64 0, .string ⟨#[]⟩, .slice none 0 0, .slice none 0 0] 28) := ⟨_, rfl⟩
  have hB := hid (show Below w.heap.size w W by rw [hW]; exact (alloc_below2 _ _ _).alloc (by simp; omega) _)
  have hX : Hid (BoxV W w.heap.size k g a l c e sb aa an ac oa on oc) := by
    rw [hW]
    exact ⟨by simp [go_sem], by simp [go_sem], by simp [go_sem], by simp [go_sem], by simp [go_sem], by simp [go_sem], by simp [go_sem]⟩
  have hY : Hid (BoxV W (w.heap.size + 1) k' g' a' l' c' e' sb' aa' an' ac' oa' on' oc') := by
    rw [hW]
    exact ⟨by simp [go_sem], by simp [go_sem], by simp [go_sem], by simp [go_sem], by simp [go_sem], by simp [go_sem], by simp [go_sem]⟩
  have hZ0 : (W.heap[w.heap.size + 1 + 1]? = some (.cells #[.int .i64 0, .bool false, .slice none 0 0, .int .i64 0, .string ⟨#[]⟩, .slice none 0 0, .slice none 0 0] 28)) := by
    rw [hW]
    have := blk_new ((w.alloc (.cells #[.int .i64 k, .bool g, .slice a l c, .int .i64 e, .string sb, .slice aa an ac, .slice oa on oc] 28)).alloc (.cells #[.int .i64 k', .bool g', .slice a' l' c', .int .i64 e', .string sb', .slice aa' an' ac', .slice oa' on' oc'] 28)) (.cells #[.int .i64 0, .bool false, .slice none 0 0, .int .i64 0, .string ⟨#[]⟩, .slice none 0 0, .slice none 0 0] 28)
    simpa [Nat.add_assoc] using this
  have hZ := hid hZ0
  clear hZ0
  replace hW := hid hW.symm
  replace h1 := hid h1
  replace h2 := hid h2
  replace h3 := hid h3
  have hZw : Hid (w.heap.size ≤ w.heap.size + 1 + 1) := by show _ ≤ _; omega
  rcases hx with ⟨rfl, rfl⟩ | ⟨rfl, rfl, rfl⟩ | ⟨rfl, rfl, rfl, rfl⟩ | ⟨rfl, rfl, rfl, hk6, hk0, rfl⟩
  · go_enter Tryz.func14, Tryz.ntmps14
    go_wp2_with fail
    rw [hW.out]
    refine (h1.out _ hB.out).mono ?_
    rintro en w1 ⟨rfl, hb⟩
    replace hB := hid (below_trans hB.out hb)
    replace hX := hid (hX.out.stay hb)
    replace hY := hid (hY.out.stay hb)
    replace hZ := hid (blk_below hZ.out hb)
    clear hb
    obtain ⟨p0, p1, p2, p3, p4, p5, p6⟩ := hX.out
    obtain ⟨q0, q1, q2, q3, q4, q5, q6⟩ := hY.out
    clear hW
    obtain ⟨⟨r0, r1, r2, r3, r4, r5, r6⟩, s0, s1, s2, s3, s4, s5, s6⟩ := blk_seven hZ.out
    go_wp2_with fail
    refine bodyPost_ret (v := .tuple #[.agg #[.int .i64 0, .bool false, .slice none 0 0, .int .i64 0, .string ⟨#[]⟩, .slice none 0 0, .slice none 0 0], .int .i64 1]) (by simp [results, Tryz.results14, go_sem, r0, r1, r2, r3, r4, r5, r6]) rfl ?_
    exact outV_null (err := 1) (zs := [.int .i64 0, .bool false, .slice none 0 0, .int .i64 0, .string ⟨#[]⟩, .slice none 0 0, .slice none 0 0]) hB.out hZw.out
  · go_enter Tryz.func14, Tryz.ntmps14
    go_wp2_with fail
    rw [hW.out]
    refine (h1.out _ hB.out).mono ?_
    rintro en w1 ⟨rfl, hb⟩
    replace hB := hid (below_trans hB.out hb)
    replace hX := hid (hX.out.stay hb)
    replace hY := hid (hY.out.stay hb)
    replace hZ := hid (blk_below hZ.out hb)
    clear hb
    obtain ⟨p0, p1, p2, p3, p4, p5, p6⟩ := hX.out
    obtain ⟨q0, q1, q2, q3, q4, q5, q6⟩ := hY.out
    go_wp2_with fail
    refine (h2.out _ hB.out).mono ?_
    rintro en w1 ⟨rfl, hb⟩
    replace hB := hid (below_trans hB.out hb)
    replace hX := hid (hX.out.stay hb)
    replace hY := hid (hY.out.stay hb)
    replace hZ := hid (blk_below hZ.out hb)
    clear hb
    clear p0 p1 p2 p3 p4 p5 p6 q0 q1 q2 q3 q4 q5 q6
    obtain ⟨p0, p1, p2, p3, p4, p5, p6⟩ := hX.out
    obtain ⟨q0, q1, q2, q3, q4, q5, q6⟩ := hY.out
    clear hW
    obtain ⟨⟨r0, r1, r2, r3, r4, r5, r6⟩, s0, s1, s2, s3, s4, s5, s6⟩ := blk_seven hZ.out
    go_wp2_with fail
    refine bodyPost_ret (v := .tuple #[.agg #[.int .i64 0, .bool false, .slice none 0 0, .int .i64 0, .string ⟨#[]⟩, .slice none 0 0, .slice none 0 0], .int .i64 1]) (by simp [results, Tryz.results14, go_sem, r0, r1, r2, r3, r4, r5, r6]) rfl ?_
    exact outV_null (err := 1) (zs := [.int .i64 0, .bool false, .slice none 0 0, .int .i64 0, .string ⟨#[]⟩, .slice none 0 0, .slice none 0 0]) hB.out hZw.out
  · go_enter Tryz.func14, Tryz.ntmps14
    go_wp2_with fail
    rw [hW.out]
    refine (h1.out _ hB.out).mono ?_
    rintro en w1 ⟨rfl, hb⟩
    replace hB := hid (below_trans hB.out hb)
    replace hX := hid (hX.out.stay hb)
    replace hY := hid (hY.out.stay hb)
    replace hZ := hid (blk_below hZ.out hb)
    clear hb
    obtain ⟨p0, p1, p2, p3, p4, p5, p6⟩ := hX.out
    obtain ⟨q0, q1, q2, q3, q4, q5, q6⟩ := hY.out
    go_wp2_with fail
    refine (h2.out _ hB.out).mono ?_
    rintro en w1 ⟨rfl, hb⟩
    replace hB := hid (below_trans hB.out hb)
    replace hX := hid (hX.out.stay hb)
    replace hY := hid (hY.out.stay hb)
    replace hZ := hid (blk_below hZ.out hb)
    clear hb
    clear p0 p1 p2 p3 p4 p5 p6 q0 q1 q2 q3 q4 q5 q6
    obtain ⟨p0, p1, p2, p3, p4, p5, p6⟩ := hX.out
    obtain ⟨q0, q1, q2, q3, q4, q5, q6⟩ := hY.out
    go_wp2_with fail
    refine (h3.out _ hB.out).mono ?_
    rintro en w1 ⟨rfl, hb⟩
    replace hB := hid (below_trans hB.out hb)
    replace hX := hid (hX.out.stay hb)
    replace hY := hid (hY.out.stay hb)
    replace hZ := hid (blk_below hZ.out hb)
    clear hb
    clear p0 p1 p2 p3 p4 p5 p6 q0 q1 q2 q3 q4 q5 q6
    obtain ⟨p0, p1, p2, p3, p4, p5, p6⟩ := hX.out
    obtain ⟨q0, q1, q2, q3, q4, q5, q6⟩ := hY.out
    clear hW
    obtain ⟨⟨r0, r1, r2, r3, r4, r5, r6⟩, s0, s1, s2, s3, s4, s5, s6⟩ := blk_seven hZ.out
    go_wp2_with fail
    refine bodyPost_ret (v := .tuple #[.agg #[.int .i64 0, .bool false, .slice none 0 0, .int .i64 0, .string ⟨#[]⟩, .slice none 0 0, .slice none 0 0], .int .i64 1]) (by simp [results, Tryz.results14, go_sem, r0, r1, r2, r3, r4, r5, r6]) rfl ?_
    exact outV_null (err := 1) (zs := [.int .i64 0, .bool false, .slice none 0 0, .int .i64 0, .string ⟨#[]⟩, .slice none 0 0, .slice none 0 0]) hB.out hZw.out
  · have f6 : (k != 6) = true := by rw [bne_iff_ne]; exact hk6
    have f0 : (k != 0) = true := by rw [bne_iff_ne]; exact hk0
    clear hk6 hk0
    go_enter Tryz.func14, Tryz.ntmps14
    go_wp2_with fail
    rw [hW.out]
    refine (h1.out _ hB.out).mono ?_
    rintro en w1 ⟨rfl, hb⟩
    replace hB := hid (below_trans hB.out hb)
    replace hX := hid (hX.out.stay hb)
    replace hY := hid (hY.out.stay hb)
    replace hZ := hid (blk_below hZ.out hb)
    clear hb
    obtain ⟨p0, p1, p2, p3, p4, p5, p6⟩ := hX.out
    obtain ⟨q0, q1, q2, q3, q4, q5, q6⟩ := hY.out
    go_wp2_with fail
    refine (h2.out _ hB.out).mono ?_
    rintro en w1 ⟨rfl, hb⟩
    replace hB := hid (below_trans hB.out hb)
    replace hX := hid (hX.out.stay hb)
    replace hY := hid (hY.out.stay hb)
    replace hZ := hid (blk_below hZ.out hb)
    clear hb
    clear p0 p1 p2 p3 p4 p5 p6 q0 q1 q2 q3 q4 q5 q6
    obtain ⟨p0, p1, p2, p3, p4, p5, p6⟩ := hX.out
    obtain ⟨q0, q1, q2, q3, q4, q5, q6⟩ := hY.out
    go_wp2_with fail
    refine (h3.out _ hB.out).mono ?_
    rintro en w1 ⟨rfl, hb⟩
    replace hB := hid (below_trans hB.out hb)
    replace hX := hid (hX.out.stay hb)
    replace hY := hid (hY.out.stay hb)
    replace hZ := hid (blk_below hZ.out hb)
    clear hb
    clear p0 p1 p2 p3 p4 p5 p6 q0 q1 q2 q3 q4 q5 q6
    obtain ⟨p0, p1, p2, p3, p4, p5, p6⟩ := hX.out
    obtain ⟨q0, q1, q2, q3, q4, q5, q6⟩ := hY.out
    clear hW
    obtain ⟨⟨r0, r1, r2, r3, r4, r5, r6⟩, s0, s1, s2, s3, s4, s5, s6⟩ := blk_seven hZ.out
    go_wp2_with fail
    refine bodyPost_ret (v := .tuple #[.agg #[.int .i64 0, .bool false, .slice none 0 0, .int .i64 0, .string ⟨#[]⟩, .slice none 0 0, .slice none 0 0], .int .i64 9]) (by simp [results, Tryz.results14, go_sem, r0, r1, r2, r3, r4, r5, r6]) rfl ?_
    exact outV_null (err := 9) (zs := [.int .i64 0, .bool false, .slice none 0 0, .int .i64 0, .string ⟨#[]⟩, .slice none 0 0, .slice none 0 0]) hB.out hZw.out

theorem ref11_With (v x : JV) (cs cx : List Value) (key : List UInt8) (w : World) (hkl : key.length ≤ 9223372036854775807) (sv : v.obj.length + 1 ≤ 1048576) (rv : RdV w cs v) (rx : RdV w cx x) :
    Calls Tryz.prog 14 #[.agg cs.toArray, strV key, .agg cx.toArray] w (OutV w (withR v key x).1 (withR v key x).2) := by
  have C1 := fun W (hb : Below w.heap.size w W) => ref11_May v cs W (rv.stay hb)
  have C2 := fun W (hb : Below w.heap.size w W) => ref11_May x cx W (rx.stay hb)
  have C3 := fun W (_ : Below w.heap.size w W) => ref11_Sound key W hkl
  have rx0 := rx
  obtain ⟨a, c, aa, ac, oa, oc, P⟩ := rv.parts
  have e := P.cells
  subst e
  obtain ⟨k', g', a', ln', c', e', s', aa', an', ac', oa', on', oc', rfl⟩ := rx.seven
  have early := fun err hx => refwi_early v.kind v.g g' a a' v.ls.length ln' c c' k' v.e e' v.s s' aa aa' v.arr.length an' ac ac' oa oa' v.obj.length on' oc oc' key w (mayJ 200 v) (mayJ 200 x) (soundB key) err C1 C2 C3 hx
  unfold withR
  by_cases hm : mayJ 200 v = true ∧ mayJ 200 x = true ∧ soundB key = true
  rotate_left
  · rw [if_pos hm]
    refine early 1 ?_
    by_cases h1 : mayJ 200 v = true
    · by_cases h2 : mayJ 200 x = true
      · exact Or.inr (Or.inr (Or.inl ⟨h1, h2, by rw [Bool.eq_false_iff]; exact fun h3 => hm ⟨h1, h2, h3⟩, rfl⟩))
      · exact Or.inr (Or.inl ⟨h1, by rw [Bool.eq_false_iff]; exact h2, rfl⟩)
    · exact Or.inl ⟨by rw [Bool.eq_false_iff]; exact h1, rfl⟩
  rw [if_neg (fun h => h hm)]
  by_cases hk : v.kind ≠ 6 ∧ v.kind ≠ 0
  · rw [if_pos hk]
    exact early 9 (Or.inr (Or.inr (Or.inr ⟨hm.1, hm.2.1, hm.2.2, hk.1, hk.2, rfl⟩)))
  rw [if_neg hk]
  have hk2 : v.kind = 6 ∨ v.kind = 0 := by omega
  simp only [hm.1] at C1
  simp only [hm.2.1] at C2
  simp only [hm.2.2] at C3
  obtain ⟨⟨⟨_, _⟩, ho⟩, hnd⟩ := may_succ.1 hm.1
  have loop := fun R err h1 h2 => refwi_loop v.kind hk2 v.g g' a a' v.ls.length ln' c c' k' v.e e' v.s s' aa aa' v.arr.length an' ac ac' oa oa' oc on' oc' key x w v.obj P.obj (by omega) sv (fun p hp => (ho p hp).1) hm.2.2 hkl rx0 (!decide (depthJ 200 x = 200)) R err h1 h2 C1 C2 C3
    (fun W cs hb hr => by rw [← with_deep hm.1 hm.2.1 hm.2.2]; exact ref11_May _ cs W hr)
  by_cases hd : depthJ 200 x = 200
  · rw [if_pos hd]
    exact loop _ _ (fun h => by simp [hd] at h) (fun _ => ⟨rfl, rfl⟩)
  · rw [if_neg hd]
    exact loop _ _ (fun _ => ⟨rfl, rfl⟩) (fun h => by simp [hd] at h)

end Go.Proofs.YtgbgkodjjgjhgaaGreatDoor
