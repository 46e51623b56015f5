/- The law FormatKinds (printed by tools/gen_kinds.py). -/
import Derived.Test.YtldhebpkplglcaaGreatDoorGe
import Derived.Test.YtldhebpkplglcaaGreatDoorFe
namespace Go.Proofs.YtldhebpkplglcaaGreatDoor
open Go.RowKit

theorem bne_dec5 (k : Int) : (k != 5) = decide (k ≠ 5) := by by_cases h : k = 5 <;> simp [h]

set_option maxRecDepth 100000 in
set_option maxHeartbeats 3200000 in
theorem kinds_text (v : JV) (cs : List Value) (w : World) (R : RdV w cs v) (hT : Tabs w) (hM : Mx w) (hS : SmallV v) (hl : mayJ 200 v = true → (jsonJ 200 v).length ≤ 2000000000) (hm : mayJ 200 v = true) :
    Calls Tryz.prog 4 #[.string (⟨#[64, 116, 101, 120, 116]⟩ : ByteArray), .agg cs.toArray] w fun en w' => en = .returned (.bool true) ∧ Below w.heap.size w w' := by
  obtain ⟨a, c, aa, ac, oa, oc, P⟩ := R.parts
  have hcs := P.cells
  have hA := P.arr
  clear P
  subst hcs
  have CS := fun (W : World) (hb : Below w.heap.size w W) => law20_shown W (hT.below hb) (hM.below hb)
  have CA := fun (W : World) (hb : Below w.heap.size w W) => format_Apply [64, 116, 101, 120, 116] v _ W (R.stay hb) (hT.below hb) (hM.below hb) hS hl
  have CM := fun (W : World) (hb : Below w.heap.size w W) => value_May v _ W (R.stay hb) (hT.below hb)
  rw [hm] at CM
  have hE : (applyA [64, 116, 101, 120, 116] v).2 = 0 := by
    unfold applyA applyR
    rw [if_pos hm, if_pos rfl]
  rw [hE] at CA
  generalize (applyA [64, 116, 101, 120, 116] v).1 = T at *
  have hsm : v.arr.length ≤ 1048576 := by cases hS; assumption
  clear R hT hM hS hl hm hE 
  generalize v.kind = kind, v.arr.length = an at *
  unfold valCs strV at *
  generalize v.g = g, v.ls.length = ln, v.e = ee, v.s.toArray = sa, v.obj.length = on at *
  replace CS := hid CS
  replace CA := hid CA
  replace CM := hid CM
  replace hA := hid hA
  go_enter Tryz.func4, Tryz.ntmps4
  go_wp2_with fail
  have hAl : Below w.heap.size w (w.alloc (.cells #[.int .i64 kind, .bool g, .slice a ln c, .int .i64 ee, .string ⟨sa⟩, .slice aa an ac, .slice oa on oc] 28)) := (Below.refl _ w).alloc (Nat.le_refl _) _
  have hBox : BoxA (w.alloc (.cells #[.int .i64 kind, .bool g, .slice a ln c, .int .i64 ee, .string ⟨sa⟩, .slice aa an ac, .slice oa on oc] 28)) w.heap.size kind g a ln c ee ⟨sa⟩ aa an ac oa on oc := ⟨heap_alloc_new w _⟩
  refine (CS.out _ hAl).mono ?_
  rintro en w1 ⟨rfl, hb1⟩
  replace hBox := hBox.stay hb1
  have HB1 := hid (below_trans hAl hb1)
  obtain ⟨c0, c1, c2, c3, c4, c5, c6⟩ := hBox.cells
  clear hAl hb1 CS
  go_wp2_with fail
  refine (CA.out _ HB1.out).mono ?_
  rintro en w2 ⟨rfl, hb2⟩
  replace hBox := hBox.stay hb2
  have HB2 := hid (below_trans HB1.out hb2)
  clear hb2 CA c0 c1 c2 c3 c4 c5 c6
  obtain ⟨c0, c1, c2, c3, c4, c5, c6⟩ := hBox.cells
  go_wp2_with fail
  refine (CM.out _ HB2.out).mono ?_
  rintro en w3 ⟨rfl, hb3⟩
  replace hBox := hBox.stay hb3
  have HB3 := hid (below_trans HB2.out hb3)
  clear hb3 CM c0 c1 c2 c3 c4 c5 c6
  obtain ⟨c0, c1, c2, c3, c4, c5, c6⟩ := hBox.cells
  clear hBox
  go_wp2_with fail
  go_ret
  exact ⟨rfl, HB3.out⟩

set_option maxRecDepth 100000 in
set_option maxHeartbeats 3200000 in
theorem kinds_json (v : JV) (cs : List Value) (w : World) (R : RdV w cs v) (hT : Tabs w) (hM : Mx w) (hS : SmallV v) (hl : mayJ 200 v = true → (jsonJ 200 v).length ≤ 2000000000) (hm : mayJ 200 v = true) :
    Calls Tryz.prog 4 #[.string (⟨#[64, 106, 115, 111, 110]⟩ : ByteArray), .agg cs.toArray] w fun en w' => en = .returned (.bool true) ∧ Below w.heap.size w w' := by
  obtain ⟨a, c, aa, ac, oa, oc, P⟩ := R.parts
  have hcs := P.cells
  have hA := P.arr
  clear P
  subst hcs
  have CS := fun (W : World) (hb : Below w.heap.size w W) => law20_shown W (hT.below hb) (hM.below hb)
  have CA := fun (W : World) (hb : Below w.heap.size w W) => format_Apply [64, 106, 115, 111, 110] v _ W (R.stay hb) (hT.below hb) (hM.below hb) hS hl
  have CM := fun (W : World) (hb : Below w.heap.size w W) => value_May v _ W (R.stay hb) (hT.below hb)
  rw [hm] at CM
  have hE : (applyA [64, 106, 115, 111, 110] v).2 = 0 := by
    unfold applyA applyR
    rw [if_pos hm, if_neg (by decide), if_pos rfl]
  rw [hE] at CA
  generalize (applyA [64, 106, 115, 111, 110] v).1 = T at *
  have hsm : v.arr.length ≤ 1048576 := by cases hS; assumption
  clear R hT hM hS hl hm hE 
  generalize v.kind = kind, v.arr.length = an at *
  unfold valCs strV at *
  generalize v.g = g, v.ls.length = ln, v.e = ee, v.s.toArray = sa, v.obj.length = on at *
  replace CS := hid CS
  replace CA := hid CA
  replace CM := hid CM
  replace hA := hid hA
  go_enter Tryz.func4, Tryz.ntmps4
  go_wp2_with fail
  have hAl : Below w.heap.size w (w.alloc (.cells #[.int .i64 kind, .bool g, .slice a ln c, .int .i64 ee, .string ⟨sa⟩, .slice aa an ac, .slice oa on oc] 28)) := (Below.refl _ w).alloc (Nat.le_refl _) _
  have hBox : BoxA (w.alloc (.cells #[.int .i64 kind, .bool g, .slice a ln c, .int .i64 ee, .string ⟨sa⟩, .slice aa an ac, .slice oa on oc] 28)) w.heap.size kind g a ln c ee ⟨sa⟩ aa an ac oa on oc := ⟨heap_alloc_new w _⟩
  refine (CS.out _ hAl).mono ?_
  rintro en w1 ⟨rfl, hb1⟩
  replace hBox := hBox.stay hb1
  have HB1 := hid (below_trans hAl hb1)
  obtain ⟨c0, c1, c2, c3, c4, c5, c6⟩ := hBox.cells
  clear hAl hb1 CS
  go_wp2_with fail
  refine (CA.out _ HB1.out).mono ?_
  rintro en w2 ⟨rfl, hb2⟩
  replace hBox := hBox.stay hb2
  have HB2 := hid (below_trans HB1.out hb2)
  clear hb2 CA c0 c1 c2 c3 c4 c5 c6
  obtain ⟨c0, c1, c2, c3, c4, c5, c6⟩ := hBox.cells
  go_wp2_with fail
  refine (CM.out _ HB2.out).mono ?_
  rintro en w3 ⟨rfl, hb3⟩
  replace hBox := hBox.stay hb3
  have HB3 := hid (below_trans HB2.out hb3)
  clear hb3 CM c0 c1 c2 c3 c4 c5 c6
  obtain ⟨c0, c1, c2, c3, c4, c5, c6⟩ := hBox.cells
  clear hBox
  go_wp2_with fail
  go_ret
  exact ⟨rfl, HB3.out⟩

set_option maxRecDepth 100000 in
set_option maxHeartbeats 3200000 in
theorem kinds_html (v : JV) (cs : List Value) (w : World) (R : RdV w cs v) (hT : Tabs w) (hM : Mx w) (hS : SmallV v) (hl : mayJ 200 v = true → (jsonJ 200 v).length ≤ 2000000000) (hm : mayJ 200 v = true) :
    Calls Tryz.prog 4 #[.string (⟨#[64, 104, 116, 109, 108]⟩ : ByteArray), .agg cs.toArray] w fun en w' => en = .returned (.bool true) ∧ Below w.heap.size w w' := by
  obtain ⟨a, c, aa, ac, oa, oc, P⟩ := R.parts
  have hcs := P.cells
  have hA := P.arr
  clear P
  subst hcs
  have CS := fun (W : World) (hb : Below w.heap.size w W) => law20_shown W (hT.below hb) (hM.below hb)
  have CA := fun (W : World) (hb : Below w.heap.size w W) => format_Apply [64, 104, 116, 109, 108] v _ W (R.stay hb) (hT.below hb) (hM.below hb) hS hl
  have CM := fun (W : World) (hb : Below w.heap.size w W) => value_May v _ W (R.stay hb) (hT.below hb)
  rw [hm] at CM
  have hE : (applyA [64, 104, 116, 109, 108] v).2 = 0 := by
    unfold applyA applyR
    rw [if_pos hm, if_neg (by decide), if_neg (by decide), if_pos rfl]
  rw [hE] at CA
  generalize (applyA [64, 104, 116, 109, 108] v).1 = T at *
  have hsm : v.arr.length ≤ 1048576 := by cases hS; assumption
  clear R hT hM hS hl hm hE 
  generalize v.kind = kind, v.arr.length = an at *
  unfold valCs strV at *
  generalize v.g = g, v.ls.length = ln, v.e = ee, v.s.toArray = sa, v.obj.length = on at *
  replace CS := hid CS
  replace CA := hid CA
  replace CM := hid CM
  replace hA := hid hA
  go_enter Tryz.func4, Tryz.ntmps4
  go_wp2_with fail
  have hAl : Below w.heap.size w (w.alloc (.cells #[.int .i64 kind, .bool g, .slice a ln c, .int .i64 ee, .string ⟨sa⟩, .slice aa an ac, .slice oa on oc] 28)) := (Below.refl _ w).alloc (Nat.le_refl _) _
  have hBox : BoxA (w.alloc (.cells #[.int .i64 kind, .bool g, .slice a ln c, .int .i64 ee, .string ⟨sa⟩, .slice aa an ac, .slice oa on oc] 28)) w.heap.size kind g a ln c ee ⟨sa⟩ aa an ac oa on oc := ⟨heap_alloc_new w _⟩
  refine (CS.out _ hAl).mono ?_
  rintro en w1 ⟨rfl, hb1⟩
  replace hBox := hBox.stay hb1
  have HB1 := hid (below_trans hAl hb1)
  obtain ⟨c0, c1, c2, c3, c4, c5, c6⟩ := hBox.cells
  clear hAl hb1 CS
  go_wp2_with fail
  refine (CA.out _ HB1.out).mono ?_
  rintro en w2 ⟨rfl, hb2⟩
  replace hBox := hBox.stay hb2
  have HB2 := hid (below_trans HB1.out hb2)
  clear hb2 CA c0 c1 c2 c3 c4 c5 c6
  obtain ⟨c0, c1, c2, c3, c4, c5, c6⟩ := hBox.cells
  go_wp2_with fail
  refine (CM.out _ HB2.out).mono ?_
  rintro en w3 ⟨rfl, hb3⟩
  replace hBox := hBox.stay hb3
  have HB3 := hid (below_trans HB2.out hb3)
  clear hb3 CM c0 c1 c2 c3 c4 c5 c6
  obtain ⟨c0, c1, c2, c3, c4, c5, c6⟩ := hBox.cells
  clear hBox
  go_wp2_with fail
  go_ret
  exact ⟨rfl, HB3.out⟩

set_option maxRecDepth 100000 in
set_option maxHeartbeats 3200000 in
theorem kinds_uri (v : JV) (cs : List Value) (w : World) (R : RdV w cs v) (hT : Tabs w) (hM : Mx w) (hS : SmallV v) (hl : mayJ 200 v = true → (jsonJ 200 v).length ≤ 2000000000) (hm : mayJ 200 v = true) :
    Calls Tryz.prog 4 #[.string (⟨#[64, 117, 114, 105]⟩ : ByteArray), .agg cs.toArray] w fun en w' => en = .returned (.bool true) ∧ Below w.heap.size w w' := by
  obtain ⟨a, c, aa, ac, oa, oc, P⟩ := R.parts
  have hcs := P.cells
  have hA := P.arr
  clear P
  subst hcs
  have CS := fun (W : World) (hb : Below w.heap.size w W) => law20_shown W (hT.below hb) (hM.below hb)
  have CA := fun (W : World) (hb : Below w.heap.size w W) => format_Apply [64, 117, 114, 105] v _ W (R.stay hb) (hT.below hb) (hM.below hb) hS hl
  have CM := fun (W : World) (hb : Below w.heap.size w W) => value_May v _ W (R.stay hb) (hT.below hb)
  rw [hm] at CM
  have hE : (applyA [64, 117, 114, 105] v).2 = 0 := by
    unfold applyA applyR
    rw [if_pos hm, if_neg (by decide), if_neg (by decide), if_neg (by decide), if_pos rfl]
  rw [hE] at CA
  generalize (applyA [64, 117, 114, 105] v).1 = T at *
  have hsm : v.arr.length ≤ 1048576 := by cases hS; assumption
  clear R hT hM hS hl hm hE 
  generalize v.kind = kind, v.arr.length = an at *
  unfold valCs strV at *
  generalize v.g = g, v.ls.length = ln, v.e = ee, v.s.toArray = sa, v.obj.length = on at *
  replace CS := hid CS
  replace CA := hid CA
  replace CM := hid CM
  replace hA := hid hA
  go_enter Tryz.func4, Tryz.ntmps4
  go_wp2_with fail
  have hAl : Below w.heap.size w (w.alloc (.cells #[.int .i64 kind, .bool g, .slice a ln c, .int .i64 ee, .string ⟨sa⟩, .slice aa an ac, .slice oa on oc] 28)) := (Below.refl _ w).alloc (Nat.le_refl _) _
  have hBox : BoxA (w.alloc (.cells #[.int .i64 kind, .bool g, .slice a ln c, .int .i64 ee, .string ⟨sa⟩, .slice aa an ac, .slice oa on oc] 28)) w.heap.size kind g a ln c ee ⟨sa⟩ aa an ac oa on oc := ⟨heap_alloc_new w _⟩
  refine (CS.out _ hAl).mono ?_
  rintro en w1 ⟨rfl, hb1⟩
  replace hBox := hBox.stay hb1
  have HB1 := hid (below_trans hAl hb1)
  obtain ⟨c0, c1, c2, c3, c4, c5, c6⟩ := hBox.cells
  clear hAl hb1 CS
  go_wp2_with fail
  refine (CA.out _ HB1.out).mono ?_
  rintro en w2 ⟨rfl, hb2⟩
  replace hBox := hBox.stay hb2
  have HB2 := hid (below_trans HB1.out hb2)
  clear hb2 CA c0 c1 c2 c3 c4 c5 c6
  obtain ⟨c0, c1, c2, c3, c4, c5, c6⟩ := hBox.cells
  go_wp2_with fail
  refine (CM.out _ HB2.out).mono ?_
  rintro en w3 ⟨rfl, hb3⟩
  replace hBox := hBox.stay hb3
  have HB3 := hid (below_trans HB2.out hb3)
  clear hb3 CM c0 c1 c2 c3 c4 c5 c6
  obtain ⟨c0, c1, c2, c3, c4, c5, c6⟩ := hBox.cells
  clear hBox
  go_wp2_with fail
  go_ret
  exact ⟨rfl, HB3.out⟩

set_option maxRecDepth 100000 in
set_option maxHeartbeats 3200000 in
theorem kinds_base64 (v : JV) (cs : List Value) (w : World) (R : RdV w cs v) (hT : Tabs w) (hM : Mx w) (hS : SmallV v) (hl : mayJ 200 v = true → (jsonJ 200 v).length ≤ 2000000000) (hm : mayJ 200 v = true) :
    Calls Tryz.prog 4 #[.string (⟨#[64, 98, 97, 115, 101, 54, 52]⟩ : ByteArray), .agg cs.toArray] w fun en w' => en = .returned (.bool true) ∧ Below w.heap.size w w' := by
  obtain ⟨a, c, aa, ac, oa, oc, P⟩ := R.parts
  have hcs := P.cells
  have hA := P.arr
  clear P
  subst hcs
  have CS := fun (W : World) (hb : Below w.heap.size w W) => law20_shown W (hT.below hb) (hM.below hb)
  have CA := fun (W : World) (hb : Below w.heap.size w W) => format_Apply [64, 98, 97, 115, 101, 54, 52] v _ W (R.stay hb) (hT.below hb) (hM.below hb) hS hl
  have CM := fun (W : World) (hb : Below w.heap.size w W) => value_May v _ W (R.stay hb) (hT.below hb)
  rw [hm] at CM
  have hE : (applyA [64, 98, 97, 115, 101, 54, 52] v).2 = 0 := by
    unfold applyA applyR
    rw [if_pos hm, if_neg (by decide), if_neg (by decide), if_neg (by decide), if_neg (by decide), if_pos rfl]
  rw [hE] at CA
  generalize (applyA [64, 98, 97, 115, 101, 54, 52] v).1 = T at *
  have hsm : v.arr.length ≤ 1048576 := by cases hS; assumption
  clear R hT hM hS hl hm hE 
  generalize v.kind = kind, v.arr.length = an at *
  unfold valCs strV at *
  generalize v.g = g, v.ls.length = ln, v.e = ee, v.s.toArray = sa, v.obj.length = on at *
  replace CS := hid CS
  replace CA := hid CA
  replace CM := hid CM
  replace hA := hid hA
  go_enter Tryz.func4, Tryz.ntmps4
  go_wp2_with fail
  have hAl : Below w.heap.size w (w.alloc (.cells #[.int .i64 kind, .bool g, .slice a ln c, .int .i64 ee, .string ⟨sa⟩, .slice aa an ac, .slice oa on oc] 28)) := (Below.refl _ w).alloc (Nat.le_refl _) _
  have hBox : BoxA (w.alloc (.cells #[.int .i64 kind, .bool g, .slice a ln c, .int .i64 ee, .string ⟨sa⟩, .slice aa an ac, .slice oa on oc] 28)) w.heap.size kind g a ln c ee ⟨sa⟩ aa an ac oa on oc := ⟨heap_alloc_new w _⟩
  refine (CS.out _ hAl).mono ?_
  rintro en w1 ⟨rfl, hb1⟩
  replace hBox := hBox.stay hb1
  have HB1 := hid (below_trans hAl hb1)
  obtain ⟨c0, c1, c2, c3, c4, c5, c6⟩ := hBox.cells
  clear hAl hb1 CS
  go_wp2_with fail
  refine (CA.out _ HB1.out).mono ?_
  rintro en w2 ⟨rfl, hb2⟩
  replace hBox := hBox.stay hb2
  have HB2 := hid (below_trans HB1.out hb2)
  clear hb2 CA c0 c1 c2 c3 c4 c5 c6
  obtain ⟨c0, c1, c2, c3, c4, c5, c6⟩ := hBox.cells
  go_wp2_with fail
  refine (CM.out _ HB2.out).mono ?_
  rintro en w3 ⟨rfl, hb3⟩
  replace hBox := hBox.stay hb3
  have HB3 := hid (below_trans HB2.out hb3)
  clear hb3 CM c0 c1 c2 c3 c4 c5 c6
  obtain ⟨c0, c1, c2, c3, c4, c5, c6⟩ := hBox.cells
  clear hBox
  go_wp2_with fail
  go_ret
  exact ⟨rfl, HB3.out⟩

set_option maxRecDepth 100000 in
set_option maxHeartbeats 3200000 in
theorem kinds_base64dY (v : JV) (cs : List Value) (w : World) (R : RdV w cs v) (hT : Tabs w) (hM : Mx w) (hS : SmallV v) (hl : mayJ 200 v = true → (jsonJ 200 v).length ≤ 2000000000) (hm : mayJ 200 v = true) (hk : (codedR (plainJ v)).2 = true) :
    Calls Tryz.prog 4 #[.string (⟨#[64, 98, 97, 115, 101, 54, 52, 100]⟩ : ByteArray), .agg cs.toArray] w fun en w' => en = .returned (.bool true) ∧ Below w.heap.size w w' := by
  obtain ⟨a, c, aa, ac, oa, oc, P⟩ := R.parts
  have hcs := P.cells
  have hA := P.arr
  clear P
  subst hcs
  have CS := fun (W : World) (hb : Below w.heap.size w W) => law20_shown W (hT.below hb) (hM.below hb)
  have CA := fun (W : World) (hb : Below w.heap.size w W) => format_Apply [64, 98, 97, 115, 101, 54, 52, 100] v _ W (R.stay hb) (hT.below hb) (hM.below hb) hS hl
  have CM := fun (W : World) (hb : Below w.heap.size w W) => value_May v _ W (R.stay hb) (hT.below hb)
  rw [hm] at CM
  have hE : (applyA [64, 98, 97, 115, 101, 54, 52, 100] v).2 = 0 := by
    unfold applyA applyR
    rw [if_pos hm, if_neg (by decide), if_neg (by decide), if_neg (by decide), if_neg (by decide), if_neg (by decide), if_pos rfl]
    rw [hk]; rfl
  rw [hE] at CA
  generalize (applyA [64, 98, 97, 115, 101, 54, 52, 100] v).1 = T at *
  have hsm : v.arr.length ≤ 1048576 := by cases hS; assumption
  clear R hT hM hS hl hm hE hk
  generalize v.kind = kind, v.arr.length = an at *
  unfold valCs strV at *
  generalize v.g = g, v.ls.length = ln, v.e = ee, v.s.toArray = sa, v.obj.length = on at *
  replace CS := hid CS
  replace CA := hid CA
  replace CM := hid CM
  replace hA := hid hA
  go_enter Tryz.func4, Tryz.ntmps4
  go_wp2_with fail
  have hAl : Below w.heap.size w (w.alloc (.cells #[.int .i64 kind, .bool g, .slice a ln c, .int .i64 ee, .string ⟨sa⟩, .slice aa an ac, .slice oa on oc] 28)) := (Below.refl _ w).alloc (Nat.le_refl _) _
  have hBox : BoxA (w.alloc (.cells #[.int .i64 kind, .bool g, .slice a ln c, .int .i64 ee, .string ⟨sa⟩, .slice aa an ac, .slice oa on oc] 28)) w.heap.size kind g a ln c ee ⟨sa⟩ aa an ac oa on oc := ⟨heap_alloc_new w _⟩
  refine (CS.out _ hAl).mono ?_
  rintro en w1 ⟨rfl, hb1⟩
  replace hBox := hBox.stay hb1
  have HB1 := hid (below_trans hAl hb1)
  obtain ⟨c0, c1, c2, c3, c4, c5, c6⟩ := hBox.cells
  clear hAl hb1 CS
  go_wp2_with fail
  refine (CA.out _ HB1.out).mono ?_
  rintro en w2 ⟨rfl, hb2⟩
  replace hBox := hBox.stay hb2
  have HB2 := hid (below_trans HB1.out hb2)
  clear hb2 CA c0 c1 c2 c3 c4 c5 c6
  obtain ⟨c0, c1, c2, c3, c4, c5, c6⟩ := hBox.cells
  go_wp2_with fail
  refine (CM.out _ HB2.out).mono ?_
  rintro en w3 ⟨rfl, hb3⟩
  replace hBox := hBox.stay hb3
  have HB3 := hid (below_trans HB2.out hb3)
  clear hb3 CM c0 c1 c2 c3 c4 c5 c6
  obtain ⟨c0, c1, c2, c3, c4, c5, c6⟩ := hBox.cells
  clear hBox
  go_wp2_with fail
  go_ret
  exact ⟨rfl, HB3.out⟩

set_option maxRecDepth 100000 in
set_option maxHeartbeats 3200000 in
theorem kinds_base64dN (v : JV) (cs : List Value) (w : World) (R : RdV w cs v) (hT : Tabs w) (hM : Mx w) (hS : SmallV v) (hl : mayJ 200 v = true → (jsonJ 200 v).length ≤ 2000000000) (hm : mayJ 200 v = true) (hk : (codedR (plainJ v)).2 = false) :
    Calls Tryz.prog 4 #[.string (⟨#[64, 98, 97, 115, 101, 54, 52, 100]⟩ : ByteArray), .agg cs.toArray] w fun en w' => en = .returned (.bool true) ∧ Below w.heap.size w w' := by
  obtain ⟨a, c, aa, ac, oa, oc, P⟩ := R.parts
  have hcs := P.cells
  have hA := P.arr
  clear P
  subst hcs
  have CS := fun (W : World) (hb : Below w.heap.size w W) => law20_shown W (hT.below hb) (hM.below hb)
  have CA := fun (W : World) (hb : Below w.heap.size w W) => format_Apply [64, 98, 97, 115, 101, 54, 52, 100] v _ W (R.stay hb) (hT.below hb) (hM.below hb) hS hl
  have CM := fun (W : World) (hb : Below w.heap.size w W) => value_May v _ W (R.stay hb) (hT.below hb)
  rw [hm] at CM
  have hE : (applyA [64, 98, 97, 115, 101, 54, 52, 100] v).2 = 2 := by
    unfold applyA applyR
    rw [if_pos hm, if_neg (by decide), if_neg (by decide), if_neg (by decide), if_neg (by decide), if_neg (by decide), if_pos rfl]
    rw [hk]; rfl
  rw [hE] at CA
  generalize (applyA [64, 98, 97, 115, 101, 54, 52, 100] v).1 = T at *
  have hsm : v.arr.length ≤ 1048576 := by cases hS; assumption
  clear R hT hM hS hl hm hE hk
  generalize v.kind = kind, v.arr.length = an at *
  unfold valCs strV at *
  generalize v.g = g, v.ls.length = ln, v.e = ee, v.s.toArray = sa, v.obj.length = on at *
  replace CS := hid CS
  replace CA := hid CA
  replace CM := hid CM
  replace hA := hid hA
  go_enter Tryz.func4, Tryz.ntmps4
  go_wp2_with fail
  have hAl : Below w.heap.size w (w.alloc (.cells #[.int .i64 kind, .bool g, .slice a ln c, .int .i64 ee, .string ⟨sa⟩, .slice aa an ac, .slice oa on oc] 28)) := (Below.refl _ w).alloc (Nat.le_refl _) _
  have hBox : BoxA (w.alloc (.cells #[.int .i64 kind, .bool g, .slice a ln c, .int .i64 ee, .string ⟨sa⟩, .slice aa an ac, .slice oa on oc] 28)) w.heap.size kind g a ln c ee ⟨sa⟩ aa an ac oa on oc := ⟨heap_alloc_new w _⟩
  refine (CS.out _ hAl).mono ?_
  rintro en w1 ⟨rfl, hb1⟩
  replace hBox := hBox.stay hb1
  have HB1 := hid (below_trans hAl hb1)
  obtain ⟨c0, c1, c2, c3, c4, c5, c6⟩ := hBox.cells
  clear hAl hb1 CS
  go_wp2_with fail
  refine (CA.out _ HB1.out).mono ?_
  rintro en w2 ⟨rfl, hb2⟩
  replace hBox := hBox.stay hb2
  have HB2 := hid (below_trans HB1.out hb2)
  clear hb2 CA c0 c1 c2 c3 c4 c5 c6
  obtain ⟨c0, c1, c2, c3, c4, c5, c6⟩ := hBox.cells
  go_wp2_with fail
  refine (CM.out _ HB2.out).mono ?_
  rintro en w3 ⟨rfl, hb3⟩
  replace hBox := hBox.stay hb3
  have HB3 := hid (below_trans HB2.out hb3)
  clear hb3 CM c0 c1 c2 c3 c4 c5 c6
  obtain ⟨c0, c1, c2, c3, c4, c5, c6⟩ := hBox.cells
  clear hBox
  go_wp2_with fail
  go_ret
  exact ⟨rfl, HB3.out⟩

set_option maxRecDepth 100000 in
set_option maxHeartbeats 3200000 in
theorem kinds_sh0 (v : JV) (cs : List Value) (w : World) (R : RdV w cs v) (hT : Tabs w) (hM : Mx w) (hS : SmallV v) (hl : mayJ 200 v = true → (jsonJ 200 v).length ≤ 2000000000) (hm : mayJ 200 v = true) (hd : deepB (if v.kind = 5 then v.arr else [v]) = false) :
    Calls Tryz.prog 4 #[.string (⟨#[64, 115, 104]⟩ : ByteArray), .agg cs.toArray] w fun en w' => en = .returned (.bool true) ∧ Below w.heap.size w w' := by
  obtain ⟨a, c, aa, ac, oa, oc, P⟩ := R.parts
  have hcs := P.cells
  have hA := P.arr
  clear P
  subst hcs
  have CS := fun (W : World) (hb : Below w.heap.size w W) => law20_shown W (hT.below hb) (hM.below hb)
  have CA := fun (W : World) (hb : Below w.heap.size w W) => format_Apply [64, 115, 104] v _ W (R.stay hb) (hT.below hb) (hM.below hb) hS hl
  have CM := fun (W : World) (hb : Below w.heap.size w W) => value_May v _ W (R.stay hb) (hT.below hb)
  rw [hm] at CM
  have hE : (applyA [64, 115, 104] v).2 = 0 := by
    unfold applyA applyR
    rw [if_pos hm, if_neg (by decide), if_neg (by decide), if_neg (by decide), if_neg (by decide), if_neg (by decide), if_neg (by decide), if_neg (by decide), if_neg (by decide), if_pos rfl]
    unfold rowR
    dsimp only
    rw [hd]
    rfl
  rw [hE] at CA
  generalize (applyA [64, 115, 104] v).1 = T at *
  have hsm : v.arr.length ≤ 1048576 := by cases hS; assumption
  clear R hT hM hS hl hm hE hd
  generalize v.kind = kind, v.arr.length = an at *
  unfold valCs strV at *
  generalize v.g = g, v.ls.length = ln, v.e = ee, v.s.toArray = sa, v.obj.length = on at *
  replace CS := hid CS
  replace CA := hid CA
  replace CM := hid CM
  replace hA := hid hA
  go_enter Tryz.func4, Tryz.ntmps4
  go_wp2_with fail
  have hAl : Below w.heap.size w (w.alloc (.cells #[.int .i64 kind, .bool g, .slice a ln c, .int .i64 ee, .string ⟨sa⟩, .slice aa an ac, .slice oa on oc] 28)) := (Below.refl _ w).alloc (Nat.le_refl _) _
  have hBox : BoxA (w.alloc (.cells #[.int .i64 kind, .bool g, .slice a ln c, .int .i64 ee, .string ⟨sa⟩, .slice aa an ac, .slice oa on oc] 28)) w.heap.size kind g a ln c ee ⟨sa⟩ aa an ac oa on oc := ⟨heap_alloc_new w _⟩
  refine (CS.out _ hAl).mono ?_
  rintro en w1 ⟨rfl, hb1⟩
  replace hBox := hBox.stay hb1
  have HB1 := hid (below_trans hAl hb1)
  obtain ⟨c0, c1, c2, c3, c4, c5, c6⟩ := hBox.cells
  clear hAl hb1 CS
  go_wp2_with fail
  refine (CA.out _ HB1.out).mono ?_
  rintro en w2 ⟨rfl, hb2⟩
  replace hBox := hBox.stay hb2
  have HB2 := hid (below_trans HB1.out hb2)
  clear hb2 CA c0 c1 c2 c3 c4 c5 c6
  obtain ⟨c0, c1, c2, c3, c4, c5, c6⟩ := hBox.cells
  go_wp2_with fail
  refine (CM.out _ HB2.out).mono ?_
  rintro en w3 ⟨rfl, hb3⟩
  replace hBox := hBox.stay hb3
  have HB3 := hid (below_trans HB2.out hb3)
  clear hb3 CM c0 c1 c2 c3 c4 c5 c6
  obtain ⟨c0, c1, c2, c3, c4, c5, c6⟩ := hBox.cells
  clear hBox
  go_wp2_with fail
  all_goals
    go_ret
    exact ⟨rfl, HB3.out⟩

set_option maxRecDepth 100000 in
set_option maxHeartbeats 3200000 in
theorem kinds_sh9 (v : JV) (cs : List Value) (w : World) (R : RdV w cs v) (hT : Tabs w) (hM : Mx w) (hS : SmallV v) (hl : mayJ 200 v = true → (jsonJ 200 v).length ≤ 2000000000) (hm : mayJ 200 v = true) (hd : deepB (if v.kind = 5 then v.arr else [v]) = true) (hk : 4 < v.kind) :
    Calls Tryz.prog 4 #[.string (⟨#[64, 115, 104]⟩ : ByteArray), .agg cs.toArray] w fun en w' => en = .returned (.bool true) ∧ Below w.heap.size w w' := by
  obtain ⟨a, c, aa, ac, oa, oc, P⟩ := R.parts
  have hcs := P.cells
  have hA := P.arr
  clear P
  subst hcs
  have CS := fun (W : World) (hb : Below w.heap.size w W) => law20_shown W (hT.below hb) (hM.below hb)
  have CA := fun (W : World) (hb : Below w.heap.size w W) => format_Apply [64, 115, 104] v _ W (R.stay hb) (hT.below hb) (hM.below hb) hS hl
  have CM := fun (W : World) (hb : Below w.heap.size w W) => value_May v _ W (R.stay hb) (hT.below hb)
  rw [hm] at CM
  have hE : (applyA [64, 115, 104] v).2 = 9 := by
    unfold applyA applyR
    rw [if_pos hm, if_neg (by decide), if_neg (by decide), if_neg (by decide), if_neg (by decide), if_neg (by decide), if_neg (by decide), if_neg (by decide), if_neg (by decide), if_pos rfl]
    unfold rowR
    dsimp only
    rw [hd]
    rfl
  rw [hE] at CA
  generalize (applyA [64, 115, 104] v).1 = T at *
  have hsm : v.arr.length ≤ 1048576 := by cases hS; assumption
  clear R hT hM hS hl hm hE hd
  generalize v.kind = kind, v.arr.length = an at *
  unfold valCs strV at *
  generalize v.g = g, v.ls.length = ln, v.e = ee, v.s.toArray = sa, v.obj.length = on at *
  replace CS := hid CS
  replace CA := hid CA
  replace CM := hid CM
  replace hA := hid hA
  go_enter Tryz.func4, Tryz.ntmps4
  go_wp2_with fail
  have hAl : Below w.heap.size w (w.alloc (.cells #[.int .i64 kind, .bool g, .slice a ln c, .int .i64 ee, .string ⟨sa⟩, .slice aa an ac, .slice oa on oc] 28)) := (Below.refl _ w).alloc (Nat.le_refl _) _
  have hBox : BoxA (w.alloc (.cells #[.int .i64 kind, .bool g, .slice a ln c, .int .i64 ee, .string ⟨sa⟩, .slice aa an ac, .slice oa on oc] 28)) w.heap.size kind g a ln c ee ⟨sa⟩ aa an ac oa on oc := ⟨heap_alloc_new w _⟩
  refine (CS.out _ hAl).mono ?_
  rintro en w1 ⟨rfl, hb1⟩
  replace hBox := hBox.stay hb1
  have HB1 := hid (below_trans hAl hb1)
  obtain ⟨c0, c1, c2, c3, c4, c5, c6⟩ := hBox.cells
  clear hAl hb1 CS
  go_wp2_with fail
  refine (CA.out _ HB1.out).mono ?_
  rintro en w2 ⟨rfl, hb2⟩
  replace hBox := hBox.stay hb2
  have HB2 := hid (below_trans HB1.out hb2)
  clear hb2 CA c0 c1 c2 c3 c4 c5 c6
  obtain ⟨c0, c1, c2, c3, c4, c5, c6⟩ := hBox.cells
  go_wp2_with fail
  refine (CM.out _ HB2.out).mono ?_
  rintro en w3 ⟨rfl, hb3⟩
  replace hBox := hBox.stay hb3
  have HB3 := hid (below_trans HB2.out hb3)
  clear hb3 CM c0 c1 c2 c3 c4 c5 c6
  obtain ⟨c0, c1, c2, c3, c4, c5, c6⟩ := hBox.cells
  clear hBox
  go_wp2_with fail
  go_ret
  exact ⟨rfl, HB3.out⟩

set_option maxRecDepth 100000 in
set_option maxHeartbeats 3200000 in
theorem kinds_csvY (v : JV) (cs : List Value) (w : World) (R : RdV w cs v) (hT : Tabs w) (hM : Mx w) (hS : SmallV v) (hl : mayJ 200 v = true → (jsonJ 200 v).length ≤ 2000000000) (hm : mayJ 200 v = true) (hD : (decide (v.kind ≠ 5) || deepB v.arr) = true) :
    Calls Tryz.prog 4 #[.string (⟨#[64, 99, 115, 118]⟩ : ByteArray), .agg cs.toArray] w fun en w' => en = .returned (.bool true) ∧ Below w.heap.size w w' := by
  obtain ⟨a, c, aa, ac, oa, oc, P⟩ := R.parts
  have hcs := P.cells
  have hA := P.arr
  clear P
  subst hcs
  have CS := fun (W : World) (hb : Below w.heap.size w W) => law20_shown W (hT.below hb) (hM.below hb)
  have CA := fun (W : World) (hb : Below w.heap.size w W) => format_Apply [64, 99, 115, 118] v _ W (R.stay hb) (hT.below hb) (hM.below hb) hS hl
  have CM := fun (W : World) (hb : Below w.heap.size w W) => value_May v _ W (R.stay hb) (hT.below hb)
  rw [hm] at CM
  have hE : (applyA [64, 99, 115, 118] v).2 = 9 := by
    unfold applyA applyR
    rw [if_pos hm, if_neg (by decide), if_neg (by decide), if_neg (by decide), if_neg (by decide), if_neg (by decide), if_neg (by decide), if_pos rfl]
    by_cases h5 : v.kind = 5
    · rw [if_pos h5]
      have hd2 : deepB v.arr = true := by rw [← hD, h5]; simp
      unfold rowR; rw [hd2]; rfl
    · rw [if_neg h5]
  rw [hE] at CA
  generalize (applyA [64, 99, 115, 118] v).1 = T at *
  have hsm : v.arr.length ≤ 1048576 := by cases hS; assumption
  clear R hT hM hS hl hm hE 
  generalize v.arr = arr at *
  obtain ⟨an, han⟩ : ∃ an, an = arr.length := ⟨_, rfl⟩
  have han2 := hid han
  rw [← han] at hsm
  unfold valCs at CA CM ⊢
  rw [← han] at CA CM ⊢
  generalize v.kind = kind at *
  replace hD := hid hD
  clear han
  unfold strV at *
  generalize v.g = g, v.ls.length = ln, v.e = ee, v.s.toArray = sa, v.obj.length = on at *
  replace CS := hid CS
  replace CA := hid CA
  replace CM := hid CM
  replace hA := hid hA
  go_enter Tryz.func4, Tryz.ntmps4
  go_wp2_with fail
  have hAl : Below w.heap.size w (w.alloc (.cells #[.int .i64 kind, .bool g, .slice a ln c, .int .i64 ee, .string ⟨sa⟩, .slice aa an ac, .slice oa on oc] 28)) := (Below.refl _ w).alloc (Nat.le_refl _) _
  have hBox : BoxA (w.alloc (.cells #[.int .i64 kind, .bool g, .slice a ln c, .int .i64 ee, .string ⟨sa⟩, .slice aa an ac, .slice oa on oc] 28)) w.heap.size kind g a ln c ee ⟨sa⟩ aa an ac oa on oc := ⟨heap_alloc_new w _⟩
  refine (CS.out _ hAl).mono ?_
  rintro en w1 ⟨rfl, hb1⟩
  replace hBox := hBox.stay hb1
  have HB1 := hid (below_trans hAl hb1)
  obtain ⟨c0, c1, c2, c3, c4, c5, c6⟩ := hBox.cells
  clear hAl hb1 CS
  go_wp2_with fail
  refine (CA.out _ HB1.out).mono ?_
  rintro en w2 ⟨rfl, hb2⟩
  replace hBox := hBox.stay hb2
  have HB2 := hid (below_trans HB1.out hb2)
  clear hb2 CA c0 c1 c2 c3 c4 c5 c6
  obtain ⟨c0, c1, c2, c3, c4, c5, c6⟩ := hBox.cells
  go_wp2_with fail
  refine (CM.out _ HB2.out).mono ?_
  rintro en w3 ⟨rfl, hb3⟩
  replace hBox := hBox.stay hb3
  have HB3 := hid (below_trans HB2.out hb3)
  clear hb3 CM c0 c1 c2 c3 c4 c5 c6
  obtain ⟨c0, c1, c2, c3, c4, c5, c6⟩ := hBox.cells
  clear hBox
  go_wp2_with fail
  go_loopw [8, 9] (fun v8 v9 wr => wr = w3 ∧ ∃ i : Nat, i ≤ an ∧ v9 = .int .i64 (i : Nat) ∧ v8 = .bool (decide (kind ≠ 5) || deepB (arr.take i))) (fun _ v9 _ => an - (intOf v9).toNat)
  case atStart => exact ⟨rfl, 0, Nat.zero_le _, rfl, by rw [List.take_zero]; show Value.bool _ = Value.bool (decide (kind ≠ 5) || false); rw [Bool.or_false, bne_dec5]⟩
  case round =>
    obtain ⟨hw, i, hi, rfl, rfl⟩ := hrel
    rw [hw]
    clear hw
    by_cases hlt : i < an
    · have hlt2 : (i : Int) < (an : Int) := by omega
      have hi1 : i < arr.length := by rw [← han2.out]; exact hlt
      obtain ⟨b, off, a1, c1', aa1, ac1, oa1, oc1, haa, _, h7⟩ := (hA.out.below HB3.out).at hi1
      obtain ⟨h0, _⟩ := h7
      subst haa
      have hdt := deep_take hi1
      generalize arr[i].kind = ki at *
      have hnx : (decide (kind ≠ 5) || deepB (arr.take (i + 1))) = ((decide (kind ≠ 5) || deepB (arr.take i)) || decide (4 < ki)) := by rw [hdt, Bool.or_assoc]
      have HN := hid hnx
      clear hnx hdt
      generalize (decide (kind ≠ 5) || deepB (arr.take i)) = D at *
      cases D with
      | true =>
        go_wp2_with fail
        go_roundw
        case rel => exact ⟨by trivial, i + 1, by omega, by go_num, by rw [HN.out]; rfl⟩
        case measure => simp [intOf]; omega
      | false =>
        go_wp2_with fail
        go_roundw
        case rel => exact ⟨by trivial, i + 1, by omega, by go_num, by rw [HN.out]; rfl⟩
        case measure => simp [intOf]; omega
    · have hlt2 : ¬ (i : Int) < (an : Int) := by omega
      have hfull : arr.take i = arr := List.take_of_length_le (by rw [← han2.out]; omega)
      rw [hfull]
      have hd : (decide (kind ≠ 5) || deepB arr) = true := hD.out
      rw [hd]
      clear hfull hd
      go_wp2_with fail
      go_ret
      exact ⟨rfl, HB3.out⟩

set_option maxRecDepth 100000 in
set_option maxHeartbeats 3200000 in
theorem kinds_csvN (v : JV) (cs : List Value) (w : World) (R : RdV w cs v) (hT : Tabs w) (hM : Mx w) (hS : SmallV v) (hl : mayJ 200 v = true → (jsonJ 200 v).length ≤ 2000000000) (hm : mayJ 200 v = true) (hD : (decide (v.kind ≠ 5) || deepB v.arr) = false) :
    Calls Tryz.prog 4 #[.string (⟨#[64, 99, 115, 118]⟩ : ByteArray), .agg cs.toArray] w fun en w' => en = .returned (.bool true) ∧ Below w.heap.size w w' := by
  obtain ⟨a, c, aa, ac, oa, oc, P⟩ := R.parts
  have hcs := P.cells
  have hA := P.arr
  clear P
  subst hcs
  have CS := fun (W : World) (hb : Below w.heap.size w W) => law20_shown W (hT.below hb) (hM.below hb)
  have CA := fun (W : World) (hb : Below w.heap.size w W) => format_Apply [64, 99, 115, 118] v _ W (R.stay hb) (hT.below hb) (hM.below hb) hS hl
  have CM := fun (W : World) (hb : Below w.heap.size w W) => value_May v _ W (R.stay hb) (hT.below hb)
  rw [hm] at CM
  have hE : (applyA [64, 99, 115, 118] v).2 = 0 := by
    unfold applyA applyR
    rw [if_pos hm, if_neg (by decide), if_neg (by decide), if_neg (by decide), if_neg (by decide), if_neg (by decide), if_neg (by decide), if_pos rfl]
    by_cases h5 : v.kind = 5
    · rw [if_pos h5]
      have hd2 : deepB v.arr = false := by rw [← hD, h5]; simp
      unfold rowR; rw [hd2]; rfl
    · rw [if_neg h5]
      exfalso; rw [show decide (v.kind ≠ 5) = true by simpa using h5, Bool.true_or] at hD; cases hD
  rw [hE] at CA
  generalize (applyA [64, 99, 115, 118] v).1 = T at *
  have hsm : v.arr.length ≤ 1048576 := by cases hS; assumption
  clear R hT hM hS hl hm hE 
  generalize v.arr = arr at *
  obtain ⟨an, han⟩ : ∃ an, an = arr.length := ⟨_, rfl⟩
  have han2 := hid han
  rw [← han] at hsm
  unfold valCs at CA CM ⊢
  rw [← han] at CA CM ⊢
  generalize v.kind = kind at *
  replace hD := hid hD
  clear han
  unfold strV at *
  generalize v.g = g, v.ls.length = ln, v.e = ee, v.s.toArray = sa, v.obj.length = on at *
  replace CS := hid CS
  replace CA := hid CA
  replace CM := hid CM
  replace hA := hid hA
  go_enter Tryz.func4, Tryz.ntmps4
  go_wp2_with fail
  have hAl : Below w.heap.size w (w.alloc (.cells #[.int .i64 kind, .bool g, .slice a ln c, .int .i64 ee, .string ⟨sa⟩, .slice aa an ac, .slice oa on oc] 28)) := (Below.refl _ w).alloc (Nat.le_refl _) _
  have hBox : BoxA (w.alloc (.cells #[.int .i64 kind, .bool g, .slice a ln c, .int .i64 ee, .string ⟨sa⟩, .slice aa an ac, .slice oa on oc] 28)) w.heap.size kind g a ln c ee ⟨sa⟩ aa an ac oa on oc := ⟨heap_alloc_new w _⟩
  refine (CS.out _ hAl).mono ?_
  rintro en w1 ⟨rfl, hb1⟩
  replace hBox := hBox.stay hb1
  have HB1 := hid (below_trans hAl hb1)
  obtain ⟨c0, c1, c2, c3, c4, c5, c6⟩ := hBox.cells
  clear hAl hb1 CS
  go_wp2_with fail
  refine (CA.out _ HB1.out).mono ?_
  rintro en w2 ⟨rfl, hb2⟩
  replace hBox := hBox.stay hb2
  have HB2 := hid (below_trans HB1.out hb2)
  clear hb2 CA c0 c1 c2 c3 c4 c5 c6
  obtain ⟨c0, c1, c2, c3, c4, c5, c6⟩ := hBox.cells
  go_wp2_with fail
  refine (CM.out _ HB2.out).mono ?_
  rintro en w3 ⟨rfl, hb3⟩
  replace hBox := hBox.stay hb3
  have HB3 := hid (below_trans HB2.out hb3)
  clear hb3 CM c0 c1 c2 c3 c4 c5 c6
  obtain ⟨c0, c1, c2, c3, c4, c5, c6⟩ := hBox.cells
  clear hBox
  go_wp2_with fail
  go_loopw [8, 9] (fun v8 v9 wr => wr = w3 ∧ ∃ i : Nat, i ≤ an ∧ v9 = .int .i64 (i : Nat) ∧ v8 = .bool (decide (kind ≠ 5) || deepB (arr.take i))) (fun _ v9 _ => an - (intOf v9).toNat)
  case atStart => exact ⟨rfl, 0, Nat.zero_le _, rfl, by rw [List.take_zero]; show Value.bool _ = Value.bool (decide (kind ≠ 5) || false); rw [Bool.or_false, bne_dec5]⟩
  case round =>
    obtain ⟨hw, i, hi, rfl, rfl⟩ := hrel
    rw [hw]
    clear hw
    by_cases hlt : i < an
    · have hlt2 : (i : Int) < (an : Int) := by omega
      have hi1 : i < arr.length := by rw [← han2.out]; exact hlt
      obtain ⟨b, off, a1, c1', aa1, ac1, oa1, oc1, haa, _, h7⟩ := (hA.out.below HB3.out).at hi1
      obtain ⟨h0, _⟩ := h7
      subst haa
      have hdt := deep_take hi1
      generalize arr[i].kind = ki at *
      have hnx : (decide (kind ≠ 5) || deepB (arr.take (i + 1))) = ((decide (kind ≠ 5) || deepB (arr.take i)) || decide (4 < ki)) := by rw [hdt, Bool.or_assoc]
      have HN := hid hnx
      clear hnx hdt
      generalize (decide (kind ≠ 5) || deepB (arr.take i)) = D at *
      cases D with
      | true =>
        go_wp2_with fail
        go_roundw
        case rel => exact ⟨by trivial, i + 1, by omega, by go_num, by rw [HN.out]; rfl⟩
        case measure => simp [intOf]; omega
      | false =>
        go_wp2_with fail
        go_roundw
        case rel => exact ⟨by trivial, i + 1, by omega, by go_num, by rw [HN.out]; rfl⟩
        case measure => simp [intOf]; omega
    · have hlt2 : ¬ (i : Int) < (an : Int) := by omega
      have hfull : arr.take i = arr := List.take_of_length_le (by rw [← han2.out]; omega)
      rw [hfull]
      have hd : (decide (kind ≠ 5) || deepB arr) = false := hD.out
      rw [hd]
      clear hfull hd
      go_wp2_with fail
      go_ret
      exact ⟨rfl, HB3.out⟩

set_option maxRecDepth 100000 in
set_option maxHeartbeats 3200000 in
theorem kinds_tsvY (v : JV) (cs : List Value) (w : World) (R : RdV w cs v) (hT : Tabs w) (hM : Mx w) (hS : SmallV v) (hl : mayJ 200 v = true → (jsonJ 200 v).length ≤ 2000000000) (hm : mayJ 200 v = true) (hD : (decide (v.kind ≠ 5) || deepB v.arr) = true) :
    Calls Tryz.prog 4 #[.string (⟨#[64, 116, 115, 118]⟩ : ByteArray), .agg cs.toArray] w fun en w' => en = .returned (.bool true) ∧ Below w.heap.size w w' := by
  obtain ⟨a, c, aa, ac, oa, oc, P⟩ := R.parts
  have hcs := P.cells
  have hA := P.arr
  clear P
  subst hcs
  have CS := fun (W : World) (hb : Below w.heap.size w W) => law20_shown W (hT.below hb) (hM.below hb)
  have CA := fun (W : World) (hb : Below w.heap.size w W) => format_Apply [64, 116, 115, 118] v _ W (R.stay hb) (hT.below hb) (hM.below hb) hS hl
  have CM := fun (W : World) (hb : Below w.heap.size w W) => value_May v _ W (R.stay hb) (hT.below hb)
  rw [hm] at CM
  have hE : (applyA [64, 116, 115, 118] v).2 = 9 := by
    unfold applyA applyR
    rw [if_pos hm, if_neg (by decide), if_neg (by decide), if_neg (by decide), if_neg (by decide), if_neg (by decide), if_neg (by decide), if_neg (by decide), if_pos rfl]
    by_cases h5 : v.kind = 5
    · rw [if_pos h5]
      have hd2 : deepB v.arr = true := by rw [← hD, h5]; simp
      unfold rowR; rw [hd2]; rfl
    · rw [if_neg h5]
  rw [hE] at CA
  generalize (applyA [64, 116, 115, 118] v).1 = T at *
  have hsm : v.arr.length ≤ 1048576 := by cases hS; assumption
  clear R hT hM hS hl hm hE 
  generalize v.arr = arr at *
  obtain ⟨an, han⟩ : ∃ an, an = arr.length := ⟨_, rfl⟩
  have han2 := hid han
  rw [← han] at hsm
  unfold valCs at CA CM ⊢
  rw [← han] at CA CM ⊢
  generalize v.kind = kind at *
  replace hD := hid hD
  clear han
  unfold strV at *
  generalize v.g = g, v.ls.length = ln, v.e = ee, v.s.toArray = sa, v.obj.length = on at *
  replace CS := hid CS
  replace CA := hid CA
  replace CM := hid CM
  replace hA := hid hA
  go_enter Tryz.func4, Tryz.ntmps4
  go_wp2_with fail
  have hAl : Below w.heap.size w (w.alloc (.cells #[.int .i64 kind, .bool g, .slice a ln c, .int .i64 ee, .string ⟨sa⟩, .slice aa an ac, .slice oa on oc] 28)) := (Below.refl _ w).alloc (Nat.le_refl _) _
  have hBox : BoxA (w.alloc (.cells #[.int .i64 kind, .bool g, .slice a ln c, .int .i64 ee, .string ⟨sa⟩, .slice aa an ac, .slice oa on oc] 28)) w.heap.size kind g a ln c ee ⟨sa⟩ aa an ac oa on oc := ⟨heap_alloc_new w _⟩
  refine (CS.out _ hAl).mono ?_
  rintro en w1 ⟨rfl, hb1⟩
  replace hBox := hBox.stay hb1
  have HB1 := hid (below_trans hAl hb1)
  obtain ⟨c0, c1, c2, c3, c4, c5, c6⟩ := hBox.cells
  clear hAl hb1 CS
  go_wp2_with fail
  refine (CA.out _ HB1.out).mono ?_
  rintro en w2 ⟨rfl, hb2⟩
  replace hBox := hBox.stay hb2
  have HB2 := hid (below_trans HB1.out hb2)
  clear hb2 CA c0 c1 c2 c3 c4 c5 c6
  obtain ⟨c0, c1, c2, c3, c4, c5, c6⟩ := hBox.cells
  go_wp2_with fail
  refine (CM.out _ HB2.out).mono ?_
  rintro en w3 ⟨rfl, hb3⟩
  replace hBox := hBox.stay hb3
  have HB3 := hid (below_trans HB2.out hb3)
  clear hb3 CM c0 c1 c2 c3 c4 c5 c6
  obtain ⟨c0, c1, c2, c3, c4, c5, c6⟩ := hBox.cells
  clear hBox
  go_wp2_with fail
  go_loopw [8, 9] (fun v8 v9 wr => wr = w3 ∧ ∃ i : Nat, i ≤ an ∧ v9 = .int .i64 (i : Nat) ∧ v8 = .bool (decide (kind ≠ 5) || deepB (arr.take i))) (fun _ v9 _ => an - (intOf v9).toNat)
  case atStart => exact ⟨rfl, 0, Nat.zero_le _, rfl, by rw [List.take_zero]; show Value.bool _ = Value.bool (decide (kind ≠ 5) || false); rw [Bool.or_false, bne_dec5]⟩
  case round =>
    obtain ⟨hw, i, hi, rfl, rfl⟩ := hrel
    rw [hw]
    clear hw
    by_cases hlt : i < an
    · have hlt2 : (i : Int) < (an : Int) := by omega
      have hi1 : i < arr.length := by rw [← han2.out]; exact hlt
      obtain ⟨b, off, a1, c1', aa1, ac1, oa1, oc1, haa, _, h7⟩ := (hA.out.below HB3.out).at hi1
      obtain ⟨h0, _⟩ := h7
      subst haa
      have hdt := deep_take hi1
      generalize arr[i].kind = ki at *
      have hnx : (decide (kind ≠ 5) || deepB (arr.take (i + 1))) = ((decide (kind ≠ 5) || deepB (arr.take i)) || decide (4 < ki)) := by rw [hdt, Bool.or_assoc]
      have HN := hid hnx
      clear hnx hdt
      generalize (decide (kind ≠ 5) || deepB (arr.take i)) = D at *
      cases D with
      | true =>
        go_wp2_with fail
        go_roundw
        case rel => exact ⟨by trivial, i + 1, by omega, by go_num, by rw [HN.out]; rfl⟩
        case measure => simp [intOf]; omega
      | false =>
        go_wp2_with fail
        go_roundw
        case rel => exact ⟨by trivial, i + 1, by omega, by go_num, by rw [HN.out]; rfl⟩
        case measure => simp [intOf]; omega
    · have hlt2 : ¬ (i : Int) < (an : Int) := by omega
      have hfull : arr.take i = arr := List.take_of_length_le (by rw [← han2.out]; omega)
      rw [hfull]
      have hd : (decide (kind ≠ 5) || deepB arr) = true := hD.out
      rw [hd]
      clear hfull hd
      go_wp2_with fail
      go_ret
      exact ⟨rfl, HB3.out⟩

set_option maxRecDepth 100000 in
set_option maxHeartbeats 3200000 in
theorem kinds_tsvN (v : JV) (cs : List Value) (w : World) (R : RdV w cs v) (hT : Tabs w) (hM : Mx w) (hS : SmallV v) (hl : mayJ 200 v = true → (jsonJ 200 v).length ≤ 2000000000) (hm : mayJ 200 v = true) (hD : (decide (v.kind ≠ 5) || deepB v.arr) = false) :
    Calls Tryz.prog 4 #[.string (⟨#[64, 116, 115, 118]⟩ : ByteArray), .agg cs.toArray] w fun en w' => en = .returned (.bool true) ∧ Below w.heap.size w w' := by
  obtain ⟨a, c, aa, ac, oa, oc, P⟩ := R.parts
  have hcs := P.cells
  have hA := P.arr
  clear P
  subst hcs
  have CS := fun (W : World) (hb : Below w.heap.size w W) => law20_shown W (hT.below hb) (hM.below hb)
  have CA := fun (W : World) (hb : Below w.heap.size w W) => format_Apply [64, 116, 115, 118] v _ W (R.stay hb) (hT.below hb) (hM.below hb) hS hl
  have CM := fun (W : World) (hb : Below w.heap.size w W) => value_May v _ W (R.stay hb) (hT.below hb)
  rw [hm] at CM
  have hE : (applyA [64, 116, 115, 118] v).2 = 0 := by
    unfold applyA applyR
    rw [if_pos hm, if_neg (by decide), if_neg (by decide), if_neg (by decide), if_neg (by decide), if_neg (by decide), if_neg (by decide), if_neg (by decide), if_pos rfl]
    by_cases h5 : v.kind = 5
    · rw [if_pos h5]
      have hd2 : deepB v.arr = false := by rw [← hD, h5]; simp
      unfold rowR; rw [hd2]; rfl
    · rw [if_neg h5]
      exfalso; rw [show decide (v.kind ≠ 5) = true by simpa using h5, Bool.true_or] at hD; cases hD
  rw [hE] at CA
  generalize (applyA [64, 116, 115, 118] v).1 = T at *
  have hsm : v.arr.length ≤ 1048576 := by cases hS; assumption
  clear R hT hM hS hl hm hE 
  generalize v.arr = arr at *
  obtain ⟨an, han⟩ : ∃ an, an = arr.length := ⟨_, rfl⟩
  have han2 := hid han
  rw [← han] at hsm
  unfold valCs at CA CM ⊢
  rw [← han] at CA CM ⊢
  generalize v.kind = kind at *
  replace hD := hid hD
  clear han
  unfold strV at *
  generalize v.g = g, v.ls.length = ln, v.e = ee, v.s.toArray = sa, v.obj.length = on at *
  replace CS := hid CS
  replace CA := hid CA
  replace CM := hid CM
  replace hA := hid hA
  go_enter Tryz.func4, Tryz.ntmps4
  go_wp2_with fail
  have hAl : Below w.heap.size w (w.alloc (.cells #[.int .i64 kind, .bool g, .slice a ln c, .int .i64 ee, .string ⟨sa⟩, .slice aa an ac, .slice oa on oc] 28)) := (Below.refl _ w).alloc (Nat.le_refl _) _
  have hBox : BoxA (w.alloc (.cells #[.int .i64 kind, .bool g, .slice a ln c, .int .i64 ee, .string ⟨sa⟩, .slice aa an ac, .slice oa on oc] 28)) w.heap.size kind g a ln c ee ⟨sa⟩ aa an ac oa on oc := ⟨heap_alloc_new w _⟩
  refine (CS.out _ hAl).mono ?_
  rintro en w1 ⟨rfl, hb1⟩
  replace hBox := hBox.stay hb1
  have HB1 := hid (below_trans hAl hb1)
  obtain ⟨c0, c1, c2, c3, c4, c5, c6⟩ := hBox.cells
  clear hAl hb1 CS
  go_wp2_with fail
  refine (CA.out _ HB1.out).mono ?_
  rintro en w2 ⟨rfl, hb2⟩
  replace hBox := hBox.stay hb2
  have HB2 := hid (below_trans HB1.out hb2)
  clear hb2 CA c0 c1 c2 c3 c4 c5 c6
  obtain ⟨c0, c1, c2, c3, c4, c5, c6⟩ := hBox.cells
  go_wp2_with fail
  refine (CM.out _ HB2.out).mono ?_
  rintro en w3 ⟨rfl, hb3⟩
  replace hBox := hBox.stay hb3
  have HB3 := hid (below_trans HB2.out hb3)
  clear hb3 CM c0 c1 c2 c3 c4 c5 c6
  obtain ⟨c0, c1, c2, c3, c4, c5, c6⟩ := hBox.cells
  clear hBox
  go_wp2_with fail
  go_loopw [8, 9] (fun v8 v9 wr => wr = w3 ∧ ∃ i : Nat, i ≤ an ∧ v9 = .int .i64 (i : Nat) ∧ v8 = .bool (decide (kind ≠ 5) || deepB (arr.take i))) (fun _ v9 _ => an - (intOf v9).toNat)
  case atStart => exact ⟨rfl, 0, Nat.zero_le _, rfl, by rw [List.take_zero]; show Value.bool _ = Value.bool (decide (kind ≠ 5) || false); rw [Bool.or_false, bne_dec5]⟩
  case round =>
    obtain ⟨hw, i, hi, rfl, rfl⟩ := hrel
    rw [hw]
    clear hw
    by_cases hlt : i < an
    · have hlt2 : (i : Int) < (an : Int) := by omega
      have hi1 : i < arr.length := by rw [← han2.out]; exact hlt
      obtain ⟨b, off, a1, c1', aa1, ac1, oa1, oc1, haa, _, h7⟩ := (hA.out.below HB3.out).at hi1
      obtain ⟨h0, _⟩ := h7
      subst haa
      have hdt := deep_take hi1
      generalize arr[i].kind = ki at *
      have hnx : (decide (kind ≠ 5) || deepB (arr.take (i + 1))) = ((decide (kind ≠ 5) || deepB (arr.take i)) || decide (4 < ki)) := by rw [hdt, Bool.or_assoc]
      have HN := hid hnx
      clear hnx hdt
      generalize (decide (kind ≠ 5) || deepB (arr.take i)) = D at *
      cases D with
      | true =>
        go_wp2_with fail
        go_roundw
        case rel => exact ⟨by trivial, i + 1, by omega, by go_num, by rw [HN.out]; rfl⟩
        case measure => simp [intOf]; omega
      | false =>
        go_wp2_with fail
        go_roundw
        case rel => exact ⟨by trivial, i + 1, by omega, by go_num, by rw [HN.out]; rfl⟩
        case measure => simp [intOf]; omega
    · have hlt2 : ¬ (i : Int) < (an : Int) := by omega
      have hfull : arr.take i = arr := List.take_of_length_le (by rw [← han2.out]; omega)
      rw [hfull]
      have hd : (decide (kind ≠ 5) || deepB arr) = false := hD.out
      rw [hd]
      clear hfull hd
      go_wp2_with fail
      go_ret
      exact ⟨rfl, HB3.out⟩

set_option maxRecDepth 100000 in
set_option maxHeartbeats 3200000 in
theorem kinds_other (name : List UInt8) (v : JV) (cs : List Value) (w : World) (R : RdV w cs v) (hT : Tabs w) (hM : Mx w) (hS : SmallV v) (hl : mayJ 200 v = true → (jsonJ 200 v).length ≤ 2000000000) (hm : mayJ 200 v = true) (n0 : name ≠ [64, 116, 101, 120, 116]) (n1 : name ≠ [64, 106, 115, 111, 110]) (n2 : name ≠ [64, 104, 116, 109, 108]) (n3 : name ≠ [64, 117, 114, 105]) (n4 : name ≠ [64, 98, 97, 115, 101, 54, 52]) (n5 : name ≠ [64, 98, 97, 115, 101, 54, 52, 100]) (n6 : name ≠ [64, 99, 115, 118]) (n7 : name ≠ [64, 116, 115, 118]) (n8 : name ≠ [64, 115, 104]) :
    Calls Tryz.prog 4 #[.string ⟨name.toArray⟩, .agg cs.toArray] w fun en w' => en = .returned (.bool true) ∧ Below w.heap.size w w' := by
  obtain ⟨a, c, aa, ac, oa, oc, P⟩ := R.parts
  have hcs := P.cells
  have hA := P.arr
  clear P
  subst hcs
  have CS := fun (W : World) (hb : Below w.heap.size w W) => law20_shown W (hT.below hb) (hM.below hb)
  have CA := fun (W : World) (hb : Below w.heap.size w W) => format_Apply name v _ W (R.stay hb) (hT.below hb) (hM.below hb) hS hl
  have CM := fun (W : World) (hb : Below w.heap.size w W) => value_May v _ W (R.stay hb) (hT.below hb)
  rw [hm] at CM
  have hE : (applyA name v).2 = 11 := by
    unfold applyA applyR
    rw [if_pos hm, if_neg n0, if_neg n1, if_neg n2, if_neg n3, if_neg n4, if_neg n5, if_neg n6, if_neg n7, if_neg n8]
  rw [hE] at CA
  generalize (applyA name v).1 = T at *
  have hsm : v.arr.length ≤ 1048576 := by cases hS; assumption
  clear R hT hM hS hl hm hE 
  have m0 : ((⟨name.toArray⟩ : ByteArray).toList == [64, 116, 101, 120, 116]) = false := bytes_ne n0
  have m1 : ((⟨name.toArray⟩ : ByteArray).toList == [64, 106, 115, 111, 110]) = false := bytes_ne n1
  have m2 : ((⟨name.toArray⟩ : ByteArray).toList == [64, 104, 116, 109, 108]) = false := bytes_ne n2
  have m3 : ((⟨name.toArray⟩ : ByteArray).toList == [64, 117, 114, 105]) = false := bytes_ne n3
  have m4 : ((⟨name.toArray⟩ : ByteArray).toList == [64, 98, 97, 115, 101, 54, 52]) = false := bytes_ne n4
  have m5 : ((⟨name.toArray⟩ : ByteArray).toList == [64, 98, 97, 115, 101, 54, 52, 100]) = false := bytes_ne n5
  have m6 : ((⟨name.toArray⟩ : ByteArray).toList == [64, 99, 115, 118]) = false := bytes_ne n6
  have m7 : ((⟨name.toArray⟩ : ByteArray).toList == [64, 116, 115, 118]) = false := bytes_ne n7
  have m8 : ((⟨name.toArray⟩ : ByteArray).toList == [64, 115, 104]) = false := bytes_ne n8
  clear n0 n1 n2 n3 n4 n5 n6 n7 n8
  generalize (⟨name.toArray⟩ : ByteArray) = nb at *
  generalize v.kind = kind, v.arr.length = an at *
  unfold valCs strV at *
  generalize v.g = g, v.ls.length = ln, v.e = ee, v.s.toArray = sa, v.obj.length = on at *
  replace CS := hid CS
  replace CA := hid CA
  replace CM := hid CM
  replace hA := hid hA
  go_enter Tryz.func4, Tryz.ntmps4
  go_wp2_with fail
  have hAl : Below w.heap.size w (w.alloc (.cells #[.int .i64 kind, .bool g, .slice a ln c, .int .i64 ee, .string ⟨sa⟩, .slice aa an ac, .slice oa on oc] 28)) := (Below.refl _ w).alloc (Nat.le_refl _) _
  have hBox : BoxA (w.alloc (.cells #[.int .i64 kind, .bool g, .slice a ln c, .int .i64 ee, .string ⟨sa⟩, .slice aa an ac, .slice oa on oc] 28)) w.heap.size kind g a ln c ee ⟨sa⟩ aa an ac oa on oc := ⟨heap_alloc_new w _⟩
  refine (CS.out _ hAl).mono ?_
  rintro en w1 ⟨rfl, hb1⟩
  replace hBox := hBox.stay hb1
  have HB1 := hid (below_trans hAl hb1)
  obtain ⟨c0, c1, c2, c3, c4, c5, c6⟩ := hBox.cells
  clear hAl hb1 CS
  go_wp2_with fail
  refine (CA.out _ HB1.out).mono ?_
  rintro en w2 ⟨rfl, hb2⟩
  replace hBox := hBox.stay hb2
  have HB2 := hid (below_trans HB1.out hb2)
  clear hb2 CA c0 c1 c2 c3 c4 c5 c6
  obtain ⟨c0, c1, c2, c3, c4, c5, c6⟩ := hBox.cells
  go_wp2_with fail
  refine (CM.out _ HB2.out).mono ?_
  rintro en w3 ⟨rfl, hb3⟩
  replace hBox := hBox.stay hb3
  have HB3 := hid (below_trans HB2.out hb3)
  clear hb3 CM c0 c1 c2 c3 c4 c5 c6
  obtain ⟨c0, c1, c2, c3, c4, c5, c6⟩ := hBox.cells
  clear hBox
  go_wp2_with fail
  go_ret
  exact ⟨rfl, HB3.out⟩

set_option maxRecDepth 100000 in
set_option maxHeartbeats 3200000 in
theorem kinds_not (name : List UInt8) (v : JV) (cs : List Value) (w : World) (R : RdV w cs v) (hT : Tabs w) (hM : Mx w) (hS : SmallV v) (hl : mayJ 200 v = true → (jsonJ 200 v).length ≤ 2000000000) (hm : mayJ 200 v = false) :
    Calls Tryz.prog 4 #[.string ⟨name.toArray⟩, .agg cs.toArray] w fun en w' => en = .returned (.bool true) ∧ Below w.heap.size w w' := by
  obtain ⟨a, c, aa, ac, oa, oc, P⟩ := R.parts
  have hcs := P.cells
  have hA := P.arr
  clear P
  subst hcs
  have CS := fun (W : World) (hb : Below w.heap.size w W) => law20_shown W (hT.below hb) (hM.below hb)
  have CA := fun (W : World) (hb : Below w.heap.size w W) => format_Apply name v _ W (R.stay hb) (hT.below hb) (hM.below hb) hS hl
  have CM := fun (W : World) (hb : Below w.heap.size w W) => value_May v _ W (R.stay hb) (hT.below hb)
  rw [hm] at CM
  have hE : (applyA name v).2 = 1 := by
    unfold applyA
    rw [if_neg (by rw [hm]; decide)]
  rw [hE] at CA
  generalize (applyA name v).1 = T at *
  have hsm : v.arr.length ≤ 1048576 := by cases hS; assumption
  clear R hT hM hS hl hm hE 
  generalize (⟨name.toArray⟩ : ByteArray) = nb at *
  generalize v.kind = kind, v.arr.length = an at *
  unfold valCs strV at *
  generalize v.g = g, v.ls.length = ln, v.e = ee, v.s.toArray = sa, v.obj.length = on at *
  replace CS := hid CS
  replace CA := hid CA
  replace CM := hid CM
  replace hA := hid hA
  go_enter Tryz.func4, Tryz.ntmps4
  go_wp2_with fail
  have hAl : Below w.heap.size w (w.alloc (.cells #[.int .i64 kind, .bool g, .slice a ln c, .int .i64 ee, .string ⟨sa⟩, .slice aa an ac, .slice oa on oc] 28)) := (Below.refl _ w).alloc (Nat.le_refl _) _
  have hBox : BoxA (w.alloc (.cells #[.int .i64 kind, .bool g, .slice a ln c, .int .i64 ee, .string ⟨sa⟩, .slice aa an ac, .slice oa on oc] 28)) w.heap.size kind g a ln c ee ⟨sa⟩ aa an ac oa on oc := ⟨heap_alloc_new w _⟩
  refine (CS.out _ hAl).mono ?_
  rintro en w1 ⟨rfl, hb1⟩
  replace hBox := hBox.stay hb1
  have HB1 := hid (below_trans hAl hb1)
  obtain ⟨c0, c1, c2, c3, c4, c5, c6⟩ := hBox.cells
  clear hAl hb1 CS
  go_wp2_with fail
  refine (CA.out _ HB1.out).mono ?_
  rintro en w2 ⟨rfl, hb2⟩
  replace hBox := hBox.stay hb2
  have HB2 := hid (below_trans HB1.out hb2)
  clear hb2 CA c0 c1 c2 c3 c4 c5 c6
  obtain ⟨c0, c1, c2, c3, c4, c5, c6⟩ := hBox.cells
  go_wp2_with fail
  refine (CM.out _ HB2.out).mono ?_
  rintro en w3 ⟨rfl, hb3⟩
  replace hBox := hBox.stay hb3
  have HB3 := hid (below_trans HB2.out hb3)
  clear hb3 CM c0 c1 c2 c3 c4 c5 c6
  obtain ⟨c0, c1, c2, c3, c4, c5, c6⟩ := hBox.cells
  clear hBox
  go_wp2_with fail
  go_ret
  exact ⟨rfl, HB3.out⟩

theorem law_FormatKinds (name : List UInt8) (v : JV) (cs : List Value) (w : World) (R : RdV w cs v) (hT : Tabs w) (hM : Mx w) (hS : SmallV v) (hl : mayJ 200 v = true → (jsonJ 200 v).length ≤ 2000000000) :
    Calls Tryz.prog 4 #[.string ⟨name.toArray⟩, .agg cs.toArray] w fun en w' => en = .returned (.bool true) ∧ Below w.heap.size w w' := by
  cases hm : mayJ 200 v with
  | false => exact kinds_not name v cs w R hT hM hS hl hm
  | true =>
    by_cases n0 : name = [64, 116, 101, 120, 116]
    · subst n0
      exact kinds_text v cs w R hT hM hS hl hm
    by_cases n1 : name = [64, 106, 115, 111, 110]
    · subst n1
      exact kinds_json v cs w R hT hM hS hl hm
    by_cases n2 : name = [64, 104, 116, 109, 108]
    · subst n2
      exact kinds_html v cs w R hT hM hS hl hm
    by_cases n3 : name = [64, 117, 114, 105]
    · subst n3
      exact kinds_uri v cs w R hT hM hS hl hm
    by_cases n4 : name = [64, 98, 97, 115, 101, 54, 52]
    · subst n4
      exact kinds_base64 v cs w R hT hM hS hl hm
    by_cases n5 : name = [64, 98, 97, 115, 101, 54, 52, 100]
    · subst n5
      cases hk : (codedR (plainJ v)).2 with
      | true => exact kinds_base64dY v cs w R hT hM hS hl hm hk
      | false => exact kinds_base64dN v cs w R hT hM hS hl hm hk
    by_cases n6 : name = [64, 99, 115, 118]
    · subst n6
      cases hD : (decide (v.kind ≠ 5) || deepB v.arr) with
      | true => exact kinds_csvY v cs w R hT hM hS hl hm hD
      | false => exact kinds_csvN v cs w R hT hM hS hl hm hD
    by_cases n7 : name = [64, 116, 115, 118]
    · subst n7
      cases hD : (decide (v.kind ≠ 5) || deepB v.arr) with
      | true => exact kinds_tsvY v cs w R hT hM hS hl hm hD
      | false => exact kinds_tsvN v cs w R hT hM hS hl hm hD
    by_cases n8 : name = [64, 115, 104]
    · subst n8
      cases hd : deepB (if v.kind = 5 then v.arr else [v]) with
      | false => exact kinds_sh0 v cs w R hT hM hS hl hm hd
      | true =>
        refine kinds_sh9 v cs w R hT hM hS hl hm hd ?_
        by_cases h5 : v.kind = 5
        · omega
        · rw [if_neg h5] at hd
          simpa [deepB] using hd
    exact kinds_other name v cs w R hT hM hS hl hm n0 n1 n2 n3 n4 n5 n6 n7 n8

end Go.Proofs.YtldhebpkplglcaaGreatDoor
