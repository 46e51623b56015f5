/- lorgnetteref20.Apply (printed by tools/gen_refapply.py). The law FormatApplies. -/
import Derived.Test.YtldhebpkplglcaaGreatDoorHb
import Derived.Test.YtldhebpkplglcaaGreatDoorHa
import Derived.Test.YtldhebpkplglcaaGreatDoorFitsM
import Derived.Test.YtldhebpkplglcaaGreatDoorFg
import Derived.Test.YtldhebpkplglcaaGreatDoorGe
import Derived.Test.YtldhebpkplglcaaGreatDoorFe
namespace Go.Proofs.YtldhebpkplglcaaGreatDoor
open Go.RowKit

theorem html_len (s : List UInt8) : (swapL (substL htmlP) s).length ≤ 12 * s.length := by
  have h := swapL_lenK (f := substL htmlP) (K := 6) (fun c => by
    unfold substL
    split
    · rename_i p hp
      have := (find_key hp).2
      simp [htmlP] at this
      rcases this with rfl | rfl | rfl | rfl | rfl <;> decide
    · simp) s
  omega

set_option maxRecDepth 100000 in
set_option maxHeartbeats 6400000 in
theorem refa_text (v : JV) (cs : List Value) (w : World) (G : GV w cs v) :
    Calls Tryz.prog 7 #[.string ⟨#[64, 116, 101, 120, 116]⟩, .agg cs.toArray] w fun en w' => en = .returned (.tuple #[.string ⟨(plainJ v).toArray⟩, .int .i64 0]) ∧ Below w.heap.size w w' := by
  obtain ⟨a, c, aa, ac, oa, oc, P⟩ := G.rd.parts
  have hcs := P.cells
  have hA := P.arr
  clear P
  subst hcs
  have hMay := fun (W : World) (hb : Below w.heap.size w W) => ref11_May v _ W (G.rd.stay hb)
  rw [G.may] at hMay
  have hpl := G.plen
  obtain ⟨hn, hk⟩ := G.items
  have HP := fun (W : World) (hb : Below w.heap.size w W) => ref20_Plain v _ W (G.below hb)
  clear G hpl hA hn hk
  generalize plainJ v = Pl at *
  generalize (⟨Pl.toArray⟩ : ByteArray) = pb at *
  unfold valCs strV at *
  generalize v.kind = kind, v.g = g, v.ls.length = ln, v.e = ee, v.s.toArray = sa, v.arr.length = an, v.obj.length = on at *
  replace hMay := hid hMay
  replace HP := hid HP
  go_enter Tryz.func7, Tryz.ntmps7
  go_wp2_with fail
  have hAl : Below w.heap.size w (w.alloc (.cells #[.int .i64 kind, .bool g, .slice a ln c, .int .i64 ee, .string ⟨sa⟩, .slice aa an ac, .slice oa on oc] 28)) := (Below.refl _ w).alloc (Nat.le_refl _) _
  have hBox : BoxA (w.alloc (.cells #[.int .i64 kind, .bool g, .slice a ln c, .int .i64 ee, .string ⟨sa⟩, .slice aa an ac, .slice oa on oc] 28)) w.heap.size kind g a ln c ee ⟨sa⟩ aa an ac oa on oc := ⟨heap_alloc_new w _⟩
  refine (hMay.out _ hAl).mono ?_
  rintro en w1 ⟨rfl, hb1⟩
  replace hBox := hBox.stay hb1
  have HB1 := hid (below_trans hAl hb1)
  obtain ⟨c0, c1, c2, c3, c4, c5, c6⟩ := hBox.cells
  clear hAl hb1 hMay
  go_wp2_with fail
  refine (HP.out _ HB1.out).mono ?_
  rintro en w2 ⟨rfl, hb2⟩
  replace hBox := hBox.stay hb2
  have HB2 := hid (below_trans HB1.out hb2)
  clear hb2 HP c0 c1 c2 c3 c4 c5 c6
  obtain ⟨c0, c1, c2, c3, c4, c5, c6⟩ := hBox.cells
  clear hBox
  go_wp2_with fail
  go_ret2
  exact ⟨rfl, HB2.out⟩

set_option maxRecDepth 100000 in
set_option maxHeartbeats 6400000 in
theorem refa_json (v : JV) (cs : List Value) (w : World) (G : GV w cs v) :
    Calls Tryz.prog 7 #[.string ⟨#[64, 106, 115, 111, 110]⟩, .agg cs.toArray] w fun en w' => en = .returned (.tuple #[.string ⟨(jsonJ 200 v).toArray⟩, .int .i64 0]) ∧ Below w.heap.size w w' := by
  obtain ⟨a, c, aa, ac, oa, oc, P⟩ := G.rd.parts
  have hcs := P.cells
  have hA := P.arr
  clear P
  subst hcs
  have hMay := fun (W : World) (hb : Below w.heap.size w W) => ref11_May v _ W (G.rd.stay hb)
  rw [G.may] at hMay
  have hpl := G.plen
  obtain ⟨hn, hk⟩ := G.items
  have HP := fun (W : World) (hb : Below w.heap.size w W) => ref20_Plain v _ W (G.below hb)
  have HC := fun (W : World) (hb : Below w.heap.size w W) => ref20_Json v _ W (G.below hb)
  clear G hpl hA hn hk
  generalize jsonJ 200 v = T at *
  replace HC := hid HC
  generalize plainJ v = Pl at *
  generalize (⟨Pl.toArray⟩ : ByteArray) = pb at *
  unfold valCs strV at *
  generalize v.kind = kind, v.g = g, v.ls.length = ln, v.e = ee, v.s.toArray = sa, v.arr.length = an, v.obj.length = on at *
  replace hMay := hid hMay
  replace HP := hid HP
  go_enter Tryz.func7, Tryz.ntmps7
  go_wp2_with fail
  have hAl : Below w.heap.size w (w.alloc (.cells #[.int .i64 kind, .bool g, .slice a ln c, .int .i64 ee, .string ⟨sa⟩, .slice aa an ac, .slice oa on oc] 28)) := (Below.refl _ w).alloc (Nat.le_refl _) _
  have hBox : BoxA (w.alloc (.cells #[.int .i64 kind, .bool g, .slice a ln c, .int .i64 ee, .string ⟨sa⟩, .slice aa an ac, .slice oa on oc] 28)) w.heap.size kind g a ln c ee ⟨sa⟩ aa an ac oa on oc := ⟨heap_alloc_new w _⟩
  refine (hMay.out _ hAl).mono ?_
  rintro en w1 ⟨rfl, hb1⟩
  replace hBox := hBox.stay hb1
  have HB1 := hid (below_trans hAl hb1)
  obtain ⟨c0, c1, c2, c3, c4, c5, c6⟩ := hBox.cells
  clear hAl hb1 hMay
  go_wp2_with fail
  refine (HP.out _ HB1.out).mono ?_
  rintro en w2 ⟨rfl, hb2⟩
  replace hBox := hBox.stay hb2
  have HB2 := hid (below_trans HB1.out hb2)
  clear hb2 HP c0 c1 c2 c3 c4 c5 c6
  obtain ⟨c0, c1, c2, c3, c4, c5, c6⟩ := hBox.cells
  clear hBox
  go_wp2_with fail
  refine (HC.out _ HB2.out).mono ?_
  rintro en w3 ⟨rfl, hb3⟩
  have HB3 := hid (below_trans HB2.out hb3)
  clear hb3
  go_wp2_with fail
  go_ret2
  exact ⟨rfl, HB3.out⟩

set_option maxRecDepth 100000 in
set_option maxHeartbeats 6400000 in
theorem refa_html (v : JV) (cs : List Value) (w : World) (G : GV w cs v) :
    Calls Tryz.prog 7 #[.string ⟨#[64, 104, 116, 109, 108]⟩, .agg cs.toArray] w fun en w' => en = .returned (.tuple #[.string ⟨(swapL (substL htmlP) (plainJ v)).toArray⟩, .int .i64 0]) ∧ Below w.heap.size w w' := by
  obtain ⟨a, c, aa, ac, oa, oc, P⟩ := G.rd.parts
  have hcs := P.cells
  have hA := P.arr
  clear P
  subst hcs
  have hMay := fun (W : World) (hb : Below w.heap.size w W) => ref11_May v _ W (G.rd.stay hb)
  rw [G.may] at hMay
  have hpl := G.plen
  obtain ⟨hn, hk⟩ := G.items
  have HP := fun (W : World) (hb : Below w.heap.size w W) => ref20_Plain v _ W (G.below hb)
  have HC := fun (N cap : Nat) (W : World) (h : W.heap[N]? = some (.cells #[.string ⟨#[38, 108, 116, 59]⟩, .string ⟨#[38, 103, 116, 59]⟩, .string ⟨#[38, 97, 109, 112, 59]⟩, .string ⟨#[38, 35, 51, 57, 59]⟩, .string ⟨#[38, 113, 117, 111, 116, 59]⟩] 9 (0, 0))) => ref20_Swap htmlP (plainJ v) N cap W (by decide) (swap_lit htmlP h) (by decide) (by have := html_len (plainJ v); omega) (by omega)
  clear G hpl hA hn hk
  generalize swapL (substL htmlP) (plainJ v) = T at *
  replace HC := hid HC
  generalize plainJ v = Pl at *
  generalize (⟨Pl.toArray⟩ : ByteArray) = pb at *
  unfold valCs strV at *
  generalize v.kind = kind, v.g = g, v.ls.length = ln, v.e = ee, v.s.toArray = sa, v.arr.length = an, v.obj.length = on at *
  replace hMay := hid hMay
  replace HP := hid HP
  go_enter Tryz.func7, Tryz.ntmps7
  go_wp2_with fail
  have hAl : Below w.heap.size w (w.alloc (.cells #[.int .i64 kind, .bool g, .slice a ln c, .int .i64 ee, .string ⟨sa⟩, .slice aa an ac, .slice oa on oc] 28)) := (Below.refl _ w).alloc (Nat.le_refl _) _
  have hBox : BoxA (w.alloc (.cells #[.int .i64 kind, .bool g, .slice a ln c, .int .i64 ee, .string ⟨sa⟩, .slice aa an ac, .slice oa on oc] 28)) w.heap.size kind g a ln c ee ⟨sa⟩ aa an ac oa on oc := ⟨heap_alloc_new w _⟩
  refine (hMay.out _ hAl).mono ?_
  rintro en w1 ⟨rfl, hb1⟩
  replace hBox := hBox.stay hb1
  have HB1 := hid (below_trans hAl hb1)
  obtain ⟨c0, c1, c2, c3, c4, c5, c6⟩ := hBox.cells
  clear hAl hb1 hMay
  go_wp2_with fail
  refine (HP.out _ HB1.out).mono ?_
  rintro en w2 ⟨rfl, hb2⟩
  replace hBox := hBox.stay hb2
  have HB2 := hid (below_trans HB1.out hb2)
  clear hb2 HP c0 c1 c2 c3 c4 c5 c6
  obtain ⟨c0, c1, c2, c3, c4, c5, c6⟩ := hBox.cells
  clear hBox
  go_wp2_with fail
  refine (HC.out _ _ _ (heap_alloc_new _ _)).mono ?_
  rintro en w3 ⟨rfl, hb3⟩
  have HB3 := hid (below_trans (HB2.out.alloc HB2.out.size _) hb3)
  clear hb3
  go_wp2_with fail
  go_ret2
  exact ⟨rfl, HB3.out⟩

set_option maxRecDepth 100000 in
set_option maxHeartbeats 6400000 in
theorem refa_uri (v : JV) (cs : List Value) (w : World) (G : GV w cs v) :
    Calls Tryz.prog 7 #[.string ⟨#[64, 117, 114, 105]⟩, .agg cs.toArray] w fun en w' => en = .returned (.tuple #[.string ⟨(uriL (plainJ v)).toArray⟩, .int .i64 0]) ∧ Below w.heap.size w w' := by
  obtain ⟨a, c, aa, ac, oa, oc, P⟩ := G.rd.parts
  have hcs := P.cells
  have hA := P.arr
  clear P
  subst hcs
  have hMay := fun (W : World) (hb : Below w.heap.size w W) => ref11_May v _ W (G.rd.stay hb)
  rw [G.may] at hMay
  have hpl := G.plen
  obtain ⟨hn, hk⟩ := G.items
  have HP := fun (W : World) (hb : Below w.heap.size w W) => ref20_Plain v _ W (G.below hb)
  have HC := fun (W : World) => ref20_Uri (plainJ v) W (by omega)
  clear G hpl hA hn hk
  generalize uriL (plainJ v) = T at *
  replace HC := hid HC
  generalize plainJ v = Pl at *
  generalize (⟨Pl.toArray⟩ : ByteArray) = pb at *
  unfold valCs strV at *
  generalize v.kind = kind, v.g = g, v.ls.length = ln, v.e = ee, v.s.toArray = sa, v.arr.length = an, v.obj.length = on at *
  replace hMay := hid hMay
  replace HP := hid HP
  go_enter Tryz.func7, Tryz.ntmps7
  go_wp2_with fail
  have hAl : Below w.heap.size w (w.alloc (.cells #[.int .i64 kind, .bool g, .slice a ln c, .int .i64 ee, .string ⟨sa⟩, .slice aa an ac, .slice oa on oc] 28)) := (Below.refl _ w).alloc (Nat.le_refl _) _
  have hBox : BoxA (w.alloc (.cells #[.int .i64 kind, .bool g, .slice a ln c, .int .i64 ee, .string ⟨sa⟩, .slice aa an ac, .slice oa on oc] 28)) w.heap.size kind g a ln c ee ⟨sa⟩ aa an ac oa on oc := ⟨heap_alloc_new w _⟩
  refine (hMay.out _ hAl).mono ?_
  rintro en w1 ⟨rfl, hb1⟩
  replace hBox := hBox.stay hb1
  have HB1 := hid (below_trans hAl hb1)
  obtain ⟨c0, c1, c2, c3, c4, c5, c6⟩ := hBox.cells
  clear hAl hb1 hMay
  go_wp2_with fail
  refine (HP.out _ HB1.out).mono ?_
  rintro en w2 ⟨rfl, hb2⟩
  replace hBox := hBox.stay hb2
  have HB2 := hid (below_trans HB1.out hb2)
  clear hb2 HP c0 c1 c2 c3 c4 c5 c6
  obtain ⟨c0, c1, c2, c3, c4, c5, c6⟩ := hBox.cells
  clear hBox
  go_wp2_with fail
  refine (HC.out _).mono ?_
  rintro en w3 ⟨rfl, hb3⟩
  have HB3 := hid (below_trans HB2.out hb3)
  clear hb3
  go_wp2_with fail
  go_ret2
  exact ⟨rfl, HB3.out⟩

set_option maxRecDepth 100000 in
set_option maxHeartbeats 6400000 in
theorem refa_b64 (v : JV) (cs : List Value) (w : World) (G : GV w cs v) :
    Calls Tryz.prog 7 #[.string ⟨#[64, 98, 97, 115, 101, 54, 52]⟩, .agg cs.toArray] w fun en w' => en = .returned (.tuple #[.string ⟨(b64 (plainJ v)).toArray⟩, .int .i64 0]) ∧ Below w.heap.size w w' := by
  obtain ⟨a, c, aa, ac, oa, oc, P⟩ := G.rd.parts
  have hcs := P.cells
  have hA := P.arr
  clear P
  subst hcs
  have hMay := fun (W : World) (hb : Below w.heap.size w W) => ref11_May v _ W (G.rd.stay hb)
  rw [G.may] at hMay
  have hpl := G.plen
  obtain ⟨hn, hk⟩ := G.items
  have HP := fun (W : World) (hb : Below w.heap.size w W) => ref20_Plain v _ W (G.below hb)
  have HC := fun (W : World) => (ref20_Base (plainJ v) W (by omega)).mono (fun e w' h => And.intro h.1 (show Below W.heap.size W w' by rw [h.2]; exact Below.refl _ _))
  clear G hpl hA hn hk
  generalize b64 (plainJ v) = T at *
  replace HC := hid HC
  generalize plainJ v = Pl at *
  generalize (⟨Pl.toArray⟩ : ByteArray) = pb at *
  unfold valCs strV at *
  generalize v.kind = kind, v.g = g, v.ls.length = ln, v.e = ee, v.s.toArray = sa, v.arr.length = an, v.obj.length = on at *
  replace hMay := hid hMay
  replace HP := hid HP
  go_enter Tryz.func7, Tryz.ntmps7
  go_wp2_with fail
  have hAl : Below w.heap.size w (w.alloc (.cells #[.int .i64 kind, .bool g, .slice a ln c, .int .i64 ee, .string ⟨sa⟩, .slice aa an ac, .slice oa on oc] 28)) := (Below.refl _ w).alloc (Nat.le_refl _) _
  have hBox : BoxA (w.alloc (.cells #[.int .i64 kind, .bool g, .slice a ln c, .int .i64 ee, .string ⟨sa⟩, .slice aa an ac, .slice oa on oc] 28)) w.heap.size kind g a ln c ee ⟨sa⟩ aa an ac oa on oc := ⟨heap_alloc_new w _⟩
  refine (hMay.out _ hAl).mono ?_
  rintro en w1 ⟨rfl, hb1⟩
  replace hBox := hBox.stay hb1
  have HB1 := hid (below_trans hAl hb1)
  obtain ⟨c0, c1, c2, c3, c4, c5, c6⟩ := hBox.cells
  clear hAl hb1 hMay
  go_wp2_with fail
  refine (HP.out _ HB1.out).mono ?_
  rintro en w2 ⟨rfl, hb2⟩
  replace hBox := hBox.stay hb2
  have HB2 := hid (below_trans HB1.out hb2)
  clear hb2 HP c0 c1 c2 c3 c4 c5 c6
  obtain ⟨c0, c1, c2, c3, c4, c5, c6⟩ := hBox.cells
  clear hBox
  go_wp2_with fail
  refine (HC.out _).mono ?_
  rintro en w3 ⟨rfl, hb3⟩
  have HB3 := hid (below_trans HB2.out hb3)
  clear hb3
  go_wp2_with fail
  go_ret2
  exact ⟨rfl, HB3.out⟩

set_option maxRecDepth 100000 in
set_option maxHeartbeats 6400000 in
theorem refa_b64dY (v : JV) (cs : List Value) (w : World) (G : GV w cs v) (hkk : (codedR (plainJ v)).2 = true) :
    Calls Tryz.prog 7 #[.string ⟨#[64, 98, 97, 115, 101, 54, 52, 100]⟩, .agg cs.toArray] w fun en w' => en = .returned (.tuple #[.string ⟨(cleanL (codedR (plainJ v)).1).toArray⟩, .int .i64 0]) ∧ Below w.heap.size w w' := by
  obtain ⟨a, c, aa, ac, oa, oc, P⟩ := G.rd.parts
  have hcs := P.cells
  have hA := P.arr
  clear P
  subst hcs
  have hMay := fun (W : World) (hb : Below w.heap.size w W) => ref11_May v _ W (G.rd.stay hb)
  rw [G.may] at hMay
  have hpl := G.plen
  obtain ⟨hn, hk⟩ := G.items
  have HP := fun (W : World) (hb : Below w.heap.size w W) => ref20_Plain v _ W (G.below hb)
  have hcs := coded_same (plainJ v)
  have hk2 : (debaseR (plainJ v)).2 = true := hcs.1.symm.trans hkk
  have HC := fun (W : World) => ref20_Debase (plainJ v) W (by omega)
  rw [hk2] at HC
  rw [← hcs.2 hkk] at HC
  have HK := fun (W : World) => ref4_Clean (codedR (plainJ v)).1 W (by have := codedR_len (plainJ v); omega)
  clear hcs hk2
  clear G hpl hA hn hk
  clear hkk
  generalize cleanL (codedR (plainJ v)).1 = T at *
  generalize (codedR (plainJ v)).1 = D at *
  generalize (⟨D.toArray⟩ : ByteArray) = db at *
  replace HC := hid HC
  replace HK := hid HK
  generalize plainJ v = Pl at *
  generalize (⟨Pl.toArray⟩ : ByteArray) = pb at *
  unfold valCs strV at *
  generalize v.kind = kind, v.g = g, v.ls.length = ln, v.e = ee, v.s.toArray = sa, v.arr.length = an, v.obj.length = on at *
  replace hMay := hid hMay
  replace HP := hid HP
  go_enter Tryz.func7, Tryz.ntmps7
  go_wp2_with fail
  have hAl : Below w.heap.size w (w.alloc (.cells #[.int .i64 kind, .bool g, .slice a ln c, .int .i64 ee, .string ⟨sa⟩, .slice aa an ac, .slice oa on oc] 28)) := (Below.refl _ w).alloc (Nat.le_refl _) _
  have hBox : BoxA (w.alloc (.cells #[.int .i64 kind, .bool g, .slice a ln c, .int .i64 ee, .string ⟨sa⟩, .slice aa an ac, .slice oa on oc] 28)) w.heap.size kind g a ln c ee ⟨sa⟩ aa an ac oa on oc := ⟨heap_alloc_new w _⟩
  refine (hMay.out _ hAl).mono ?_
  rintro en w1 ⟨rfl, hb1⟩
  replace hBox := hBox.stay hb1
  have HB1 := hid (below_trans hAl hb1)
  obtain ⟨c0, c1, c2, c3, c4, c5, c6⟩ := hBox.cells
  clear hAl hb1 hMay
  go_wp2_with fail
  refine (HP.out _ HB1.out).mono ?_
  rintro en w2 ⟨rfl, hb2⟩
  replace hBox := hBox.stay hb2
  have HB2 := hid (below_trans HB1.out hb2)
  clear hb2 HP c0 c1 c2 c3 c4 c5 c6
  obtain ⟨c0, c1, c2, c3, c4, c5, c6⟩ := hBox.cells
  clear hBox
  go_wp2_with fail
  refine (HC.out _).mono ?_
  rintro en w3 ⟨rfl, hb3⟩
  have HB3 := hid (below_trans HB2.out hb3)
  clear hb3
  go_wp2_with fail
  refine (HK.out _).mono ?_
  rintro en w4 ⟨rfl, hb4⟩
  have HB4 := hid (below_trans HB3.out hb4)
  clear hb4
  go_wp2_with fail
  go_ret2
  exact ⟨rfl, HB4.out⟩

set_option maxRecDepth 100000 in
set_option maxHeartbeats 6400000 in
theorem refa_b64dN (v : JV) (cs : List Value) (w : World) (G : GV w cs v) (hkk : (codedR (plainJ v)).2 = false) :
    Calls Tryz.prog 7 #[.string ⟨#[64, 98, 97, 115, 101, 54, 52, 100]⟩, .agg cs.toArray] w fun en w' => en = .returned (.tuple #[.string ⟨#[]⟩, .int .i64 2]) ∧ Below w.heap.size w w' := by
  obtain ⟨a, c, aa, ac, oa, oc, P⟩ := G.rd.parts
  have hcs := P.cells
  have hA := P.arr
  clear P
  subst hcs
  have hMay := fun (W : World) (hb : Below w.heap.size w W) => ref11_May v _ W (G.rd.stay hb)
  rw [G.may] at hMay
  have hpl := G.plen
  obtain ⟨hn, hk⟩ := G.items
  have HP := fun (W : World) (hb : Below w.heap.size w W) => ref20_Plain v _ W (G.below hb)
  have hk2 : (debaseR (plainJ v)).2 = false := (coded_same (plainJ v)).1.symm.trans hkk
  have HC := fun (W : World) => ref20_Debase (plainJ v) W (by omega)
  rw [hk2] at HC
  clear hk2
  clear G hpl hA hn hk
  clear hkk
  generalize (debaseR (plainJ v)).1 = D at *
  generalize (⟨D.toArray⟩ : ByteArray) = db at *
  replace HC := hid HC
  generalize plainJ v = Pl at *
  generalize (⟨Pl.toArray⟩ : ByteArray) = pb at *
  unfold valCs strV at *
  generalize v.kind = kind, v.g = g, v.ls.length = ln, v.e = ee, v.s.toArray = sa, v.arr.length = an, v.obj.length = on at *
  replace hMay := hid hMay
  replace HP := hid HP
  go_enter Tryz.func7, Tryz.ntmps7
  go_wp2_with fail
  have hAl : Below w.heap.size w (w.alloc (.cells #[.int .i64 kind, .bool g, .slice a ln c, .int .i64 ee, .string ⟨sa⟩, .slice aa an ac, .slice oa on oc] 28)) := (Below.refl _ w).alloc (Nat.le_refl _) _
  have hBox : BoxA (w.alloc (.cells #[.int .i64 kind, .bool g, .slice a ln c, .int .i64 ee, .string ⟨sa⟩, .slice aa an ac, .slice oa on oc] 28)) w.heap.size kind g a ln c ee ⟨sa⟩ aa an ac oa on oc := ⟨heap_alloc_new w _⟩
  refine (hMay.out _ hAl).mono ?_
  rintro en w1 ⟨rfl, hb1⟩
  replace hBox := hBox.stay hb1
  have HB1 := hid (below_trans hAl hb1)
  obtain ⟨c0, c1, c2, c3, c4, c5, c6⟩ := hBox.cells
  clear hAl hb1 hMay
  go_wp2_with fail
  refine (HP.out _ HB1.out).mono ?_
  rintro en w2 ⟨rfl, hb2⟩
  replace hBox := hBox.stay hb2
  have HB2 := hid (below_trans HB1.out hb2)
  clear hb2 HP c0 c1 c2 c3 c4 c5 c6
  obtain ⟨c0, c1, c2, c3, c4, c5, c6⟩ := hBox.cells
  clear hBox
  go_wp2_with fail
  refine (HC.out _).mono ?_
  rintro en w3 ⟨rfl, hb3⟩
  have HB3 := hid (below_trans HB2.out hb3)
  clear hb3
  go_wp2_with fail
  go_ret2
  exact ⟨rfl, HB3.out⟩

set_option maxRecDepth 100000 in
set_option maxHeartbeats 6400000 in
theorem refa_csv5 (v : JV) (cs : List Value) (w : World) (G : GV w cs v) (h5 : v.kind = 5) :
    Calls Tryz.prog 7 #[.string ⟨#[64, 99, 115, 118]⟩, .agg cs.toArray] w fun en w' => en = .returned (.tuple #[.string ⟨(rowR [] (quoL 34 [34, 34]) [44] v.arr).1.toArray⟩, .int .i64 (rowR [] (quoL 34 [34, 34]) [44] v.arr).2]) ∧ Below w.heap.size w w' := by
  obtain ⟨a, c, aa, ac, oa, oc, P⟩ := G.rd.parts
  have hcs := P.cells
  have hA := P.arr
  clear P
  subst hcs
  have hMay := fun (W : World) (hb : Below w.heap.size w W) => ref11_May v _ W (G.rd.stay hb)
  rw [G.may] at hMay
  have hpl := G.plen
  obtain ⟨hn, hk⟩ := G.items
  have HP := fun (W : World) (hb : Below w.heap.size w W) => ref20_Plain v _ W (G.below hb)
  have HC := fun (W : World) (hb : Below w.heap.size w W) => ref20_Row0 v.arr aa ac [44] W (hA.below hb) (G.mx.below hb) (G.tabs.below hb) hn hk (by decide)
  clear G hpl hA hn hk
  generalize rowR [] (quoL 34 [34, 34]) [44] v.arr = R at *
  replace HC := hid HC
  generalize plainJ v = Pl at *
  generalize (⟨Pl.toArray⟩ : ByteArray) = pb at *
  unfold valCs strV at *
  rw [show v.kind = 5 from h5] at *
  clear h5
  generalize v.g = g, v.ls.length = ln, v.e = ee, v.s.toArray = sa, v.arr.length = an, v.obj.length = on at *
  replace hMay := hid hMay
  replace HP := hid HP
  go_enter Tryz.func7, Tryz.ntmps7
  go_wp2_with fail
  have hAl : Below w.heap.size w (w.alloc (.cells #[.int .i64 5, .bool g, .slice a ln c, .int .i64 ee, .string ⟨sa⟩, .slice aa an ac, .slice oa on oc] 28)) := (Below.refl _ w).alloc (Nat.le_refl _) _
  have hBox : BoxA (w.alloc (.cells #[.int .i64 5, .bool g, .slice a ln c, .int .i64 ee, .string ⟨sa⟩, .slice aa an ac, .slice oa on oc] 28)) w.heap.size 5 g a ln c ee ⟨sa⟩ aa an ac oa on oc := ⟨heap_alloc_new w _⟩
  refine (hMay.out _ hAl).mono ?_
  rintro en w1 ⟨rfl, hb1⟩
  replace hBox := hBox.stay hb1
  have HB1 := hid (below_trans hAl hb1)
  obtain ⟨c0, c1, c2, c3, c4, c5, c6⟩ := hBox.cells
  clear hAl hb1 hMay
  go_wp2_with fail
  refine (HP.out _ HB1.out).mono ?_
  rintro en w2 ⟨rfl, hb2⟩
  replace hBox := hBox.stay hb2
  have HB2 := hid (below_trans HB1.out hb2)
  clear hb2 HP c0 c1 c2 c3 c4 c5 c6
  obtain ⟨c0, c1, c2, c3, c4, c5, c6⟩ := hBox.cells
  clear hBox
  go_wp2_with fail
  refine (HC.out _ HB2.out).mono ?_
  rintro en w3 ⟨rfl, hb3⟩
  have HB3 := hid (below_trans HB2.out hb3)
  clear hb3
  go_wp2_with fail
  go_ret2
  exact ⟨rfl, HB3.out⟩

set_option maxRecDepth 100000 in
set_option maxHeartbeats 6400000 in
theorem refa_csvN (v : JV) (cs : List Value) (w : World) (G : GV w cs v) (h5 : ¬ v.kind = 5) :
    Calls Tryz.prog 7 #[.string ⟨#[64, 99, 115, 118]⟩, .agg cs.toArray] w fun en w' => en = .returned (.tuple #[.string ⟨#[]⟩, .int .i64 9]) ∧ Below w.heap.size w w' := by
  obtain ⟨a, c, aa, ac, oa, oc, P⟩ := G.rd.parts
  have hcs := P.cells
  have hA := P.arr
  clear P
  subst hcs
  have hMay := fun (W : World) (hb : Below w.heap.size w W) => ref11_May v _ W (G.rd.stay hb)
  rw [G.may] at hMay
  have hpl := G.plen
  obtain ⟨hn, hk⟩ := G.items
  have HP := fun (W : World) (hb : Below w.heap.size w W) => ref20_Plain v _ W (G.below hb)
  have h6 : (v.kind != 5) = true := by rw [bne_iff_ne]; exact h5
  have h7 : (v.kind == 5) = false := by rw [beq_eq_false_iff_ne]; exact h5
  clear G hpl hA hn hk
  clear h5
  generalize plainJ v = Pl at *
  generalize (⟨Pl.toArray⟩ : ByteArray) = pb at *
  unfold valCs strV at *
  generalize v.kind = kind, v.g = g, v.ls.length = ln, v.e = ee, v.s.toArray = sa, v.arr.length = an, v.obj.length = on at *
  replace hMay := hid hMay
  replace HP := hid HP
  go_enter Tryz.func7, Tryz.ntmps7
  go_wp2_with fail
  have hAl : Below w.heap.size w (w.alloc (.cells #[.int .i64 kind, .bool g, .slice a ln c, .int .i64 ee, .string ⟨sa⟩, .slice aa an ac, .slice oa on oc] 28)) := (Below.refl _ w).alloc (Nat.le_refl _) _
  have hBox : BoxA (w.alloc (.cells #[.int .i64 kind, .bool g, .slice a ln c, .int .i64 ee, .string ⟨sa⟩, .slice aa an ac, .slice oa on oc] 28)) w.heap.size kind g a ln c ee ⟨sa⟩ aa an ac oa on oc := ⟨heap_alloc_new w _⟩
  refine (hMay.out _ hAl).mono ?_
  rintro en w1 ⟨rfl, hb1⟩
  replace hBox := hBox.stay hb1
  have HB1 := hid (below_trans hAl hb1)
  obtain ⟨c0, c1, c2, c3, c4, c5, c6⟩ := hBox.cells
  clear hAl hb1 hMay
  go_wp2_with fail
  refine (HP.out _ HB1.out).mono ?_
  rintro en w2 ⟨rfl, hb2⟩
  replace hBox := hBox.stay hb2
  have HB2 := hid (below_trans HB1.out hb2)
  clear hb2 HP c0 c1 c2 c3 c4 c5 c6
  obtain ⟨c0, c1, c2, c3, c4, c5, c6⟩ := hBox.cells
  clear hBox
  go_wp2_with fail
  go_ret2
  exact ⟨rfl, HB2.out⟩

set_option maxRecDepth 100000 in
set_option maxHeartbeats 6400000 in
theorem refa_tsv5 (v : JV) (cs : List Value) (w : World) (G : GV w cs v) (h5 : v.kind = 5) :
    Calls Tryz.prog 7 #[.string ⟨#[64, 116, 115, 118]⟩, .agg cs.toArray] w fun en w' => en = .returned (.tuple #[.string ⟨(rowR [] (swapL (substL tsvP)) [9] v.arr).1.toArray⟩, .int .i64 (rowR [] (swapL (substL tsvP)) [9] v.arr).2]) ∧ Below w.heap.size w w' := by
  obtain ⟨a, c, aa, ac, oa, oc, P⟩ := G.rd.parts
  have hcs := P.cells
  have hA := P.arr
  clear P
  subst hcs
  have hMay := fun (W : World) (hb : Below w.heap.size w W) => ref11_May v _ W (G.rd.stay hb)
  rw [G.may] at hMay
  have hpl := G.plen
  obtain ⟨hn, hk⟩ := G.items
  have HP := fun (W : World) (hb : Below w.heap.size w W) => ref20_Plain v _ W (G.below hb)
  have HC := fun (W : World) (hb : Below w.heap.size w W) => ref20_Row1 v.arr aa ac [9] W (hA.below hb) (G.mx.below hb) (G.tabs.below hb) hn hk (by decide)
  clear G hpl hA hn hk
  generalize rowR [] (swapL (substL tsvP)) [9] v.arr = R at *
  replace HC := hid HC
  generalize plainJ v = Pl at *
  generalize (⟨Pl.toArray⟩ : ByteArray) = pb at *
  unfold valCs strV at *
  rw [show v.kind = 5 from h5] at *
  clear h5
  generalize v.g = g, v.ls.length = ln, v.e = ee, v.s.toArray = sa, v.arr.length = an, v.obj.length = on at *
  replace hMay := hid hMay
  replace HP := hid HP
  go_enter Tryz.func7, Tryz.ntmps7
  go_wp2_with fail
  have hAl : Below w.heap.size w (w.alloc (.cells #[.int .i64 5, .bool g, .slice a ln c, .int .i64 ee, .string ⟨sa⟩, .slice aa an ac, .slice oa on oc] 28)) := (Below.refl _ w).alloc (Nat.le_refl _) _
  have hBox : BoxA (w.alloc (.cells #[.int .i64 5, .bool g, .slice a ln c, .int .i64 ee, .string ⟨sa⟩, .slice aa an ac, .slice oa on oc] 28)) w.heap.size 5 g a ln c ee ⟨sa⟩ aa an ac oa on oc := ⟨heap_alloc_new w _⟩
  refine (hMay.out _ hAl).mono ?_
  rintro en w1 ⟨rfl, hb1⟩
  replace hBox := hBox.stay hb1
  have HB1 := hid (below_trans hAl hb1)
  obtain ⟨c0, c1, c2, c3, c4, c5, c6⟩ := hBox.cells
  clear hAl hb1 hMay
  go_wp2_with fail
  refine (HP.out _ HB1.out).mono ?_
  rintro en w2 ⟨rfl, hb2⟩
  replace hBox := hBox.stay hb2
  have HB2 := hid (below_trans HB1.out hb2)
  clear hb2 HP c0 c1 c2 c3 c4 c5 c6
  obtain ⟨c0, c1, c2, c3, c4, c5, c6⟩ := hBox.cells
  clear hBox
  go_wp2_with fail
  refine (HC.out _ HB2.out).mono ?_
  rintro en w3 ⟨rfl, hb3⟩
  have HB3 := hid (below_trans HB2.out hb3)
  clear hb3
  go_wp2_with fail
  go_ret2
  exact ⟨rfl, HB3.out⟩

set_option maxRecDepth 100000 in
set_option maxHeartbeats 6400000 in
theorem refa_tsvN (v : JV) (cs : List Value) (w : World) (G : GV w cs v) (h5 : ¬ v.kind = 5) :
    Calls Tryz.prog 7 #[.string ⟨#[64, 116, 115, 118]⟩, .agg cs.toArray] w fun en w' => en = .returned (.tuple #[.string ⟨#[]⟩, .int .i64 9]) ∧ Below w.heap.size w w' := by
  obtain ⟨a, c, aa, ac, oa, oc, P⟩ := G.rd.parts
  have hcs := P.cells
  have hA := P.arr
  clear P
  subst hcs
  have hMay := fun (W : World) (hb : Below w.heap.size w W) => ref11_May v _ W (G.rd.stay hb)
  rw [G.may] at hMay
  have hpl := G.plen
  obtain ⟨hn, hk⟩ := G.items
  have HP := fun (W : World) (hb : Below w.heap.size w W) => ref20_Plain v _ W (G.below hb)
  have h6 : (v.kind != 5) = true := by rw [bne_iff_ne]; exact h5
  have h7 : (v.kind == 5) = false := by rw [beq_eq_false_iff_ne]; exact h5
  clear G hpl hA hn hk
  clear h5
  generalize plainJ v = Pl at *
  generalize (⟨Pl.toArray⟩ : ByteArray) = pb at *
  unfold valCs strV at *
  generalize v.kind = kind, v.g = g, v.ls.length = ln, v.e = ee, v.s.toArray = sa, v.arr.length = an, v.obj.length = on at *
  replace hMay := hid hMay
  replace HP := hid HP
  go_enter Tryz.func7, Tryz.ntmps7
  go_wp2_with fail
  have hAl : Below w.heap.size w (w.alloc (.cells #[.int .i64 kind, .bool g, .slice a ln c, .int .i64 ee, .string ⟨sa⟩, .slice aa an ac, .slice oa on oc] 28)) := (Below.refl _ w).alloc (Nat.le_refl _) _
  have hBox : BoxA (w.alloc (.cells #[.int .i64 kind, .bool g, .slice a ln c, .int .i64 ee, .string ⟨sa⟩, .slice aa an ac, .slice oa on oc] 28)) w.heap.size kind g a ln c ee ⟨sa⟩ aa an ac oa on oc := ⟨heap_alloc_new w _⟩
  refine (hMay.out _ hAl).mono ?_
  rintro en w1 ⟨rfl, hb1⟩
  replace hBox := hBox.stay hb1
  have HB1 := hid (below_trans hAl hb1)
  obtain ⟨c0, c1, c2, c3, c4, c5, c6⟩ := hBox.cells
  clear hAl hb1 hMay
  go_wp2_with fail
  refine (HP.out _ HB1.out).mono ?_
  rintro en w2 ⟨rfl, hb2⟩
  replace hBox := hBox.stay hb2
  have HB2 := hid (below_trans HB1.out hb2)
  clear hb2 HP c0 c1 c2 c3 c4 c5 c6
  obtain ⟨c0, c1, c2, c3, c4, c5, c6⟩ := hBox.cells
  clear hBox
  go_wp2_with fail
  go_ret2
  exact ⟨rfl, HB2.out⟩

set_option maxRecDepth 100000 in
set_option maxHeartbeats 6400000 in
theorem refa_sh5 (v : JV) (cs : List Value) (w : World) (G : GV w cs v) (h5 : v.kind = 5) :
    Calls Tryz.prog 7 #[.string ⟨#[64, 115, 104]⟩, .agg cs.toArray] w fun en w' => en = .returned (.tuple #[.string ⟨(rowR [110, 117, 108, 108] (quoL 39 [39, 92, 39, 39]) [32] v.arr).1.toArray⟩, .int .i64 (rowR [110, 117, 108, 108] (quoL 39 [39, 92, 39, 39]) [32] v.arr).2]) ∧ Below w.heap.size w w' := by
  obtain ⟨a, c, aa, ac, oa, oc, P⟩ := G.rd.parts
  have hcs := P.cells
  have hA := P.arr
  clear P
  subst hcs
  have hMay := fun (W : World) (hb : Below w.heap.size w W) => ref11_May v _ W (G.rd.stay hb)
  rw [G.may] at hMay
  have hpl := G.plen
  obtain ⟨hn, hk⟩ := G.items
  have HP := fun (W : World) (hb : Below w.heap.size w W) => ref20_Plain v _ W (G.below hb)
  have HC := fun (W : World) (hb : Below w.heap.size w W) => ref20_Row2 v.arr aa ac [32] W (hA.below hb) (G.mx.below hb) (G.tabs.below hb) hn hk (by decide)
  clear G hpl hA hn hk
  generalize rowR [110, 117, 108, 108] (quoL 39 [39, 92, 39, 39]) [32] v.arr = R at *
  replace HC := hid HC
  generalize plainJ v = Pl at *
  generalize (⟨Pl.toArray⟩ : ByteArray) = pb at *
  unfold valCs strV at *
  rw [show v.kind = 5 from h5] at *
  clear h5
  generalize v.g = g, v.ls.length = ln, v.e = ee, v.s.toArray = sa, v.arr.length = an, v.obj.length = on at *
  replace hMay := hid hMay
  replace HP := hid HP
  go_enter Tryz.func7, Tryz.ntmps7
  go_wp2_with fail
  have hAl : Below w.heap.size w (w.alloc (.cells #[.int .i64 5, .bool g, .slice a ln c, .int .i64 ee, .string ⟨sa⟩, .slice aa an ac, .slice oa on oc] 28)) := (Below.refl _ w).alloc (Nat.le_refl _) _
  have hBox : BoxA (w.alloc (.cells #[.int .i64 5, .bool g, .slice a ln c, .int .i64 ee, .string ⟨sa⟩, .slice aa an ac, .slice oa on oc] 28)) w.heap.size 5 g a ln c ee ⟨sa⟩ aa an ac oa on oc := ⟨heap_alloc_new w _⟩
  refine (hMay.out _ hAl).mono ?_
  rintro en w1 ⟨rfl, hb1⟩
  replace hBox := hBox.stay hb1
  have HB1 := hid (below_trans hAl hb1)
  obtain ⟨c0, c1, c2, c3, c4, c5, c6⟩ := hBox.cells
  clear hAl hb1 hMay
  go_wp2_with fail
  refine (HP.out _ HB1.out).mono ?_
  rintro en w2 ⟨rfl, hb2⟩
  replace hBox := hBox.stay hb2
  have HB2 := hid (below_trans HB1.out hb2)
  clear hb2 HP c0 c1 c2 c3 c4 c5 c6
  obtain ⟨c0, c1, c2, c3, c4, c5, c6⟩ := hBox.cells
  clear hBox
  go_wp2_with fail
  refine (HC.out _ HB2.out).mono ?_
  rintro en w3 ⟨rfl, hb3⟩
  have HB3 := hid (below_trans HB2.out hb3)
  clear hb3
  go_wp2_with fail
  go_ret2
  exact ⟨rfl, HB3.out⟩

set_option maxRecDepth 100000 in
set_option maxHeartbeats 6400000 in
theorem refa_shN (v : JV) (cs : List Value) (w : World) (G : GV w cs v) (h5 : ¬ v.kind = 5) :
    Calls Tryz.prog 7 #[.string ⟨#[64, 115, 104]⟩, .agg cs.toArray] w fun en w' => en = .returned (.tuple #[.string ⟨(rowR [110, 117, 108, 108] (quoL 39 [39, 92, 39, 39]) [32] [v]).1.toArray⟩, .int .i64 (rowR [110, 117, 108, 108] (quoL 39 [39, 92, 39, 39]) [32] [v]).2]) ∧ Below w.heap.size w w' := by
  obtain ⟨a, c, aa, ac, oa, oc, P⟩ := G.rd.parts
  have hcs := P.cells
  have hA := P.arr
  clear P
  subst hcs
  have hMay := fun (W : World) (hb : Below w.heap.size w W) => ref11_May v _ W (G.rd.stay hb)
  rw [G.may] at hMay
  have hpl := G.plen
  obtain ⟨hn, hk⟩ := G.items
  have HP := fun (W : World) (hb : Below w.heap.size w W) => ref20_Plain v _ W (G.below hb)
  have HC := fun (W : World) (b cap : Nat) (hb : Below w.heap.size w W) (hc : CellsAt W (some ⟨b, 0, none⟩) 0 _) => ref20_Row2 [v] (some ⟨b, 0, none⟩) cap [32] W (one_rda hc (G.rd.stay hb)) (G.mx.below hb) (G.tabs.below hb) (by simp) (fun x hx => by obtain rfl : x = v := List.mem_singleton.1 hx; exact ⟨G.may, G.small, G.str⟩) (by decide)
  have h7 : (v.kind == 5) = false := by rw [beq_eq_false_iff_ne]; exact h5
  clear G hpl hA hn hk
  clear h5
  generalize rowR [110, 117, 108, 108] (quoL 39 [39, 92, 39, 39]) [32] [v] = R at *
  replace HC := hid HC
  generalize plainJ v = Pl at *
  generalize (⟨Pl.toArray⟩ : ByteArray) = pb at *
  unfold valCs strV at *
  generalize v.kind = kind, v.g = g, v.ls.length = ln, v.e = ee, v.s.toArray = sa, v.arr.length = an, v.obj.length = on at *
  replace hMay := hid hMay
  replace HP := hid HP
  go_enter Tryz.func7, Tryz.ntmps7
  go_wp2_with fail
  have hAl : Below w.heap.size w (w.alloc (.cells #[.int .i64 kind, .bool g, .slice a ln c, .int .i64 ee, .string ⟨sa⟩, .slice aa an ac, .slice oa on oc] 28)) := (Below.refl _ w).alloc (Nat.le_refl _) _
  have hBox : BoxA (w.alloc (.cells #[.int .i64 kind, .bool g, .slice a ln c, .int .i64 ee, .string ⟨sa⟩, .slice aa an ac, .slice oa on oc] 28)) w.heap.size kind g a ln c ee ⟨sa⟩ aa an ac oa on oc := ⟨heap_alloc_new w _⟩
  refine (hMay.out _ hAl).mono ?_
  rintro en w1 ⟨rfl, hb1⟩
  replace hBox := hBox.stay hb1
  have HB1 := hid (below_trans hAl hb1)
  obtain ⟨c0, c1, c2, c3, c4, c5, c6⟩ := hBox.cells
  clear hAl hb1 hMay
  go_wp2_with fail
  refine (HP.out _ HB1.out).mono ?_
  rintro en w2 ⟨rfl, hb2⟩
  replace hBox := hBox.stay hb2
  have HB2 := hid (below_trans HB1.out hb2)
  clear hb2 HP c0 c1 c2 c3 c4 c5 c6
  obtain ⟨c0, c1, c2, c3, c4, c5, c6⟩ := hBox.cells
  clear hBox
  go_wp2_with fail
  have hC7 : CellsAt (w2.alloc (.cells #[.int .i64 kind, .bool g, .slice a ln c, .int .i64 ee, .string ⟨sa⟩, .slice aa an ac, .slice oa on oc] 28)) (some ⟨w2.heap.size, 0, none⟩) 0 [.int .i64 kind, .bool g, .slice a ln c, .int .i64 ee, .string ⟨sa⟩, .slice aa an ac, .slice oa on oc] := by
    refine ⟨_, _, rfl, fun j v hj => ?_⟩
    rw [Lib.cell_of_heap (heap_alloc_new w2 _)]
    simpa using hj
  have hAl := HB2.out.alloc HB2.out.size (.cells #[.int .i64 kind, .bool g, .slice a ln c, .int .i64 ee, .string ⟨sa⟩, .slice aa an ac, .slice oa on oc] 28)
  refine (HC.out _ _ _ hAl hC7).mono ?_
  rintro en w3 ⟨rfl, hb3⟩
  have HB3 := hid (below_trans hAl hb3)
  clear hb3 hC7 hAl c0 c1 c2 c3 c4 c5 c6
  go_wp2_with fail
  go_ret2
  exact ⟨rfl, HB3.out⟩

set_option maxRecDepth 100000 in
set_option maxHeartbeats 6400000 in
theorem refa_other (name : List UInt8) (v : JV) (cs : List Value) (w : World) (G : GV w cs v) (n0 : name ≠ [64, 116, 101, 120, 116]) (n1 : name ≠ [64, 106, 115, 111, 110]) (n2 : name ≠ [64, 104, 116, 109, 108]) (n3 : name ≠ [64, 117, 114, 105]) (n4 : name ≠ [64, 98, 97, 115, 101, 54, 52]) (n5 : name ≠ [64, 98, 97, 115, 101, 54, 52, 100]) (n6 : name ≠ [64, 99, 115, 118]) (n7 : name ≠ [64, 116, 115, 118]) (n8 : name ≠ [64, 115, 104]) :
    Calls Tryz.prog 7 #[.string ⟨name.toArray⟩, .agg cs.toArray] w fun en w' => en = .returned (.tuple #[.string ⟨#[]⟩, .int .i64 11]) ∧ Below w.heap.size w w' := by
  obtain ⟨a, c, aa, ac, oa, oc, P⟩ := G.rd.parts
  have hcs := P.cells
  have hA := P.arr
  clear P
  subst hcs
  have hMay := fun (W : World) (hb : Below w.heap.size w W) => ref11_May v _ W (G.rd.stay hb)
  rw [G.may] at hMay
  have hpl := G.plen
  obtain ⟨hn, hk⟩ := G.items
  have HP := fun (W : World) (hb : Below w.heap.size w W) => ref20_Plain v _ W (G.below hb)
  have m0 : ((⟨name.toArray⟩ : ByteArray).toList == [64, 116, 101, 120, 116]) = false := bytes_ne n0
  have m1 : ((⟨name.toArray⟩ : ByteArray).toList == [64, 106, 115, 111, 110]) = false := bytes_ne n1
  have m2 : ((⟨name.toArray⟩ : ByteArray).toList == [64, 104, 116, 109, 108]) = false := bytes_ne n2
  have m3 : ((⟨name.toArray⟩ : ByteArray).toList == [64, 117, 114, 105]) = false := bytes_ne n3
  have m4 : ((⟨name.toArray⟩ : ByteArray).toList == [64, 98, 97, 115, 101, 54, 52]) = false := bytes_ne n4
  have m5 : ((⟨name.toArray⟩ : ByteArray).toList == [64, 98, 97, 115, 101, 54, 52, 100]) = false := bytes_ne n5
  have m6 : ((⟨name.toArray⟩ : ByteArray).toList == [64, 99, 115, 118]) = false := bytes_ne n6
  have m7 : ((⟨name.toArray⟩ : ByteArray).toList == [64, 116, 115, 118]) = false := bytes_ne n7
  have m8 : ((⟨name.toArray⟩ : ByteArray).toList == [64, 115, 104]) = false := bytes_ne n8
  clear G hpl hA hn hk
  clear n0 n1 n2 n3 n4 n5 n6 n7 n8
  generalize (⟨name.toArray⟩ : ByteArray) = nb at *
  generalize plainJ v = Pl at *
  generalize (⟨Pl.toArray⟩ : ByteArray) = pb at *
  unfold valCs strV at *
  generalize v.kind = kind, v.g = g, v.ls.length = ln, v.e = ee, v.s.toArray = sa, v.arr.length = an, v.obj.length = on at *
  replace hMay := hid hMay
  replace HP := hid HP
  go_enter Tryz.func7, Tryz.ntmps7
  go_wp2_with fail
  have hAl : Below w.heap.size w (w.alloc (.cells #[.int .i64 kind, .bool g, .slice a ln c, .int .i64 ee, .string ⟨sa⟩, .slice aa an ac, .slice oa on oc] 28)) := (Below.refl _ w).alloc (Nat.le_refl _) _
  have hBox : BoxA (w.alloc (.cells #[.int .i64 kind, .bool g, .slice a ln c, .int .i64 ee, .string ⟨sa⟩, .slice aa an ac, .slice oa on oc] 28)) w.heap.size kind g a ln c ee ⟨sa⟩ aa an ac oa on oc := ⟨heap_alloc_new w _⟩
  refine (hMay.out _ hAl).mono ?_
  rintro en w1 ⟨rfl, hb1⟩
  replace hBox := hBox.stay hb1
  have HB1 := hid (below_trans hAl hb1)
  obtain ⟨c0, c1, c2, c3, c4, c5, c6⟩ := hBox.cells
  clear hAl hb1 hMay
  go_wp2_with fail
  refine (HP.out _ HB1.out).mono ?_
  rintro en w2 ⟨rfl, hb2⟩
  replace hBox := hBox.stay hb2
  have HB2 := hid (below_trans HB1.out hb2)
  clear hb2 HP c0 c1 c2 c3 c4 c5 c6
  obtain ⟨c0, c1, c2, c3, c4, c5, c6⟩ := hBox.cells
  clear hBox
  go_wp2_with fail
  go_ret2
  exact ⟨rfl, HB2.out⟩

set_option maxRecDepth 100000 in
set_option maxHeartbeats 3200000 in
theorem refa_not (name : List UInt8) (v : JV) (cs : List Value) (w : World) (R : RdV w cs v) (hm : mayJ 200 v = false) :
    Calls Tryz.prog 7 #[.string ⟨name.toArray⟩, .agg cs.toArray] w fun en w' => en = .returned (.tuple #[.string ⟨#[]⟩, .int .i64 1]) ∧ Below w.heap.size w w' := by
  obtain ⟨a, c, aa, ac, oa, oc, P⟩ := R.parts
  have hcs := P.cells
  clear P
  subst hcs
  have hMay := fun (W : World) (hb : Below w.heap.size w W) => ref11_May v _ W (R.stay hb)
  rw [hm] at hMay
  clear R hm
  generalize (⟨name.toArray⟩ : ByteArray) = nb at *
  unfold valCs strV at *
  generalize v.kind = kind, v.g = g, v.ls.length = ln, v.e = ee, v.s.toArray = sa, v.arr.length = an, v.obj.length = on at *
  replace hMay := hid hMay
  go_enter Tryz.func7, Tryz.ntmps7
  go_wp2_with fail
  have hAl : Below w.heap.size w (w.alloc (.cells #[.int .i64 kind, .bool g, .slice a ln c, .int .i64 ee, .string ⟨sa⟩, .slice aa an ac, .slice oa on oc] 28)) := (Below.refl _ w).alloc (Nat.le_refl _) _
  refine (hMay.out _ hAl).mono ?_
  rintro en w1 ⟨rfl, hb1⟩
  have HB1 := hid (below_trans hAl hb1)
  clear hAl hb1 hMay
  go_wp2_with fail
  go_ret2
  exact ⟨rfl, HB1.out⟩

/-- The document's Apply tells what the program's tells. -/
theorem ref20_Apply (name : List UInt8) (v : JV) (cs : List Value) (w : World) (R : RdV w cs v) (hT : Tabs w) (hM : Mx w) (hS : SmallV v) (hl : mayJ 200 v = true → (jsonJ 200 v).length ≤ 2000000000) :
    Calls Tryz.prog 7 #[.string ⟨name.toArray⟩, .agg cs.toArray] w fun en w' => en = .returned (.tuple #[.string ⟨(applyA name v).1.toArray⟩, .int .i64 (applyA name v).2]) ∧ Below w.heap.size w w' := by
  unfold applyA
  by_cases hm : mayJ 200 v = true
  · rw [if_pos hm]
    have G : GV w cs v := ⟨hm, hS, R, hT, hM, hl hm, by cases hS; assumption⟩
    unfold applyR
    by_cases n0 : name = [64, 116, 101, 120, 116]
    · subst n0
      rw [if_pos rfl]
      exact refa_text v cs w G
    by_cases n1 : name = [64, 106, 115, 111, 110]
    · subst n1
      rw [if_neg (by decide), if_pos rfl]
      exact refa_json v cs w G
    by_cases n2 : name = [64, 104, 116, 109, 108]
    · subst n2
      rw [if_neg (by decide), if_neg (by decide), if_pos rfl]
      exact refa_html v cs w G
    by_cases n3 : name = [64, 117, 114, 105]
    · subst n3
      rw [if_neg (by decide), if_neg (by decide), if_neg (by decide), if_pos rfl]
      exact refa_uri v cs w G
    by_cases n4 : name = [64, 98, 97, 115, 101, 54, 52]
    · subst n4
      rw [if_neg (by decide), if_neg (by decide), if_neg (by decide), if_neg (by decide), if_pos rfl]
      exact refa_b64 v cs w G
    by_cases n5 : name = [64, 98, 97, 115, 101, 54, 52, 100]
    · subst n5
      rw [if_neg (by decide), if_neg (by decide), if_neg (by decide), if_neg (by decide), if_neg (by decide), if_pos rfl]
      cases hk : (codedR (plainJ v)).2 with
      | true => rw [if_pos rfl]; exact refa_b64dY v cs w G hk
      | false => rw [if_neg (by decide)]; exact refa_b64dN v cs w G hk
    by_cases n6 : name = [64, 99, 115, 118]
    · subst n6
      rw [if_neg (by decide), if_neg (by decide), if_neg (by decide), if_neg (by decide), if_neg (by decide), if_neg (by decide), if_pos rfl]
      by_cases h5 : v.kind = 5
      · rw [if_pos h5]; exact refa_csv5 v cs w G h5
      · rw [if_neg h5]; exact refa_csvN v cs w G h5
    by_cases n7 : name = [64, 116, 115, 118]
    · subst n7
      rw [if_neg (by decide), if_neg (by decide), if_neg (by decide), if_neg (by decide), if_neg (by decide), if_neg (by decide), if_neg (by decide), if_pos rfl]
      by_cases h5 : v.kind = 5
      · rw [if_pos h5]; exact refa_tsv5 v cs w G h5
      · rw [if_neg h5]; exact refa_tsvN v cs w G h5
    by_cases n8 : name = [64, 115, 104]
    · subst n8
      rw [if_neg (by decide), if_neg (by decide), if_neg (by decide), if_neg (by decide), if_neg (by decide), if_neg (by decide), if_neg (by decide), if_neg (by decide), if_pos rfl]
      by_cases h5 : v.kind = 5
      · rw [if_pos h5]; exact refa_sh5 v cs w G h5
      · rw [if_neg h5]; exact refa_shN v cs w G h5
    rw [if_neg n0, if_neg n1, if_neg n2, if_neg n3, if_neg n4, if_neg n5, if_neg n6, if_neg n7, if_neg n8]
    exact refa_other name v cs w G n0 n1 n2 n3 n4 n5 n6 n7 n8
  · rw [if_neg hm]
    exact refa_not name v cs w R (by simpa using hm)

end Go.Proofs.YtldhebpkplglcaaGreatDoor

namespace Go.Proofs.YtldhebpkplglcaaGreatDoor
open Go.RowKit

set_option maxRecDepth 100000 in
set_option maxHeartbeats 3200000 in
theorem law_FormatApplies (name : List UInt8) (v : JV) (cs : List Value) (w : World) (R : RdV w cs v) (hT : Tabs w) (hM : Mx w) (hS : SmallV v) (hl : mayJ 200 v = true → (jsonJ 200 v).length ≤ 2000000000) :
    Calls Tryz.prog 3 #[.string ⟨name.toArray⟩, .agg cs.toArray] w fun en w' => en = .returned (.bool true) ∧ Below w.heap.size w w' := by
  obtain ⟨a, c, aa, ac, oa, oc, P⟩ := R.parts
  have hcs := P.cells
  clear P
  subst hcs
  have CS := fun (W : World) (hb : Below w.heap.size w W) => law20_shown W (hT.below hb) (hM.below hb)
  have CA := fun (W : World) (hb : Below w.heap.size w W) => format_Apply name v _ W (R.stay hb) (hT.below hb) (hM.below hb) hS hl
  have CR := fun (W : World) (hb : Below w.heap.size w W) => ref20_Apply name v _ W (R.stay hb) (hT.below hb) (hM.below hb) hS hl
  have hq : ((⟨(applyA name v).1.toArray⟩ : ByteArray).toList == (⟨(applyA name v).1.toArray⟩ : ByteArray).toList) = true := by simp
  generalize (⟨(applyA name v).1.toArray⟩ : ByteArray) = tb at *
  generalize (applyA name v).2 = E at *
  generalize (⟨name.toArray⟩ : ByteArray) = nb at *
  clear R hT hM hS hl
  unfold valCs strV at *
  generalize v.kind = kind, v.g = g, v.ls.length = ln, v.e = ee, v.s.toArray = sa, v.arr.length = an, v.obj.length = on at *
  replace CS := hid CS
  replace CA := hid CA
  replace CR := hid CR
  go_enter Tryz.func3, Tryz.ntmps3
  go_wp2_with fail
  have hAl : Below w.heap.size w (w.alloc (.cells #[.int .i64 kind, .bool g, .slice a ln c, .int .i64 ee, .string ⟨sa⟩, .slice aa an ac, .slice oa on oc] 28)) := (Below.refl _ w).alloc (Nat.le_refl _) _
  have hBox : BoxA (w.alloc (.cells #[.int .i64 kind, .bool g, .slice a ln c, .int .i64 ee, .string ⟨sa⟩, .slice aa an ac, .slice oa on oc] 28)) w.heap.size kind g a ln c ee ⟨sa⟩ aa an ac oa on oc := ⟨heap_alloc_new w _⟩
  refine (CS.out _ hAl).mono ?_
  rintro en w1 ⟨rfl, hb1⟩
  replace hBox := hBox.stay hb1
  have HB1 := hid (below_trans hAl hb1)
  obtain ⟨c0, c1, c2, c3, c4, c5, c6⟩ := hBox.cells
  clear hAl hb1 CS
  go_wp2_with fail
  refine (CA.out _ HB1.out).mono ?_
  rintro en w2 ⟨rfl, hb2⟩
  replace hBox := hBox.stay hb2
  have HB2 := hid (below_trans HB1.out hb2)
  clear hb2 CA c0 c1 c2 c3 c4 c5 c6
  obtain ⟨c0, c1, c2, c3, c4, c5, c6⟩ := hBox.cells
  clear hBox
  go_wp2_with fail
  refine (CR.out _ HB2.out).mono ?_
  rintro en w3 ⟨rfl, hb3⟩
  have HB3 := hid (below_trans HB2.out hb3)
  clear hb3 CR c0 c1 c2 c3 c4 c5 c6
  go_wp2_with fail
  go_ret
  exact ⟨rfl, HB3.out⟩

end Go.Proofs.YtldhebpkplglcaaGreatDoor
