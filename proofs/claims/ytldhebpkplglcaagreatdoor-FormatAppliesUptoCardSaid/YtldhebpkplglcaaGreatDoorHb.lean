/- ref13.step, line, Sorted at the empty style. ref13.Write at the empty style: values that hold no other. ref13.Write at the empty style: arrays. ref13.Write at the empty style: objects, and all. lorgnetteref20.Json and Plain at any value that may be. lorgnetteref20.Row. -/
import Derived.Test.YtldhebpkplglcaaGreatDoorHc
import Derived.Test.YtldhebpkplglcaaGreatDoorGe
import Derived.Test.YtldhebpkplglcaaGreatDoorHd
import Derived.Test.YtldhebpkplglcaaGreatDoorHa
namespace Go.Proofs.YtldhebpkplglcaaGreatDoor
open Go.RowKit

def style0 : Array Value := #[.int .i64 0, .bool false, .bool false, .bool false]

set_option maxRecDepth 100000 in
theorem ref13_step (w : World) : Calls Tryz.prog 84 #[.agg style0] w fun e w' => e = .returned (.string ⟨#[]⟩) ∧ Below w.heap.size w w' := by
  unfold style0
  have HB := hid ((Below.refl w.heap.size w).alloc (Nat.le_refl _) (.cells #[.int .i64 0, .bool false, .bool false, .bool false] 58))
  go_enter Tryz.func84, Tryz.ntmps84
  go_wp2_with fail
  go_loopw [3, 4] (fun v3 v4 wr => wr = w.alloc (.cells #[.int .i64 0, .bool false, .bool false, .bool false] 58) ∧ v3 = .string ⟨#[]⟩ ∧ v4 = .int .i64 0) (fun _ _ _ => 0)
  case atStart => exact ⟨rfl, rfl, rfl⟩
  case round =>
    obtain ⟨hw, rfl, rfl⟩ := hrel
    rw [hw]
    clear hw
    go_wp2_with fail
    go_ret
    exact ⟨rfl, HB.out⟩

set_option maxRecDepth 100000 in
theorem ref13_line (op : Int) (w : World) : Calls Tryz.prog 82 #[.agg style0, .int .i64 op] w fun e w' => e = .returned (.string ⟨#[]⟩) ∧ Below w.heap.size w w' := by
  have C := ref13_step (w.alloc (.cells style0 58))
  have hB := (Below.refl w.heap.size w).alloc (Nat.le_refl _) (.cells style0 58)
  unfold style0 at *
  replace C := hid C
  have HB := hid hB
  go_enter Tryz.func82, Tryz.ntmps82
  go_wp2_with fail
  refine C.out.mono ?_
  rintro e w1 ⟨rfl, hb1⟩
  have HB1 := hid (below_trans HB.out hb1)
  clear hb1 C
  go_wp2_with fail
  go_ret
  exact ⟨rfl, HB1.out⟩

set_option maxRecDepth 100000 in
theorem ref13_Sorted (kind : Int) (g : Bool) (a : Option Addr) (ln c : Nat) (ee : Int) (sb : ByteArray) (aa : Option Addr) (an ac : Nat) (oa : Option Addr) (on oc : Nat) (w : World) :
    Calls Tryz.prog 83 #[.agg #[.int .i64 kind, .bool g, .slice a ln c, .int .i64 ee, .string sb, .slice aa an ac, .slice oa on oc], .agg style0] w fun e w' => e = .returned (.slice oa on oc) ∧ Below w.heap.size w w' := by
  unfold style0
  have HB := hid (((Below.refl w.heap.size w).alloc (Nat.le_refl _) (.cells #[.int .i64 kind, .bool g, .slice a ln c, .int .i64 ee, .string sb, .slice aa an ac, .slice oa on oc] 28)).alloc (by simp) (.cells #[.int .i64 0, .bool false, .bool false, .bool false] 58))
  go_enter Tryz.func83, Tryz.ntmps83
  go_wp2_with fail
  go_ret
  exact ⟨rfl, HB.out⟩

end Go.Proofs.YtldhebpkplglcaaGreatDoor

namespace Go.Proofs.YtldhebpkplglcaaGreatDoor
open Go.RowKit

/-- What the document's writer answers, so many levels left. -/
def RefW (f : Nat) : Prop := ∀ (v : JV) (cs : List Value) (op : Int) (w : World), mayJ f v = true → SmallV v → RdV w cs v → 0 ≤ op → op + f ≤ 1048576 → (jsonJ f v).length ≤ 140737488355328 →
  Calls Tryz.prog 50 #[.agg cs.toArray, .agg style0, .int .i64 op] w fun e w' => e = .returned (.string ⟨(jsonJ f v).toArray⟩) ∧ Below w.heap.size w w'

theorem two_boxes (w : World) (a b : Obj) : Below w.heap.size w ((w.alloc a).alloc b) := ((Below.refl _ w).alloc (Nat.le_refl _) _).alloc (by simp) _

set_option maxRecDepth 100000 in
set_option maxHeartbeats 1600000 in
theorem refw_012 (k : Int) (t : ByteArray) (hk : (k = 0 ∧ t = ⟨nullT.toArray⟩) ∨ (k = 1 ∧ t = ⟨falseT.toArray⟩) ∨ (k = 2 ∧ t = ⟨trueT.toArray⟩)) (x1 x2 x3 x4 x5 x6 : Value) (op : Int) (w : World) :
    Calls Tryz.prog 50 #[.agg #[.int .i64 k, x1, x2, x3, x4, x5, x6], .agg style0, .int .i64 op] w fun e w' => e = .returned (.string t) ∧ Below w.heap.size w w' := by
  have HB := hid (two_boxes w)
  unfold style0
  obtain ⟨rfl, rfl⟩ | ⟨rfl, rfl⟩ | ⟨rfl, rfl⟩ := hk
  · go_enter Tryz.func50, Tryz.ntmps50
    go_wp2_with fail
    go_ret
    exact ⟨rfl, HB.out _ _⟩
  · go_enter Tryz.func50, Tryz.ntmps50
    go_wp2_with fail
    go_ret
    exact ⟨rfl, HB.out _ _⟩
  · go_enter Tryz.func50, Tryz.ntmps50
    go_wp2_with fail
    go_ret
    exact ⟨rfl, HB.out _ _⟩

set_option maxRecDepth 100000 in
set_option maxHeartbeats 1600000 in
theorem refw_3 (g : Bool) (a : Option Addr) (cap : Nat) (e : Int) (xs : List Nat) (d : D) (x4 x5 x6 : Value) (op : Int) (w : World) (hu : U32 w a xs) (ht : takenE g xs.length (Num.worth xs) e = 0 ∧ takenD g xs.length (Num.worth xs) e = d) :
    Calls Tryz.prog 50 #[.agg #[.int .i64 3, .bool g, .slice a xs.length cap, .int .i64 e, x4, x5, x6], .agg style0, .int .i64 op] w fun e w' => e = .returned (.string ⟨(textL d).toArray⟩) ∧ Below w.heap.size w w' := by
  have HB := hid (two_boxes w)
  have CT := fun (W : World) (hb : Below w.heap.size w W) => ref2_Text g a cap e xs W (hu.below hb)
  unfold OutSE at CT
  rw [if_pos ht.1, ht.1, ht.2] at CT
  replace CT := hid CT
  unfold style0
  clear hu ht
  generalize xs.length = n at *
  generalize (⟨(textL d).toArray⟩ : ByteArray) = tb at *
  go_enter Tryz.func50, Tryz.ntmps50
  go_wp2_with fail
  refine (CT.out _ (HB.out _ _)).mono ?_
  rintro e w1 ⟨rfl, hb1⟩
  have HB1 := hid (below_trans (HB.out _ _) hb1)
  clear hb1 CT
  go_wp2_with fail
  go_ret
  exact ⟨rfl, HB1.out⟩

set_option maxRecDepth 100000 in
set_option maxHeartbeats 1600000 in
theorem refw_4 (s : List UInt8) (x1 x2 x3 x5 x6 : Value) (op : Int) (w : World) (hs : s.length ≤ 1048576) :
    Calls Tryz.prog 50 #[.agg #[.int .i64 4, x1, x2, x3, .string ⟨s.toArray⟩, x5, x6], .agg style0, .int .i64 op] w fun e w' => e = .returned (.string ⟨(quoteA false s).toArray⟩) ∧ Below w.heap.size w w' := by
  have HB := hid (two_boxes w)
  have CT := hid fun W => ref_Written s false W (by omega)
  unfold style0
  generalize (⟨(quoteA false s).toArray⟩ : ByteArray) = tb at *
  generalize (⟨s.toArray⟩ : ByteArray) = sb at *
  go_enter Tryz.func50, Tryz.ntmps50
  go_wp2_with fail
  refine (CT.out _).mono ?_
  rintro e w1 ⟨rfl, hb1⟩
  have HB1 := hid (below_trans (HB.out _ _) hb1)
  clear hb1 CT
  go_wp2_with fail
  go_ret
  exact ⟨rfl, HB1.out⟩

theorem refw_leaf (f : Nat) (v : JV) (cs : List Value) (op : Int) (w : World) (hm : mayJ f v = true) (hk : v.kind < 5) (sm : SmallV v) (rd : RdV w cs v) :
    Calls Tryz.prog 50 #[.agg cs.toArray, .agg style0, .int .i64 op] w fun e w' => e = .returned (.string ⟨(jsonJ f v).toArray⟩) ∧ Below w.heap.size w w' := by
  have hk2 := may_kind hm
  have ht := may_taken hm
  have hs3 : v.s.length ≤ 1048576 := by cases sm; assumption
  obtain ⟨a, c, aa, ac, oa, oc, P⟩ := rd.parts
  have hcs := P.cells
  have hu := P.u
  clear P rd sm
  subst hcs
  obtain hk | hk | hk | hk | hk : v.kind = 0 ∨ v.kind = 1 ∨ v.kind = 2 ∨ v.kind = 3 ∨ v.kind = 4 := by omega
  · rw [jsonJ0 f hk]
    rw [hk]
    exact refw_012 _ _ (Or.inl ⟨rfl, rfl⟩) _ _ _ _ _ _ op w
  · rw [jsonJ1 f hk]
    rw [hk]
    exact refw_012 _ _ (Or.inr (Or.inl ⟨rfl, rfl⟩)) _ _ _ _ _ _ op w
  · rw [jsonJ2 f hk]
    rw [hk]
    exact refw_012 _ _ (Or.inr (Or.inr ⟨rfl, rfl⟩)) _ _ _ _ _ _ op w
  · rw [jsonJ3 f hk]
    rw [hk]
    exact refw_3 v.g a c v.e v.ls (dOf v) _ _ _ op w hu (ht hk)
  · rw [jsonJ4 f hk]
    rw [hk]
    exact refw_4 v.s _ _ _ _ _ op w hs3

end Go.Proofs.YtldhebpkplglcaaGreatDoor

namespace Go.Proofs.YtldhebpkplglcaaGreatDoor
open Go.RowKit

theorem add_runs (a b : ByteArray) (h : a.size ≤ 1000000000000000000) (h2 : b.size ≤ 1000000000000000000) : ∀ W, (Op.stringOp .add a b).run Tryz.prog W = .ok (.string (a ++ b)) W := fun _ => run_string_add_sum _ a b (by omega)
theorem app_le {a b : ByteArray} {m n k : Nat} (h : a.size ≤ m) (h2 : b.size ≤ n) (hk : m + n ≤ k) : (a ++ b).size ≤ k := by rw [ByteArray.size_append]; omega
theorem hold_drew (W : World) : (∀ b o, b < W.heap.size → W.drew.cell? ⟨b, o, none⟩ = W.cell? ⟨b, o, none⟩) ∧ Below W.heap.size W W.drew := ⟨(bcell (Below.refl _ _).drew).1, (Below.refl _ _).drew⟩
theorem hold_call {W W' w1 : World} (h : (∀ b o, b < W.heap.size → W'.cell? ⟨b, o, none⟩ = W.cell? ⟨b, o, none⟩) ∧ Below W.heap.size W W') (hb : Below W'.heap.size W' w1) : (∀ b o, b < W.heap.size → w1.cell? ⟨b, o, none⟩ = W.cell? ⟨b, o, none⟩) ∧ Below W.heap.size W w1 :=
  have hB := below_trans h.2 hb
  ⟨(bcell hB).1, hB⟩
theorem str_step (a : ByteArray) (x y z : List UInt8) (u : ByteArray) (ha : a = ⟨x.toArray⟩) (hu : u = ⟨y.toArray⟩) (hz : z = x ++ y) : a ++ ⟨#[]⟩ ++ u = ⟨z.toArray⟩ := by
  subst ha hu hz
  apply ByteArray.ext
  simp [ByteArray.data_append]
theorem str_step2 (a : ByteArray) (x y z : List UInt8) (u : ByteArray) (ha : a = ⟨x.toArray⟩) (hu : u = ⟨y.toArray⟩) (hz : z = x ++ 44 :: y) : a ++ ⟨#[44]⟩ ++ ⟨#[]⟩ ++ u = ⟨z.toArray⟩ := by
  subst ha hu hz
  apply ByteArray.ext
  simp [ByteArray.data_append]
theorem str_end (a : ByteArray) (x z : List UInt8) (c : UInt8) (ha : a = ⟨x.toArray⟩) (hz : z = x ++ [c]) : a ++ ⟨#[]⟩ ++ ⟨#[c]⟩ = ⟨z.toArray⟩ := by
  subst ha hz
  apply ByteArray.ext
  simp [ByteArray.data_append]
theorem bstr_len (z : List UInt8) : (⟨z.toArray⟩ : ByteArray).size = z.length := by simp [ByteArray.size]

set_option maxRecDepth 100000 in
set_option maxHeartbeats 6400000 in
theorem refw_5 (f : Nat) (IH : RefW f) (v : JV) (cs : List Value) (op : Int) (w : World) (hm : mayJ (f + 1) v = true) (hk : v.kind = 5) (sm : SmallV v) (rd : RdV w cs v) (hop : 0 ≤ op) (hop2 : op + (f + 1) ≤ 1048576) (hl : (jsonJ (f + 1) v).length ≤ 140737488355328) :
    Calls Tryz.prog 50 #[.agg cs.toArray, .agg style0, .int .i64 op] w fun e w' => e = .returned (.string ⟨(jsonJ (f + 1) v).toArray⟩) ∧ Below w.heap.size w w' := by
  obtain ⟨a, c, aa, ac, oa, oc, P⟩ := rd.parts
  have hcs := P.cells
  have hA := P.arr
  have han := P.ac
  clear P rd
  subst hcs
  have hma : ∀ x ∈ v.arr, mayJ f x = true := by
    simp only [mayJ, Bool.and_eq_true, List.all_eq_true] at hm
    exact hm.1.1.2
  have hsa := sm.arr
  clear hm sm
  rw [jsonJ5 f hk] at hl ⊢
  obtain ⟨L, hL⟩ : ∃ L, L = v.arr.map (jsonJ f) := ⟨_, rfl⟩
  rw [← hL] at hl ⊢
  have hLn : L.length = v.arr.length := by rw [hL]; simp
  have CL := hid fun (q : Int) W => ref13_line q W
  have HB := hid (two_boxes w)
  by_cases h0 : v.arr = []
  · have e : L = [] := by rw [hL, h0]; rfl
    rw [e]
    clear CL
    unfold valCs strV style0
    rw [hk, h0]
    clear e hL hLn hA hma hsa hl IH
    rw [show (91 :: (commaL [] ++ [93]) : List UInt8) = [91, 93] from rfl, show ([] : List JV).length = 0 from rfl]
    generalize v.g = g, v.ls.length = ln, v.e = ee, v.s.toArray = sa, v.obj.length = on at *
    clear hk h0 
    go_enter Tryz.func50, Tryz.ntmps50
    go_wp2_with fail
    go_ret
    exact ⟨rfl, HB.out _ _⟩
  · have hpos : 0 < v.arr.length := List.length_pos_iff.2 h0
    obtain ⟨p, off, haa⟩ : ∃ p off, aa = some ⟨p, off, none⟩ := by
      obtain ⟨p, off, _, _, _, _, _, _, e, _⟩ := hA.at hpos
      exact ⟨p, off, e⟩
    subst haa
    have hit : ∀ i (hi0 : i < L.length) W, Below w.heap.size w W → ∃ ki gi ai li ci ei si aai ani aci oai oni oci, (p < W.heap.size ∧ W.cell? ⟨p, off + i * 7, none⟩ = some (.int .i64 ki) ∧ W.cell? ⟨p, off + i * 7 + 1, none⟩ = some (.bool gi) ∧ W.cell? ⟨p, off + i * 7 + 2, none⟩ = some (.slice ai li ci) ∧
        W.cell? ⟨p, off + i * 7 + 3, none⟩ = some (.int .i64 ei) ∧ W.cell? ⟨p, off + i * 7 + 4, none⟩ = some (.string si) ∧ W.cell? ⟨p, off + i * 7 + 5, none⟩ = some (.slice aai ani aci) ∧ W.cell? ⟨p, off + i * 7 + 6, none⟩ = some (.slice oai oni oci)) ∧
        Hid (∀ W2, Below W.heap.size W W2 → Calls Tryz.prog 50 #[.agg #[.int .i64 ki, .bool gi, .slice ai li ci, .int .i64 ei, .string si, .slice aai ani aci, .slice oai oni oci], .agg style0, .int .i64 (op + 1)] W2 fun e w' => e = .returned (.string ⟨(L[i]'hi0).toArray⟩) ∧ Below W2.heap.size W2 w') := by
      intro i hi0 W hb
      have hi : i < v.arr.length := by rw [← hLn]; exact hi0
      obtain ⟨p', off', a1, c1, aa1, ac1, oa1, oc1, haa, P1, C7⟩ := hA.at hi
      injection haa with haa
      injection haa with e1 e2 _
      subst e1 e2
      have rd1 := P1.rd
      have C7' := C7.below hb
      refine ⟨_, _, _, _, _, _, _, _, _, _, _, _, _, ⟨Nat.lt_of_lt_of_le (cell_lt C7.1) hb.size, C7'⟩, hid ?_⟩
      intro W2 hb2
      have hti : L[i]'hi0 = jsonJ f v.arr[i] := by subst hL; simp
      rw [hti]
      refine IH v.arr[i] _ (op + 1) W2 (hma _ (List.getElem_mem hi)) (hsa _ (List.getElem_mem hi)) ((rd1.stay hb).stay hb2) (by omega) (by omega) ?_
      have h1 : (commaL (L.take (i + 1))).length ≤ (commaL L).length := commaL_take_le L (i + 1)
      rw [commaL_take L i (by omega), hti] at h1
      simp only [List.length_append, List.length_cons, List.length_nil] at h1 hl
      omega
    replace hit := hid hit
    clear hA hma hsa IH hL
    unfold valCs strV style0
    unfold style0 at CL hit
    rw [hk]
    generalize v.arr.length = an at *
    generalize v.g = g, v.ls.length = ln, v.e = ee, v.s.toArray = sa, v.obj.length = on at *
    clear h0 hk
    have hanb := han.1
    have hanc := han.2
    obtain ⟨Wb, hWb⟩ : ∃ W, W = (w.alloc (.cells #[.int .i64 5, .bool g, .slice a ln c, .int .i64 ee, .string ⟨sa⟩, .slice (some ⟨p, off, none⟩) an ac, .slice oa on oc] 28)).alloc (.cells #[.int .i64 0, .bool false, .bool false, .bool false] 58) := ⟨_, rfl⟩
    have hbb : Below w.heap.size w Wb := by rw [hWb]; exact HB.out _ _
    have hsz : Wb.heap.size = w.heap.size + 2 := by rw [hWb]; simp
    have b5 : Wb.cell? ⟨w.heap.size, 5, none⟩ = some (.slice (some ⟨p, off, none⟩) an ac) := by rw [hWb]; simp
    have s0 : Wb.cell? ⟨w.heap.size + 1, 0, none⟩ = some (.int .i64 0) := by rw [hWb]; simp
    have s1 : Wb.cell? ⟨w.heap.size + 1, 1, none⟩ = some (.bool false) := by rw [hWb]; simp
    have s2 : Wb.cell? ⟨w.heap.size + 1, 2, none⟩ = some (.bool false) := by rw [hWb]; simp
    have s3 : Wb.cell? ⟨w.heap.size + 1, 3, none⟩ = some (.bool false) := by rw [hWb]; simp
    have hll : (commaL L).length + 2 ≤ 140737488355328 := by
      simp only [List.length_append, List.length_cons, List.length_nil] at hl
      omega
    clear hl
    have cellsW := hid (show _ ∧ _ ∧ _ ∧ _ ∧ _ from ⟨b5, s0, s1, s2, s3⟩)
    replace hWb := hid hWb
    replace hbb := hid hbb
    replace hsz := hid hsz
    clear b5 s0 s1 s2 s3 han
    have hwr : IntKind.i64.wrap (op + 1) = op + 1 := IntWalk.i64_in _ (by omega)
    have hnz : (an : Int) ≠ 0 := by omega
    have hnzb : ((an : Int) == 0) = false := by rw [beq_eq_false_iff_ne]; exact hnz
    go_enter Tryz.func50, Tryz.ntmps50
    go_wp2_with fail
    go_loopw [9, 10] (fun v9 v10 wr => ∃ (i : Nat) (t : ByteArray), v9 = .string t ∧ v10 = .int .i64 (i : Nat) ∧ i ≤ an ∧ Hid (t = ⟨(91 :: commaL (L.take i)).toArray⟩) ∧ Hid (Below Wb.heap.size Wb wr)) (fun _ v10 _ => an - (intOf v10).toNat)
    case atStart => exact ⟨0, _, rfl, rfl, Nat.zero_le _, hid rfl, hid (by rw [hWb.out]; exact Below.refl _ _)⟩
    case round =>
      obtain ⟨i, t, rfl, rfl, hi, HT, HBR⟩ := hrel
      have hk := (bcell HBR.out).1
      obtain ⟨b5, s0, s1, s2, s3⟩ : wr.cell? ⟨w.heap.size, 5, none⟩ = some (.slice (some ⟨p, off, none⟩) an ac) ∧ wr.cell? ⟨w.heap.size + 1, 0, none⟩ = some (.int .i64 0) ∧ wr.cell? ⟨w.heap.size + 1, 1, none⟩ = some (.bool false) ∧ wr.cell? ⟨w.heap.size + 1, 2, none⟩ = some (.bool false) ∧ wr.cell? ⟨w.heap.size + 1, 3, none⟩ = some (.bool false) := by
        have h := hsz.out
        obtain ⟨q1, q2, q3, q4, q5⟩ := cellsW.out
        exact ⟨(hk _ _ (by omega)).trans q1, (hk _ _ (by omega)).trans q2, (hk _ _ (by omega)).trans q3, (hk _ _ (by omega)).trans q4, (hk _ _ (by omega)).trans q5⟩
      clear hk
      have hz1 : w.heap.size < wr.heap.size := by have h := hsz.out; have h2 := HBR.out.size; omega
      have hz2 : w.heap.size + 1 < wr.heap.size := by have h := hsz.out; have h2 := HBR.out.size; omega
      have htz : t.size ≤ 140737488355328 := by
        have h := commaL_take_le L i
        rw [HT.out, bstr_len, List.length_cons]; omega
      by_cases hia : i < an
      · obtain ⟨ki, gi, ai, li, ci, ei, si, aai, ani, aci, oai, oni, oci, ⟨hp, c0, c1, c2, c3, c4, c5, c6⟩, HC⟩ := hit.out i (by omega) wr (hbb.out.trans (HBR.out.mono hbb.out.size))
        have hil : (i : Int) < (an : Int) := by omega
        have hstep := hid (commaL_take L i (by omega))
        obtain ⟨y, hy⟩ : ∃ y, y = L[i]'(by omega) := ⟨_, rfl⟩
        rw [← hy] at HC hstep
        obtain ⟨u, hu⟩ : ∃ u : ByteArray, u = ⟨y.toArray⟩ := ⟨_, rfl⟩
        rw [← hu] at HC
        have huz : u.size ≤ 140737488355328 := by
          have h := commaL_take_le L (i + 1)
          rw [hstep.out] at h
          simp only [List.length_append] at h
          rw [hu, bstr_len]; omega
        replace hu := hid hu
        clear hy
        by_cases hi0 : i = 0
        · subst hi0
          simp only [Nat.zero_mul, Nat.add_zero] at c0 c1 c2 c3 c4 c5 c6
          have ad1 := add_runs t ⟨#[]⟩ (Nat.le_trans htz (by decide)) (by decide)
          have ad2 := add_runs (t ++ ⟨#[]⟩) u (app_le (n := 1) htz (by decide) (by decide)) (Nat.le_trans huz (by decide))
          go_wp2_with fail
          go_region_held3 (fun W' => (∀ b o, b < wr.heap.size → W'.cell? ⟨b, o, none⟩ = wr.cell? ⟨b, o, none⟩) ∧ Below wr.heap.size wr W') (first | with_reducible exact hold_drew _ | with_reducible exact hold_call (by assumption) (by assumption) | with_reducible assumption) (first | (go_at_call 82; (with_reducible refine (CL.out _ _).mono ?_); rintro e3 w3 ⟨rfl, hb3⟩) | (go_at_call 50; (with_reducible refine (HC.out _ ?_).mono ?_); (simp only [*]); rintro e4 w4 ⟨rfl, hb4⟩))
          all_goals
            rename_i hHeld
            have hH := hid (below_trans HBR.out hHeld.2)
            clear hHeld
            go_wp2_with fail
            go_roundw
            case rel => exact ⟨1, _, rfl, by first | rfl | go_num, by omega, hid (str_step _ _ _ _ _ HT.out hu.out (by rw [hstep.out]; simp)), hH⟩
            case measure => simp [intOf]; omega
        · have hi1 : (0 : Int) < (i : Int) := by omega
          have ad1 := add_runs (t ++ ⟨#[44]⟩) ⟨#[]⟩ (app_le (n := 1) htz (by decide) (by decide)) (by decide)
          have ad2 := add_runs (t ++ ⟨#[44]⟩ ++ ⟨#[]⟩) u (app_le (n := 1) (app_le (n := 1) htz (by decide) (Nat.le_refl _)) (by decide) (by decide)) (Nat.le_trans huz (by decide))
          go_wp2_with fail
          go_region_held3 (fun W' => (∀ b o, b < wr.heap.size → W'.cell? ⟨b, o, none⟩ = wr.cell? ⟨b, o, none⟩) ∧ Below wr.heap.size wr W') (first | with_reducible exact hold_drew _ | with_reducible exact hold_call (by assumption) (by assumption) | with_reducible assumption) (first | (go_at_call 82; (with_reducible refine (CL.out _ _).mono ?_); rintro e3 w3 ⟨rfl, hb3⟩) | (go_at_call 50; (with_reducible refine (HC.out _ ?_).mono ?_); (simp only [*]); rintro e4 w4 ⟨rfl, hb4⟩))
          all_goals
            rename_i hHeld
            have hH := hid (below_trans HBR.out hHeld.2)
            clear hHeld
            go_wp2_with fail
            go_roundw
            case rel => exact ⟨i + 1, _, rfl, by go_num, by omega, hid (str_step2 _ _ _ _ _ HT.out hu.out (by rw [hstep.out, if_neg hi0]; simp)), hH⟩
            case measure => simp [intOf]; omega
      · obtain rfl : i = an := by omega
        rw [← hLn] at HT
        have hil : ¬ (i : Int) < (i : Int) := by omega
        go_wp2_with fail
        refine (CL.out _ _).mono ?_
        rintro e w3 ⟨rfl, hb3⟩
        have HB3 := hid (below_trans (hbb.out.trans (HBR.out.mono hbb.out.size)) hb3)
        clear hb3
        go_wp2_with fail
        go_ret
        have hend := str_end t _ _ 93 HT.out (show 91 :: (commaL L ++ [93]) = (91 :: commaL (L.take L.length)) ++ [93] by rw [List.take_length]; rfl)
        rw [← hend]
        exact ⟨rfl, HB3.out⟩

end Go.Proofs.YtldhebpkplglcaaGreatDoor

namespace Go.Proofs.YtldhebpkplglcaaGreatDoor
open Go.RowKit

theorem fld_step (a : ByteArray) (x y q z : List UInt8) (u k : ByteArray) (ha : a = ⟨x.toArray⟩) (hu : u = ⟨y.toArray⟩) (hk : k = ⟨q.toArray⟩) (hz : z = x ++ (q ++ 58 :: y)) : a ++ ⟨#[]⟩ ++ k ++ ⟨#[58]⟩ ++ u = ⟨z.toArray⟩ := by
  subst ha hu hk hz
  apply ByteArray.ext
  simp [ByteArray.data_append]
theorem fld_step2 (a : ByteArray) (x y q z : List UInt8) (u k : ByteArray) (ha : a = ⟨x.toArray⟩) (hu : u = ⟨y.toArray⟩) (hk : k = ⟨q.toArray⟩) (hz : z = x ++ 44 :: (q ++ 58 :: y)) : a ++ ⟨#[44]⟩ ++ ⟨#[]⟩ ++ k ++ ⟨#[58]⟩ ++ u = ⟨z.toArray⟩ := by
  subst ha hu hk hz
  apply ByteArray.ext
  simp [ByteArray.data_append]

set_option maxRecDepth 100000 in
set_option maxHeartbeats 6400000 in
theorem refw_6 (f : Nat) (IH : RefW f) (v : JV) (cs : List Value) (op : Int) (w : World) (hm : mayJ (f + 1) v = true) (hk : v.kind = 6) (sm : SmallV v) (rd : RdV w cs v) (hop : 0 ≤ op) (hop2 : op + (f + 1) ≤ 1048576) (hl : (jsonJ (f + 1) v).length ≤ 140737488355328) :
    Calls Tryz.prog 50 #[.agg cs.toArray, .agg style0, .int .i64 op] w fun e w' => e = .returned (.string ⟨(jsonJ (f + 1) v).toArray⟩) ∧ Below w.heap.size w w' := by
  obtain ⟨a, c, aa, ac, oa, oc, P⟩ := rd.parts
  have hcs := P.cells
  have hA := P.obj
  have han := P.oc
  clear P rd
  subst hcs
  have hma : ∀ x ∈ v.obj, mayJ f x.2 = true := by
    simp only [mayJ, Bool.and_eq_true, List.all_eq_true] at hm
    exact fun x hx => (hm.1.2 x hx).2
  have hsa := sm.flds
  have hkl : ∀ p ∈ v.obj, p.1.length ≤ 1048576 := by cases sm; assumption
  clear hm sm
  rw [jsonJ6 f hk] at hl ⊢
  obtain ⟨L, hL⟩ : ∃ L, L = v.obj.map (fun p => quoteA false p.1 ++ 58 :: jsonJ f p.2) := ⟨_, rfl⟩
  rw [← hL] at hl ⊢
  have hLn : L.length = v.obj.length := by rw [hL]; simp
  have CL := hid fun (q : Int) W => ref13_line q W
  have CST := hid fun W => ref13_step W
  have CSO := hid fun (a : Option Addr) (ln c : Nat) (ee : Int) (sb : ByteArray) (aa : Option Addr) (an ac : Nat) (oa : Option Addr) (on oc : Nat) (g : Bool) (W : World) => ref13_Sorted 6 g a ln c ee sb aa an ac oa on oc W
  have HB := hid (two_boxes w)
  by_cases h0 : v.obj = []
  · have e : L = [] := by rw [hL, h0]; rfl
    rw [e]
    clear CL CST
    unfold valCs strV style0
    unfold style0 at CSO
    rw [hk, h0]
    clear e hL hLn hA hma hsa hkl hl IH
    rw [show (123 :: (commaL [] ++ [125]) : List UInt8) = [123, 125] from rfl, show ([] : List (List UInt8 × JV)).length = 0 from rfl]
    generalize v.g = g, v.ls.length = ln, v.e = ee, v.s.toArray = sa, v.arr.length = an at *
    clear hk h0
    go_enter Tryz.func50, Tryz.ntmps50
    go_wp2_with fail
    refine (CSO.out _ _ _ _ _ _ _ _ _ _ _ _ _).mono ?_
    rintro e w3 ⟨rfl, hb3⟩
    have HB3 := hid (below_trans (HB.out _ _) hb3)
    clear hb3
    go_wp2_with fail
    go_ret
    exact ⟨rfl, HB3.out⟩
  · have hpos : 0 < v.obj.length := List.length_pos_iff.2 h0
    obtain ⟨p, off, haa⟩ : ∃ p off, oa = some ⟨p, off, none⟩ := by
      obtain ⟨p, off, _, _, _, _, _, _, e, _⟩ := hA.at hpos
      exact ⟨p, off, e⟩
    subst haa
    have hit : ∀ i (hi0 : i < L.length) W, Below w.heap.size w W → ∃ kb ki gi ai li ci ei si aai ani aci oai oni oci, ∃ x y, (p < W.heap.size ∧ W.cell? ⟨p, off + i * 8, none⟩ = some (.string kb) ∧ W.cell? ⟨p, off + i * 8 + 1, none⟩ = some (.int .i64 ki) ∧ W.cell? ⟨p, off + i * 8 + 2, none⟩ = some (.bool gi) ∧ W.cell? ⟨p, off + i * 8 + 3, none⟩ = some (.slice ai li ci) ∧
        W.cell? ⟨p, off + i * 8 + 4, none⟩ = some (.int .i64 ei) ∧ W.cell? ⟨p, off + i * 8 + 5, none⟩ = some (.string si) ∧ W.cell? ⟨p, off + i * 8 + 6, none⟩ = some (.slice aai ani aci) ∧ W.cell? ⟨p, off + i * 8 + 7, none⟩ = some (.slice oai oni oci)) ∧
        L[i]'hi0 = x ++ 58 :: y ∧
        Hid (∀ W2, Calls Tryz.prog 81 #[.string kb, .bool false] W2 fun e w' => e = .returned (.string ⟨x.toArray⟩) ∧ Below W2.heap.size W2 w') ∧
        Hid (∀ W2, Below W.heap.size W W2 → Calls Tryz.prog 50 #[.agg #[.int .i64 ki, .bool gi, .slice ai li ci, .int .i64 ei, .string si, .slice aai ani aci, .slice oai oni oci], .agg style0, .int .i64 (op + 1)] W2 fun e w' => e = .returned (.string ⟨y.toArray⟩) ∧ Below W2.heap.size W2 w') := by
      intro i hi0 W hb
      have hi : i < v.obj.length := by rw [← hLn]; exact hi0
      obtain ⟨p', off', a1, c1, aa1, ac1, oa1, oc1, haa, _, P1, C7⟩ := hA.at hi
      injection haa with haa
      injection haa with e1 e2 _
      subst e1 e2
      have rd1 := P1.rd
      have C7' := C7.below hb
      have hti : L[i]'hi0 = quoteA false v.obj[i].1 ++ 58 :: jsonJ f v.obj[i].2 := by subst hL; simp
      have hsp := hsa _ (List.getElem_mem hi)
      refine ⟨_, _, _, _, _, _, _, _, _, _, _, _, _, _, _, _, ⟨Nat.lt_of_lt_of_le (cell_lt C7.1) hb.size, C7'⟩, hti, hid ?_, hid ?_⟩
      · intro W2
        exact ref_Written v.obj[i].1 false W2 (by have := hkl _ (List.getElem_mem hi); omega)
      · intro W2 hb2
        refine IH v.obj[i].2 _ (op + 1) W2 (hma _ (List.getElem_mem hi)) hsp ((rd1.stay hb).stay hb2) (by omega) (by omega) ?_
        have h1 : (commaL (L.take (i + 1))).length ≤ (commaL L).length := commaL_take_le L (i + 1)
        rw [commaL_take L i (by omega), hti] at h1
        simp only [List.length_append, List.length_cons, List.length_nil] at h1 hl
        omega
    replace hit := hid hit
    clear hA hma hsa hkl IH hL
    unfold valCs strV style0
    unfold style0 at CL hit CST CSO
    rw [hk]
    generalize v.obj.length = an at *
    generalize v.g = g, v.ls.length = ln, v.e = ee, v.s.toArray = sa, v.arr.length = on at *
    clear h0 hk
    have hanb := han.1
    have hanc := han.2
    obtain ⟨Wb, hWb⟩ : ∃ W, W = (w.alloc (.cells #[.int .i64 6, .bool g, .slice a ln c, .int .i64 ee, .string ⟨sa⟩, .slice aa on ac, .slice (some ⟨p, off, none⟩) an oc] 28)).alloc (.cells #[.int .i64 0, .bool false, .bool false, .bool false] 58) := ⟨_, rfl⟩
    have hbb : Below w.heap.size w Wb := by rw [hWb]; exact HB.out _ _
    have hsz : Wb.heap.size = w.heap.size + 2 := by rw [hWb]; simp
    have s0 : Wb.cell? ⟨w.heap.size + 1, 0, none⟩ = some (.int .i64 0) := by rw [hWb]; simp
    have s1 : Wb.cell? ⟨w.heap.size + 1, 1, none⟩ = some (.bool false) := by rw [hWb]; simp
    have s2 : Wb.cell? ⟨w.heap.size + 1, 2, none⟩ = some (.bool false) := by rw [hWb]; simp
    have s3 : Wb.cell? ⟨w.heap.size + 1, 3, none⟩ = some (.bool false) := by rw [hWb]; simp
    have hll : (commaL L).length + 2 ≤ 140737488355328 := by
      simp only [List.length_append, List.length_cons, List.length_nil] at hl
      omega
    clear hl
    have cellsW : ∀ W, Below Wb.heap.size Wb W → W.cell? ⟨w.heap.size + 1, 0, none⟩ = some (.int .i64 0) ∧ W.cell? ⟨w.heap.size + 1, 1, none⟩ = some (.bool false) ∧ W.cell? ⟨w.heap.size + 1, 2, none⟩ = some (.bool false) ∧ W.cell? ⟨w.heap.size + 1, 3, none⟩ = some (.bool false) := by
      intro W hB
      have hk := (bcell hB).1
      exact ⟨(hk _ _ (by omega)).trans s0, (hk _ _ (by omega)).trans s1, (hk _ _ (by omega)).trans s2, (hk _ _ (by omega)).trans s3⟩
    replace cellsW := hid cellsW
    replace hWb := hid hWb
    replace hbb := hid hbb
    replace hsz := hid hsz
    clear s0 s1 s2 s3 han
    have hwr : IntKind.i64.wrap (op + 1) = op + 1 := IntWalk.i64_in _ (by omega)
    have hnz : (an : Int) ≠ 0 := by omega
    have hnzb : ((an : Int) == 0) = false := by rw [beq_eq_false_iff_ne]; exact hnz
    go_enter Tryz.func50, Tryz.ntmps50
    go_wp2_with fail
    rw [← hWb.out]
    refine (CSO.out _ _ _ _ _ _ _ _ _ _ _ _ _).mono ?_
    rintro e w3 ⟨rfl, hb3⟩
    obtain ⟨s0, s1, s2, s3⟩ := cellsW.out w3 hb3
    have HB3 := hid hb3
    clear hb3
    go_wp2_with fail
    refine (CST.out _).mono ?_
    rintro e w4 ⟨rfl, hb4⟩
    have HB4 := hid (below_trans HB3.out hb4)
    clear hb4 HB3 s0 s1 s2 s3
    go_wp2_with fail
    go_loopw [13, 14] (fun v13 v14 wr => ∃ (i : Nat) (t : ByteArray), v13 = .string t ∧ v14 = .int .i64 (i : Nat) ∧ i ≤ an ∧ Hid (t = ⟨(123 :: commaL (L.take i)).toArray⟩) ∧ Hid (Below Wb.heap.size Wb wr)) (fun _ v14 _ => an - (intOf v14).toNat)
    case atStart => exact ⟨0, _, rfl, rfl, Nat.zero_le _, hid rfl, HB4⟩
    case round =>
      obtain ⟨i, t, rfl, rfl, hi, HT, HBR⟩ := hrel
      obtain ⟨s0, s1, s2, s3⟩ := cellsW.out wr HBR.out
      have hz2 : w.heap.size + 1 < wr.heap.size := by have h := hsz.out; have h2 := HBR.out.size; omega
      have htz : t.size ≤ 140737488355328 := by
        have h := commaL_take_le L i
        rw [HT.out, bstr_len, List.length_cons]; omega
      by_cases hia : i < an
      · obtain ⟨kb, ki, gi, ai, li, ci, ei, si, aai, ani, aci, oai, oni, oci, x, y, ⟨hp, ck, c0, c1, c2, c3, c4, c5, c6⟩, hxy, HQ, HC⟩ := hit.out i (by omega) wr (hbb.out.trans (HBR.out.mono hbb.out.size))
        have hil : (i : Int) < (an : Int) := by omega
        have hstep := hid (commaL_take L i (by omega))
        rw [hxy] at hstep
        obtain ⟨u, hu⟩ : ∃ u : ByteArray, u = ⟨y.toArray⟩ := ⟨_, rfl⟩
        rw [← hu] at HC
        obtain ⟨q, hq⟩ : ∃ q : ByteArray, q = ⟨x.toArray⟩ := ⟨_, rfl⟩
        rw [← hq] at HQ
        have hxyz : x.length ≤ 140737488355328 ∧ y.length ≤ 140737488355328 := by
          have h := commaL_take_le L (i + 1)
          rw [hstep.out] at h
          simp only [List.length_append, List.length_cons] at h
          omega
        have huz : u.size ≤ 140737488355328 := by rw [hu, bstr_len]; exact hxyz.2
        have hqz : q.size ≤ 140737488355328 := by rw [hq, bstr_len]; exact hxyz.1
        clear hxyz hxy
        replace hu := hid hu
        replace hq := hid hq
        by_cases hi0 : i = 0
        · subst hi0
          simp only [Nat.zero_mul, Nat.add_zero] at ck c0 c1 c2 c3 c4 c5 c6
          have ad1 := add_runs t ⟨#[]⟩ (Nat.le_trans htz (by decide)) (by decide)
          have ad2 := add_runs (t ++ ⟨#[]⟩) q (Nat.le_trans (app_le (n := 1) htz (by decide) (Nat.le_refl _)) (by decide)) (Nat.le_trans hqz (by decide))
          have ad3 := add_runs (t ++ ⟨#[]⟩ ++ q) ⟨#[58]⟩ (Nat.le_trans (app_le (app_le (n := 1) htz (by decide) (Nat.le_refl _)) hqz (Nat.le_refl _)) (by decide)) (by decide)
          have ad4 := add_runs (t ++ ⟨#[]⟩ ++ q ++ ⟨#[58]⟩) u (Nat.le_trans (app_le (n := 1) (app_le (app_le (n := 1) htz (by decide) (Nat.le_refl _)) hqz (Nat.le_refl _)) (by decide) (Nat.le_refl _)) (by decide)) (Nat.le_trans huz (by decide))
          go_wp2_with fail
          go_region_held3 (fun W' => (∀ b o, b < wr.heap.size → W'.cell? ⟨b, o, none⟩ = wr.cell? ⟨b, o, none⟩) ∧ Below wr.heap.size wr W') (first | with_reducible exact hold_drew _ | with_reducible exact hold_call (by assumption) (by assumption) | with_reducible assumption) (first | (go_at_call 82; (with_reducible refine (CL.out _ _).mono ?_); rintro e3 w3 ⟨rfl, hb3⟩) | (go_at_call 81; (with_reducible refine (HQ.out _).mono ?_); rintro e5 w5 ⟨rfl, hb5⟩) | (go_at_call 50; (with_reducible refine (HC.out _ ?_).mono ?_); (simp only [*]); rintro e4 w4 ⟨rfl, hb4⟩))
          all_goals
            rename_i hHeld
            have hH := hid (below_trans HBR.out hHeld.2)
            clear hHeld
            go_wp2_with fail
            go_roundw
            case rel => exact ⟨1, _, rfl, by first | rfl | go_num, by omega, hid (fld_step _ _ _ _ _ _ _ HT.out hu.out hq.out (by rw [hstep.out]; simp)), hH⟩
            case measure => simp [intOf]; omega
        · have hi1 : (0 : Int) < (i : Int) := by omega
          have ad1 := add_runs (t ++ ⟨#[44]⟩) ⟨#[]⟩ (Nat.le_trans (app_le (n := 1) htz (by decide) (Nat.le_refl _)) (by decide)) (by decide)
          have ad2 := add_runs (t ++ ⟨#[44]⟩ ++ ⟨#[]⟩) q (Nat.le_trans (app_le (n := 1) (app_le (n := 1) htz (by decide) (Nat.le_refl _)) (by decide) (Nat.le_refl _)) (by decide)) (Nat.le_trans hqz (by decide))
          have ad3 := add_runs (t ++ ⟨#[44]⟩ ++ ⟨#[]⟩ ++ q) ⟨#[58]⟩ (Nat.le_trans (app_le (app_le (n := 1) (app_le (n := 1) htz (by decide) (Nat.le_refl _)) (by decide) (Nat.le_refl _)) hqz (Nat.le_refl _)) (by decide)) (by decide)
          have ad4 := add_runs (t ++ ⟨#[44]⟩ ++ ⟨#[]⟩ ++ q ++ ⟨#[58]⟩) u (Nat.le_trans (app_le (n := 1) (app_le (app_le (n := 1) (app_le (n := 1) htz (by decide) (Nat.le_refl _)) (by decide) (Nat.le_refl _)) hqz (Nat.le_refl _)) (by decide) (Nat.le_refl _)) (by decide)) (Nat.le_trans huz (by decide))
          go_wp2_with fail
          go_region_held3 (fun W' => (∀ b o, b < wr.heap.size → W'.cell? ⟨b, o, none⟩ = wr.cell? ⟨b, o, none⟩) ∧ Below wr.heap.size wr W') (first | with_reducible exact hold_drew _ | with_reducible exact hold_call (by assumption) (by assumption) | with_reducible assumption) (first | (go_at_call 82; (with_reducible refine (CL.out _ _).mono ?_); rintro e3 w3 ⟨rfl, hb3⟩) | (go_at_call 81; (with_reducible refine (HQ.out _).mono ?_); rintro e5 w5 ⟨rfl, hb5⟩) | (go_at_call 50; (with_reducible refine (HC.out _ ?_).mono ?_); (simp only [*]); rintro e4 w4 ⟨rfl, hb4⟩))
          all_goals
            rename_i hHeld
            have hH := hid (below_trans HBR.out hHeld.2)
            clear hHeld
            go_wp2_with fail
            go_roundw
            case rel => exact ⟨i + 1, _, rfl, by first | rfl | go_num, by omega, hid (fld_step2 _ _ _ _ _ _ _ HT.out hu.out hq.out (by rw [hstep.out, if_neg hi0]; simp)), hH⟩
            case measure => simp [intOf]; omega
      · obtain rfl : i = an := by omega
        rw [← hLn] at HT
        have hil : ¬ (i : Int) < (i : Int) := by omega
        go_wp2_with fail
        refine (CL.out _ _).mono ?_
        rintro e w3 ⟨rfl, hb3⟩
        have HB3 := hid (below_trans (hbb.out.trans (HBR.out.mono hbb.out.size)) hb3)
        clear hb3
        go_wp2_with fail
        go_ret
        have hend := str_end t _ _ 125 HT.out (show 123 :: (commaL L ++ [125]) = (123 :: commaL (L.take L.length)) ++ [125] by rw [List.take_length]; rfl)
        rw [← hend]
        exact ⟨rfl, HB3.out⟩

/-- The document's writer, at the empty style. -/
theorem ref13_Write : ∀ f, RefW f
  | 0 => fun v cs op w hm sm rd _ _ _ => refw_leaf 0 v cs op w hm (by simp only [mayJ, Bool.and_eq_true, decide_eq_true_eq] at hm; exact hm.2) sm rd
  | f + 1 => fun v cs op w hm sm rd hop hop2 hl => by
    have hk := may_kind hm
    by_cases h5 : v.kind < 5
    · exact refw_leaf (f + 1) v cs op w hm h5 sm rd
    · obtain hk | hk : v.kind = 5 ∨ v.kind = 6 := by omega
      · exact refw_5 f (ref13_Write f) v cs op w hm hk sm rd hop (by omega) hl
      · exact refw_6 f (ref13_Write f) v cs op w hm hk sm rd hop (by omega) hl

end Go.Proofs.YtldhebpkplglcaaGreatDoor

namespace Go.Proofs.YtldhebpkplglcaaGreatDoor
open Go.RowKit

set_option maxRecDepth 100000 in
set_option maxHeartbeats 1600000 in
theorem ref20_Json (v : JV) (cs : List Value) (w : World) (G : GV w cs v) :
    Calls Tryz.prog 26 #[.agg cs.toArray] w fun e w' => e = .returned (.string ⟨(jsonJ 200 v).toArray⟩) ∧ Below w.heap.size w w' := by
  obtain ⟨a, c, aa, ac, oa, oc, P⟩ := G.rd.parts
  have hcs := P.cells
  clear P
  subst hcs
  have hl := G.len
  have CM := fun (W : World) (hb : Below w.heap.size w W) => ref13_Write 200 v _ 0 W G.may G.small (G.rd.stay hb) (by decide) (by decide) (by omega)
  clear G hl
  unfold valCs strV style0 at *
  generalize jsonJ 200 v = T at *
  have hB := fun o => (Below.refl w.heap.size w).alloc (Nat.le_refl _) o
  generalize v.kind = kind, v.g = g, v.ls.length = ln, v.e = ee, v.s.toArray = sa, v.arr.length = an, v.obj.length = on at *
  replace CM := hid CM
  have HB := hid hB
  go_enter Tryz.func26, Tryz.ntmps26
  go_wp2_with fail
  refine (CM.out _ (HB.out _)).mono ?_
  rintro e w1 ⟨rfl, hb1⟩
  have HB1 := hid (below_trans (HB.out _) hb1)
  clear hb1 CM
  go_wp2_with fail
  go_ret
  exact ⟨rfl, HB1.out⟩

set_option maxRecDepth 100000 in
set_option maxHeartbeats 1600000 in
theorem ref20_Plain (v : JV) (cs : List Value) (w : World) (G : GV w cs v) :
    Calls Tryz.prog 25 #[.agg cs.toArray] w fun e w' => e = .returned (.string ⟨(plainJ v).toArray⟩) ∧ Below w.heap.size w w' := by
  obtain ⟨a, c, aa, ac, oa, oc, P⟩ := G.rd.parts
  have hcs := P.cells
  clear P
  subst hcs
  have CM := fun (W : World) (hb : Below w.heap.size w W) => ref20_Json v _ W (G.below hb)
  clear G
  have hB := fun o => (Below.refl w.heap.size w).alloc (Nat.le_refl _) o
  have HB := hid hB
  by_cases hk : v.kind = 4
  · have e : plainJ v = v.s := by unfold plainJ; rw [if_pos hk]
    rw [e]
    clear e CM
    unfold valCs strV
    rw [hk]
    generalize v.g = g, v.ls.length = ln, v.e = ee, v.s.toArray = sa, v.arr.length = an, v.obj.length = on at *
    clear hk
    go_enter Tryz.func25, Tryz.ntmps25
    go_wp2_with fail
    go_ret
    exact ⟨rfl, HB.out _⟩
  · have e : plainJ v = jsonJ 200 v := by unfold plainJ; rw [if_neg hk]
    rw [e]
    clear e
    unfold valCs strV at CM ⊢
    have hk2 : (v.kind == 4) = false := by rw [beq_eq_false_iff_ne]; exact hk
    generalize jsonJ 200 v = T at *
    generalize v.kind = kind, v.g = g, v.ls.length = ln, v.e = ee, v.s.toArray = sa, v.arr.length = an, v.obj.length = on at *
    replace CM := hid CM
    clear hk
    go_enter Tryz.func25, Tryz.ntmps25
    go_wp2_with fail
    refine (CM.out _ (HB.out _)).mono ?_
    rintro e w1 ⟨rfl, hb1⟩
    have HB1 := hid (below_trans (HB.out _) hb1)
    clear hb1 CM
    go_wp2_with fail
    go_ret
    exact ⟨rfl, HB1.out⟩

end Go.Proofs.YtldhebpkplglcaaGreatDoor

namespace Go.Proofs.YtldhebpkplglcaaGreatDoor
open Go.RowKit

theorem ljoin_snoc (sep p : List UInt8) : ∀ l : List (List UInt8), Lib.join (l ++ [p]) sep = if l = [] then p else Lib.join l sep ++ sep ++ p
  | [] => by simp [Lib.join]
  | [x] => by simp [Lib.join]
  | x :: y :: l => by
    have h := ljoin_snoc sep p (y :: l)
    rw [if_neg (by simp)] at h ⊢
    have e : Lib.join (x :: y :: l) sep = x ++ sep ++ Lib.join (y :: l) sep := by simp [Lib.join]
    have e2 : Lib.join (x :: y :: (l ++ [p])) sep = x ++ sep ++ Lib.join (y :: (l ++ [p])) sep := by simp [Lib.join]
    rw [List.cons_append, List.cons_append, e2, ← List.cons_append, h, e]
    simp
theorem ljoin_take (arr : List JV) (g : JV → List UInt8) (sep : List UInt8) (k : Nat) (hk : k < arr.length) :
    Lib.join ((arr.take (k + 1)).map g) sep = if k = 0 then g arr[k] else Lib.join ((arr.take k).map g) sep ++ sep ++ g arr[k] := by
  rw [List.take_succ_eq_append_getElem hk, List.map_append, List.map_cons, List.map_nil, ljoin_snoc]
  by_cases h : k = 0
  · subst h; simp
  · rw [if_neg h, if_neg (fun e => by have := congrArg List.length e; rw [List.length_map, List.length_take, List.length_nil] at this; omega)]
theorem swap1_subst (c : UInt8) (new : List UInt8) : substL [(c, new)] = swap1 c new := by
  funext b
  unfold substL swap1
  by_cases h : b = c
  · subst h; simp
  · rw [if_neg h, List.find?_cons_of_neg (by simpa using fun e => h e.symm), List.find?_nil]
theorem swap_lit (ps : List Pair) {W : World} {N : Nat} {T : TypeId} {fr : Nat × Nat} (h : W.heap[N]? = some (.cells (ps.map fun p => (.string ⟨p.2.toArray⟩ : Value)).toArray T fr)) (k : Nat) (p : Pair) (hp : ps[k]? = some p) : W.cell? ⟨N, k, none⟩ = some (.string ⟨p.2.toArray⟩) := by
  rw [Lib.cell_of_heap h]
  simp [hp]
/-- What is added to a row. -/
theorem add_first (t u : ByteArray) (x z : List UInt8) (ht : t = ⟨(([] : List UInt8)).toArray⟩) (hu : u = ⟨x.toArray⟩) (hz : z = x) : t ++ u = ⟨z.toArray⟩ := by
  subst ht hu hz
  apply ByteArray.ext
  simp [ByteArray.data_append]
theorem add_next (t s u : ByteArray) (x y z r : List UInt8) (ht : t = ⟨x.toArray⟩) (hs : s = ⟨y.toArray⟩) (hu : u = ⟨z.toArray⟩) (hr : r = x ++ y ++ z) : t ++ s ++ u = ⟨r.toArray⟩ := by
  subst ht hs hu hr
  apply ByteArray.ext
  simp [ByteArray.data_append]
theorem wrap_q (c : UInt8) (u : ByteArray) (z r : List UInt8) (hu : u = ⟨z.toArray⟩) (hr : r = [c] ++ z ++ [c]) : ⟨#[c]⟩ ++ u ++ ⟨#[c]⟩ = (⟨r.toArray⟩ : ByteArray) := by
  subst hu hr
  apply ByteArray.ext
  simp [ByteArray.data_append]

theorem swapq0 (s : List UInt8) : (swapL (substL [(34, [34, 34])]) s).length ≤ 12 * s.length + 2 := by
  have := quoL_len 34 [34, 34] s (by decide)
  unfold quoL at this
  rw [swap1_subst]
  simp only [List.length_append] at this
  omega
theorem swapq2 (s : List UInt8) : (swapL (substL [(39, [39, 92, 39, 39])]) s).length ≤ 12 * s.length + 2 := by
  have := quoL_len 39 [39, 92, 39, 39] s (by decide)
  unfold quoL at this
  rw [swap1_subst]
  simp only [List.length_append] at this
  omega
theorem swapq1 (s : List UInt8) : (swapL (substL tsvP) s).length ≤ 12 * s.length + 2 := tsv_len s

set_option maxRecDepth 100000 in
set_option maxHeartbeats 12800000 in
theorem ref20_Row0 (arr : List JV) (aa : Option Addr) (ac : Nat) (sep : List UInt8) (w : World) (hR : RdA w aa arr) (hM : Mx w) (hT0 : Tabs w) (hn : arr.length ≤ 1048576) (hk : ∀ x ∈ arr, mayJ 200 x = true ∧ SmallV x ∧ x.s.length ≤ 1048576) (hsl : sep.length ≤ 10) :
    Calls Tryz.prog 32 #[.slice aa arr.length ac, .string ⟨sep.toArray⟩, .int .i64 0] w fun e w' => e = .returned (.tuple #[.string ⟨(rowR [] (quoL 34 [34, 34]) sep arr).1.toArray⟩, .int .i64 (rowR [] (quoL 34 [34, 34]) sep arr).2]) ∧ Below w.heap.size w w' := by
  unfold rowR
  dsimp only
  have hlen := fun k (hd : deepB (arr.take k) = false) => row_len (null := []) (sep := sep) (q := (quoL 34 [34, 34])) (arr := arr.take k) (by rw [List.length_take]; omega) (fun x hx => hk x (List.mem_of_mem_take hx)) (by exact fun s => quoL_len _ _ s (by decide)) (by decide) hsl hd
  obtain ⟨T, hT⟩ : ∃ T, T = Lib.join (arr.map (itemG [] (quoL 34 [34, 34]))) sep := ⟨_, rfl⟩
  rw [← hT]
  obtain ⟨T2, hT2⟩ : ∃ T2, T2 = (if deepB arr = true then [] else T) := ⟨_, rfl⟩
  obtain ⟨E2, hE2⟩ : ∃ E2 : Int, E2 = (if deepB arr = true then 9 else 0) := ⟨_, rfl⟩
  rw [← hT2, ← hE2]
  have hyes := hid (show deepB arr = true → T2 = [] ∧ E2 = 9 from fun h => by rw [hT2, hE2, if_pos h, if_pos h]; exact ⟨rfl, rfl⟩)
  have hno := hid (show deepB arr = false → T2 = T ∧ E2 = 0 from fun h => by rw [hT2, hE2, if_neg (by rw [h]; decide), if_neg (by rw [h]; decide)]; exact ⟨rfl, rfl⟩)
  clear hT2 hE2
  obtain ⟨sb, hsb⟩ : ∃ sb : ByteArray, sb = ⟨sep.toArray⟩ := ⟨_, rfl⟩
  rw [← hsb]
  have hsbz : sb.size ≤ 10 := by rw [hsb, bstr_len]; exact hsl
  have CS := hid fun (s : List UInt8) (N cap : Nat) (W : World) (h : W.heap[N]? = some (.cells #[.string ⟨#[34, 34]⟩] 9 (0, 0))) (hs : s.length ≤ 1048576) => ref20_Swap [(34, [34, 34])] s N cap W (by decide) (swap_lit [(34, [34, 34])] h) (by decide) (by have := swapq0 s; omega) (by omega)
  replace hT := hid hT
  replace hsb := hid hsb
  replace hlen := hid hlen
  replace hk := hid hk
  replace hR := hid hR
  replace hM := hid hM
  replace hT0 := hid hT0
  clear hsl
  go_enter Tryz.func32, Tryz.ntmps32
  go_wp2_with fail
  go_loopw [8, 9] (fun v i wr => ∃ (k : Nat) (t : ByteArray), v = .string t ∧ i = .int .i64 (k : Nat) ∧ k ≤ arr.length ∧ Hid (t = ⟨(Lib.join ((arr.take k).map (itemG [] (quoL 34 [34, 34]))) sep).toArray⟩) ∧ Hid (Below w.heap.size w wr) ∧ Hid (deepB (arr.take k) = false)) (fun _ i _ => arr.length - (intOf i).toNat)
  case atStart => exact ⟨0, _, rfl, rfl, Nat.zero_le _, hid rfl, hid (Below.refl _ _), hid rfl⟩
  case round =>
    obtain ⟨k, t, rfl, rfl, hkl, HT, HB, hdp⟩ := hrel
    have htz : t.size ≤ 140737488355328 := by rw [HT.out, bstr_len]; exact hlen.out k hdp.out
    have hszw := HB.out.size
    by_cases hke : k = arr.length
    · have hd := hdp.out
      rw [hke, List.take_length] at hd
      obtain ⟨f1, f2⟩ := hno.out hd
      have HTE := hid (show t = ⟨T2.toArray⟩ by rw [HT.out, f1, hT.out, hke, List.take_length])
      replace f2 := hid f2
      subst hke
      clear hd f1
      go_wp2_with fail
      go_ret2
      exact ⟨by rw [HTE.out, f2.out]; rfl, HB.out⟩
    · have hkl2 : k < arr.length := by omega
      obtain ⟨b, off, a, c, aa', ac', oa, oc, rfl, P, h7⟩ := (hR.out.below HB.out).at hkl2
      obtain ⟨m1, m2, m3⟩ := hk.out arr[k] (List.getElem_mem hkl2)
      have hk06 := may_kind m1
      have hdt := deep_take hkl2
      rw [hdp.out, Bool.false_or] at hdt
      have hdall : 4 < arr[k].kind → deepB arr = true := fun h => List.any_eq_true.2 ⟨arr[k], List.getElem_mem hkl2, by simpa using h⟩
      have hstep := hid (ljoin_take arr (itemG [] (quoL 34 [34, 34])) sep k hkl2)
      have CJ := fun (W : World) (hb : Below wr.heap.size wr W) (hbw : Below w.heap.size w W) (h5 : arr[k].kind < 5) => ref20_Json arr[k] _ W ⟨m1, m2, P.rd.stay hb, hT0.out.below hbw, hM.out.below hbw, by have := leaf_len m1 h5 m3; omega, m3⟩
      have hjl : arr[k].kind < 5 → (jsonJ 200 arr[k]).length ≤ 12582914 := fun h5 => leaf_len m1 h5 m3
      clear P m1 m2
      have hI0 : arr[k].kind = 0 → itemG [] (quoL 34 [34, 34]) arr[k] = [] := fun h => by unfold itemG; rw [if_pos h]
      have hI4 : arr[k].kind = 4 → itemG [] (quoL 34 [34, 34]) arr[k] = (quoL 34 [34, 34]) arr[k].s := fun h => by unfold itemG; rw [if_neg (by rw [h]; decide), if_pos h]
      have hIn : arr[k].kind ≠ 0 → arr[k].kind ≠ 4 → itemG [] (quoL 34 [34, 34]) arr[k] = jsonJ 200 arr[k] := fun h h' => by unfold itemG; rw [if_neg h, if_neg h']
      unfold valCs strV at CJ
      generalize jsonJ 200 arr[k] = J at *
      generalize itemG [] (quoL 34 [34, 34]) arr[k] = it at *
      generalize arr[k].kind = kind at *
      generalize arr[k].g = gg at *
      generalize arr[k].ls.length = nn at *
      generalize arr[k].e = ee at *
      generalize arr[k].s = ss at *
      generalize arr[k].arr.length = an at *
      generalize arr[k].obj.length = on at *
      obtain ⟨h0, h1, h2, h3, h4, h5, h6⟩ := h7
      unfold strV at h4
      obtain ⟨w2, hw2⟩ : ∃ w2, w2 = wr.alloc (.cells #[.int .i64 kind, .bool gg, .slice a nn c, .int .i64 ee, .string ⟨ss.toArray⟩, .slice aa' an ac', .slice oa on oc] 28) := ⟨_, rfl⟩
      have hb2 : Below wr.heap.size wr w2 := by rw [hw2]; exact (Below.refl _ wr).alloc (Nat.le_refl _) _
      have HB2 := hid (below_trans HB.out hb2)
      have hse : w2.heap.size = wr.heap.size + 1 := by rw [hw2]; simp
      have CS1 := hid fun (N cap : Nat) (W : World) h => CS.out ss N cap W h m3
      have C := CJ w2 hb2 HB2.out
      have g0 : w2.cell? ⟨wr.heap.size, 0, none⟩ = some (.int .i64 kind) := by rw [hw2]; simp
      have g4 : w2.cell? ⟨wr.heap.size, 4, none⟩ = some (.string ⟨ss.toArray⟩) := by rw [hw2]; simp
      have hjz : kind < 5 → (⟨J.toArray⟩ : ByteArray).size ≤ 12582914 := fun h => by rw [bstr_len]; exact hjl h
      obtain ⟨S, hS⟩ : ∃ S, S = swapL (substL [(34, [34, 34])]) ss := ⟨_, rfl⟩
      have hSz : S.length ≤ 13000000 := by rw [hS]; have := swapq0 ss; omega
      rw [← hS] at CS1
      have hI4' : kind = 4 → it = [34] ++ S ++ [34] := fun h => by rw [hI4 h, hS, swap1_subst]; rfl
      clear hS hI4 CJ hjl m3
      obtain ⟨Sb, hSb⟩ : ∃ u : ByteArray, u = ⟨S.toArray⟩ := ⟨_, rfl⟩
      have hSbz : Sb.size ≤ 13000000 := by rw [hSb, bstr_len]; exact hSz
      rw [← hSb] at CS1
      obtain ⟨Jb, hJb⟩ : ∃ u : ByteArray, u = ⟨J.toArray⟩ := ⟨_, rfl⟩
      rw [← hJb] at C hjz
      generalize (⟨ss.toArray⟩ : ByteArray) = ub at *
      replace hSb := hid hSb
      replace hJb := hid hJb
      clear hSz
      by_cases hk00 : k = 0
      · subst hk00
        simp only [Nat.zero_mul, Nat.add_zero] at h0 h1 h2 h3 h4 h5 h6
        by_cases hk5 : 4 < kind
        · obtain ⟨f1, f2⟩ := hyes.out (hdall hk5)
          replace f1 := hid f1
          replace f2 := hid f2
          rw [hw2] at HB2
          clear C hdt hdall hI0 hI4' hIn hjz CS1 hw2 hse g0 g4 hb2
          go_wp2_with fail
          go_ret2
          exact ⟨by rw [f1.out, f2.out]; rfl, HB2.out⟩
        · have HD := hid (show deepB (arr.take (0 + 1)) = false by rw [hdt]; simpa using hk5)
          replace C := hid (C (by omega))
          have hjz1 := hjz (by omega)
          clear hdt hdall hjz
          by_cases hk0 : kind = 0
          · subst hk0
            have HIT := hid (show it = [] from hI0 rfl)
            clear hI0 hI4' hIn CS1 hSbz
            have hwe := hid hw2
            rw [hw2] at C
            clear hw2
            go_wp2_with fail
            refine C.out.mono ?_
            rw [← hwe.out]
            rintro e w3 ⟨rfl, hb3⟩
            have HB3 := hid (below_trans HB2.out hb3)
            have b0 : w3.cell? ⟨wr.heap.size, 0, none⟩ = some (.int .i64 0) := ((bcell hb3).1 _ _ (by omega)).trans g0
            have b4 : w3.cell? ⟨wr.heap.size, 4, none⟩ = some (.string ub) := ((bcell hb3).1 _ _ (by omega)).trans g4
            clear hb3 g0 g4 hb2 HB2 C
            go_wp2_with fail
            go_roundw
            case rel => exact ⟨1, _, rfl, by first | rfl | go_num, by omega, hid (add_first _ _ _ _ HT.out (show (⟨#[]⟩ : ByteArray) = ⟨([] : List UInt8).toArray⟩ from rfl) (hstep.out.trans ((if_pos (by trivial)).trans HIT.out))), HB3, HD⟩
            case measure => simp [intOf]; omega
          · by_cases hk4 : kind = 4
            · subst hk4
              have HIT := hid (hI4' rfl)
              clear hI0 hI4' hIn hk0
              have hwe := hid hw2
              rw [hw2] at C
              clear hw2
              go_wp2_with fail
              refine C.out.mono ?_
              rw [← hwe.out]
              rintro e w3 ⟨rfl, hb3⟩
              have HB3 := hid (below_trans HB2.out hb3)
              have b0 : w3.cell? ⟨wr.heap.size, 0, none⟩ = some (.int .i64 4) := ((bcell hb3).1 _ _ (by omega)).trans g0
              have b4 : w3.cell? ⟨wr.heap.size, 4, none⟩ = some (.string ub) := ((bcell hb3).1 _ _ (by omega)).trans g4
              clear hb3 g0 g4 hb2 HB2 C
              go_wp2_with fail
              refine (CS1.out _ _ _ (heap_alloc_new _ _)).mono ?_
              rintro e w4 ⟨rfl, hb4⟩
              have HB4 := hid (below_trans (HB3.out.alloc HB3.out.size _) hb4)
              clear hb4 b0 b4 CS1
              go_wp2_with fail
              go_roundw
              case rel => exact ⟨1, _, rfl, by first | rfl | go_num, by omega, hid (add_first _ _ _ _ HT.out (wrap_q 34 _ _ _ hSb.out rfl) (hstep.out.trans ((if_pos (by trivial)).trans HIT.out))), HB4, HD⟩
              case measure => simp [intOf]; omega
            · have HIT := hid (hIn hk0 hk4)
              have e0 : (kind == 0) = false := by rw [beq_eq_false_iff_ne]; exact hk0
              have e4 : (kind == 4) = false := by rw [beq_eq_false_iff_ne]; exact hk4
              clear hI0 hI4' hIn CS1 hk0 hk4 hSbz
              have hwe := hid hw2
              rw [hw2] at C
              clear hw2
              go_wp2_with fail
              refine C.out.mono ?_
              rw [← hwe.out]
              rintro e w3 ⟨rfl, hb3⟩
              have HB3 := hid (below_trans HB2.out hb3)
              have b0 : w3.cell? ⟨wr.heap.size, 0, none⟩ = some (.int .i64 kind) := ((bcell hb3).1 _ _ (by omega)).trans g0
              have b4 : w3.cell? ⟨wr.heap.size, 4, none⟩ = some (.string ub) := ((bcell hb3).1 _ _ (by omega)).trans g4
              clear hb3 g0 g4 hb2 HB2 C
              go_wp2_with fail
              go_roundw
              case rel => exact ⟨1, _, rfl, by first | rfl | go_num, by omega, hid (add_first _ _ _ _ HT.out hJb.out (hstep.out.trans ((if_pos (by trivial)).trans HIT.out))), HB3, HD⟩
              case measure => simp [intOf]; omega
      · have hkp : (0 : Int) < (k : Int) := by omega
        by_cases hk5 : 4 < kind
        · obtain ⟨f1, f2⟩ := hyes.out (hdall hk5)
          replace f1 := hid f1
          replace f2 := hid f2
          rw [hw2] at HB2
          clear C hdt hdall hI0 hI4' hIn hjz CS1 hw2 hse g0 g4 hb2
          go_wp2_with fail
          go_ret2
          exact ⟨by rw [f1.out, f2.out]; rfl, HB2.out⟩
        · have HD := hid (show deepB (arr.take (k + 1)) = false by rw [hdt]; simpa using hk5)
          replace C := hid (C (by omega))
          have hjz1 := hjz (by omega)
          clear hdt hdall hjz
          by_cases hk0 : kind = 0
          · subst hk0
            have HIT := hid (show it = [] from hI0 rfl)
            clear hI0 hI4' hIn CS1 hSbz
            have hwe := hid hw2
            rw [hw2] at C
            clear hw2
            go_wp2_with fail
            refine C.out.mono ?_
            rw [← hwe.out]
            rintro e w3 ⟨rfl, hb3⟩
            have HB3 := hid (below_trans HB2.out hb3)
            have b0 : w3.cell? ⟨wr.heap.size, 0, none⟩ = some (.int .i64 0) := ((bcell hb3).1 _ _ (by omega)).trans g0
            have b4 : w3.cell? ⟨wr.heap.size, 4, none⟩ = some (.string ub) := ((bcell hb3).1 _ _ (by omega)).trans g4
            clear hb3 g0 g4 hb2 HB2 C
            go_wp2_with fail
            go_roundw
            case rel => exact ⟨k + 1, _, rfl, by first | rfl | go_num, by omega, hid (add_next _ _ _ _ _ _ _ HT.out hsb.out (show (⟨#[]⟩ : ByteArray) = ⟨([] : List UInt8).toArray⟩ from rfl) (by rw [hstep.out, if_neg hk00, HIT.out])), HB3, HD⟩
            case measure => simp [intOf]; omega
          · by_cases hk4 : kind = 4
            · subst hk4
              have HIT := hid (hI4' rfl)
              clear hI0 hI4' hIn hk0
              have hwe := hid hw2
              rw [hw2] at C
              clear hw2
              go_wp2_with fail
              refine C.out.mono ?_
              rw [← hwe.out]
              rintro e w3 ⟨rfl, hb3⟩
              have HB3 := hid (below_trans HB2.out hb3)
              have b0 : w3.cell? ⟨wr.heap.size, 0, none⟩ = some (.int .i64 4) := ((bcell hb3).1 _ _ (by omega)).trans g0
              have b4 : w3.cell? ⟨wr.heap.size, 4, none⟩ = some (.string ub) := ((bcell hb3).1 _ _ (by omega)).trans g4
              clear hb3 g0 g4 hb2 HB2 C
              go_wp2_with fail
              refine (CS1.out _ _ _ (heap_alloc_new _ _)).mono ?_
              rintro e w4 ⟨rfl, hb4⟩
              have HB4 := hid (below_trans (HB3.out.alloc HB3.out.size _) hb4)
              clear hb4 b0 b4 CS1
              go_wp2_with fail
              go_roundw
              case rel => exact ⟨k + 1, _, rfl, by first | rfl | go_num, by omega, hid (add_next _ _ _ _ _ _ _ HT.out hsb.out (wrap_q 34 _ _ _ hSb.out rfl) (by rw [hstep.out, if_neg hk00, HIT.out])), HB4, HD⟩
              case measure => simp [intOf]; omega
            · have HIT := hid (hIn hk0 hk4)
              have e0 : (kind == 0) = false := by rw [beq_eq_false_iff_ne]; exact hk0
              have e4 : (kind == 4) = false := by rw [beq_eq_false_iff_ne]; exact hk4
              clear hI0 hI4' hIn CS1 hk0 hk4 hSbz
              have hwe := hid hw2
              rw [hw2] at C
              clear hw2
              go_wp2_with fail
              refine C.out.mono ?_
              rw [← hwe.out]
              rintro e w3 ⟨rfl, hb3⟩
              have HB3 := hid (below_trans HB2.out hb3)
              have b0 : w3.cell? ⟨wr.heap.size, 0, none⟩ = some (.int .i64 kind) := ((bcell hb3).1 _ _ (by omega)).trans g0
              have b4 : w3.cell? ⟨wr.heap.size, 4, none⟩ = some (.string ub) := ((bcell hb3).1 _ _ (by omega)).trans g4
              clear hb3 g0 g4 hb2 HB2 C
              go_wp2_with fail
              go_roundw
              case rel => exact ⟨k + 1, _, rfl, by first | rfl | go_num, by omega, hid (add_next _ _ _ _ _ _ _ HT.out hsb.out hJb.out (by rw [hstep.out, if_neg hk00, HIT.out])), HB3, HD⟩
              case measure => simp [intOf]; omega

set_option maxRecDepth 100000 in
set_option maxHeartbeats 12800000 in
theorem ref20_Row1 (arr : List JV) (aa : Option Addr) (ac : Nat) (sep : List UInt8) (w : World) (hR : RdA w aa arr) (hM : Mx w) (hT0 : Tabs w) (hn : arr.length ≤ 1048576) (hk : ∀ x ∈ arr, mayJ 200 x = true ∧ SmallV x ∧ x.s.length ≤ 1048576) (hsl : sep.length ≤ 10) :
    Calls Tryz.prog 32 #[.slice aa arr.length ac, .string ⟨sep.toArray⟩, .int .i64 1] w fun e w' => e = .returned (.tuple #[.string ⟨(rowR [] (swapL (substL tsvP)) sep arr).1.toArray⟩, .int .i64 (rowR [] (swapL (substL tsvP)) sep arr).2]) ∧ Below w.heap.size w w' := by
  unfold rowR
  dsimp only
  have hlen := fun k (hd : deepB (arr.take k) = false) => row_len (null := []) (sep := sep) (q := (swapL (substL tsvP))) (arr := arr.take k) (by rw [List.length_take]; omega) (fun x hx => hk x (List.mem_of_mem_take hx)) (by exact tsv_len) (by decide) hsl hd
  obtain ⟨T, hT⟩ : ∃ T, T = Lib.join (arr.map (itemG [] (swapL (substL tsvP)))) sep := ⟨_, rfl⟩
  rw [← hT]
  obtain ⟨T2, hT2⟩ : ∃ T2, T2 = (if deepB arr = true then [] else T) := ⟨_, rfl⟩
  obtain ⟨E2, hE2⟩ : ∃ E2 : Int, E2 = (if deepB arr = true then 9 else 0) := ⟨_, rfl⟩
  rw [← hT2, ← hE2]
  have hyes := hid (show deepB arr = true → T2 = [] ∧ E2 = 9 from fun h => by rw [hT2, hE2, if_pos h, if_pos h]; exact ⟨rfl, rfl⟩)
  have hno := hid (show deepB arr = false → T2 = T ∧ E2 = 0 from fun h => by rw [hT2, hE2, if_neg (by rw [h]; decide), if_neg (by rw [h]; decide)]; exact ⟨rfl, rfl⟩)
  clear hT2 hE2
  obtain ⟨sb, hsb⟩ : ∃ sb : ByteArray, sb = ⟨sep.toArray⟩ := ⟨_, rfl⟩
  rw [← hsb]
  have hsbz : sb.size ≤ 10 := by rw [hsb, bstr_len]; exact hsl
  have CS := hid fun (s : List UInt8) (N cap : Nat) (W : World) (h : W.heap[N]? = some (.cells #[.string ⟨#[92, 116]⟩, .string ⟨#[92, 110]⟩, .string ⟨#[92, 114]⟩, .string ⟨#[92, 92]⟩] 9 (0, 0))) (hs : s.length ≤ 1048576) => ref20_Swap tsvP s N cap W (by decide) (swap_lit tsvP h) (by decide) (by have := swapq1 s; omega) (by omega)
  replace hT := hid hT
  replace hsb := hid hsb
  replace hlen := hid hlen
  replace hk := hid hk
  replace hR := hid hR
  replace hM := hid hM
  replace hT0 := hid hT0
  clear hsl
  go_enter Tryz.func32, Tryz.ntmps32
  go_wp2_with fail
  go_loopw [8, 9] (fun v i wr => ∃ (k : Nat) (t : ByteArray), v = .string t ∧ i = .int .i64 (k : Nat) ∧ k ≤ arr.length ∧ Hid (t = ⟨(Lib.join ((arr.take k).map (itemG [] (swapL (substL tsvP)))) sep).toArray⟩) ∧ Hid (Below w.heap.size w wr) ∧ Hid (deepB (arr.take k) = false)) (fun _ i _ => arr.length - (intOf i).toNat)
  case atStart => exact ⟨0, _, rfl, rfl, Nat.zero_le _, hid rfl, hid (Below.refl _ _), hid rfl⟩
  case round =>
    obtain ⟨k, t, rfl, rfl, hkl, HT, HB, hdp⟩ := hrel
    have htz : t.size ≤ 140737488355328 := by rw [HT.out, bstr_len]; exact hlen.out k hdp.out
    have hszw := HB.out.size
    by_cases hke : k = arr.length
    · have hd := hdp.out
      rw [hke, List.take_length] at hd
      obtain ⟨f1, f2⟩ := hno.out hd
      have HTE := hid (show t = ⟨T2.toArray⟩ by rw [HT.out, f1, hT.out, hke, List.take_length])
      replace f2 := hid f2
      subst hke
      clear hd f1
      go_wp2_with fail
      go_ret2
      exact ⟨by rw [HTE.out, f2.out]; rfl, HB.out⟩
    · have hkl2 : k < arr.length := by omega
      obtain ⟨b, off, a, c, aa', ac', oa, oc, rfl, P, h7⟩ := (hR.out.below HB.out).at hkl2
      obtain ⟨m1, m2, m3⟩ := hk.out arr[k] (List.getElem_mem hkl2)
      have hk06 := may_kind m1
      have hdt := deep_take hkl2
      rw [hdp.out, Bool.false_or] at hdt
      have hdall : 4 < arr[k].kind → deepB arr = true := fun h => List.any_eq_true.2 ⟨arr[k], List.getElem_mem hkl2, by simpa using h⟩
      have hstep := hid (ljoin_take arr (itemG [] (swapL (substL tsvP))) sep k hkl2)
      have CJ := fun (W : World) (hb : Below wr.heap.size wr W) (hbw : Below w.heap.size w W) (h5 : arr[k].kind < 5) => ref20_Json arr[k] _ W ⟨m1, m2, P.rd.stay hb, hT0.out.below hbw, hM.out.below hbw, by have := leaf_len m1 h5 m3; omega, m3⟩
      have hjl : arr[k].kind < 5 → (jsonJ 200 arr[k]).length ≤ 12582914 := fun h5 => leaf_len m1 h5 m3
      clear P m1 m2
      have hI0 : arr[k].kind = 0 → itemG [] (swapL (substL tsvP)) arr[k] = [] := fun h => by unfold itemG; rw [if_pos h]
      have hI4 : arr[k].kind = 4 → itemG [] (swapL (substL tsvP)) arr[k] = (swapL (substL tsvP)) arr[k].s := fun h => by unfold itemG; rw [if_neg (by rw [h]; decide), if_pos h]
      have hIn : arr[k].kind ≠ 0 → arr[k].kind ≠ 4 → itemG [] (swapL (substL tsvP)) arr[k] = jsonJ 200 arr[k] := fun h h' => by unfold itemG; rw [if_neg h, if_neg h']
      unfold valCs strV at CJ
      generalize jsonJ 200 arr[k] = J at *
      generalize itemG [] (swapL (substL tsvP)) arr[k] = it at *
      generalize arr[k].kind = kind at *
      generalize arr[k].g = gg at *
      generalize arr[k].ls.length = nn at *
      generalize arr[k].e = ee at *
      generalize arr[k].s = ss at *
      generalize arr[k].arr.length = an at *
      generalize arr[k].obj.length = on at *
      obtain ⟨h0, h1, h2, h3, h4, h5, h6⟩ := h7
      unfold strV at h4
      obtain ⟨w2, hw2⟩ : ∃ w2, w2 = wr.alloc (.cells #[.int .i64 kind, .bool gg, .slice a nn c, .int .i64 ee, .string ⟨ss.toArray⟩, .slice aa' an ac', .slice oa on oc] 28) := ⟨_, rfl⟩
      have hb2 : Below wr.heap.size wr w2 := by rw [hw2]; exact (Below.refl _ wr).alloc (Nat.le_refl _) _
      have HB2 := hid (below_trans HB.out hb2)
      have hse : w2.heap.size = wr.heap.size + 1 := by rw [hw2]; simp
      have CS1 := hid fun (N cap : Nat) (W : World) h => CS.out ss N cap W h m3
      have C := CJ w2 hb2 HB2.out
      have g0 : w2.cell? ⟨wr.heap.size, 0, none⟩ = some (.int .i64 kind) := by rw [hw2]; simp
      have g4 : w2.cell? ⟨wr.heap.size, 4, none⟩ = some (.string ⟨ss.toArray⟩) := by rw [hw2]; simp
      have hjz : kind < 5 → (⟨J.toArray⟩ : ByteArray).size ≤ 12582914 := fun h => by rw [bstr_len]; exact hjl h
      obtain ⟨S, hS⟩ : ∃ S, S = swapL (substL tsvP) ss := ⟨_, rfl⟩
      have hSz : S.length ≤ 13000000 := by rw [hS]; have := swapq1 ss; omega
      rw [← hS] at CS1
      have hI4' : kind = 4 → it = S := fun h => by rw [hI4 h, hS]
      clear hS hI4 CJ hjl m3
      obtain ⟨Sb, hSb⟩ : ∃ u : ByteArray, u = ⟨S.toArray⟩ := ⟨_, rfl⟩
      have hSbz : Sb.size ≤ 13000000 := by rw [hSb, bstr_len]; exact hSz
      rw [← hSb] at CS1
      obtain ⟨Jb, hJb⟩ : ∃ u : ByteArray, u = ⟨J.toArray⟩ := ⟨_, rfl⟩
      rw [← hJb] at C hjz
      generalize (⟨ss.toArray⟩ : ByteArray) = ub at *
      replace hSb := hid hSb
      replace hJb := hid hJb
      clear hSz
      by_cases hk00 : k = 0
      · subst hk00
        simp only [Nat.zero_mul, Nat.add_zero] at h0 h1 h2 h3 h4 h5 h6
        by_cases hk5 : 4 < kind
        · obtain ⟨f1, f2⟩ := hyes.out (hdall hk5)
          replace f1 := hid f1
          replace f2 := hid f2
          rw [hw2] at HB2
          clear C hdt hdall hI0 hI4' hIn hjz CS1 hw2 hse g0 g4 hb2
          go_wp2_with fail
          go_ret2
          exact ⟨by rw [f1.out, f2.out]; rfl, HB2.out⟩
        · have HD := hid (show deepB (arr.take (0 + 1)) = false by rw [hdt]; simpa using hk5)
          replace C := hid (C (by omega))
          have hjz1 := hjz (by omega)
          clear hdt hdall hjz
          by_cases hk0 : kind = 0
          · subst hk0
            have HIT := hid (show it = [] from hI0 rfl)
            clear hI0 hI4' hIn CS1 hSbz
            have hwe := hid hw2
            rw [hw2] at C
            clear hw2
            go_wp2_with fail
            refine C.out.mono ?_
            rw [← hwe.out]
            rintro e w3 ⟨rfl, hb3⟩
            have HB3 := hid (below_trans HB2.out hb3)
            have b0 : w3.cell? ⟨wr.heap.size, 0, none⟩ = some (.int .i64 0) := ((bcell hb3).1 _ _ (by omega)).trans g0
            have b4 : w3.cell? ⟨wr.heap.size, 4, none⟩ = some (.string ub) := ((bcell hb3).1 _ _ (by omega)).trans g4
            clear hb3 g0 g4 hb2 HB2 C
            go_wp2_with fail
            go_roundw
            case rel => exact ⟨1, _, rfl, by first | rfl | go_num, by omega, hid (add_first _ _ _ _ HT.out (show (⟨#[]⟩ : ByteArray) = ⟨([] : List UInt8).toArray⟩ from rfl) (hstep.out.trans ((if_pos (by trivial)).trans HIT.out))), HB3, HD⟩
            case measure => simp [intOf]; omega
          · by_cases hk4 : kind = 4
            · subst hk4
              have HIT := hid (hI4' rfl)
              clear hI0 hI4' hIn hk0
              have hwe := hid hw2
              rw [hw2] at C
              clear hw2
              go_wp2_with fail
              refine C.out.mono ?_
              rw [← hwe.out]
              rintro e w3 ⟨rfl, hb3⟩
              have HB3 := hid (below_trans HB2.out hb3)
              have b0 : w3.cell? ⟨wr.heap.size, 0, none⟩ = some (.int .i64 4) := ((bcell hb3).1 _ _ (by omega)).trans g0
              have b4 : w3.cell? ⟨wr.heap.size, 4, none⟩ = some (.string ub) := ((bcell hb3).1 _ _ (by omega)).trans g4
              clear hb3 g0 g4 hb2 HB2 C
              go_wp2_with fail
              refine (CS1.out _ _ _ (heap_alloc_new _ _)).mono ?_
              rintro e w4 ⟨rfl, hb4⟩
              have HB4 := hid (below_trans (HB3.out.alloc HB3.out.size _) hb4)
              clear hb4 b0 b4 CS1
              go_wp2_with fail
              go_roundw
              case rel => exact ⟨1, _, rfl, by first | rfl | go_num, by omega, hid (add_first _ _ _ _ HT.out hSb.out (hstep.out.trans ((if_pos (by trivial)).trans HIT.out))), HB4, HD⟩
              case measure => simp [intOf]; omega
            · have HIT := hid (hIn hk0 hk4)
              have e0 : (kind == 0) = false := by rw [beq_eq_false_iff_ne]; exact hk0
              have e4 : (kind == 4) = false := by rw [beq_eq_false_iff_ne]; exact hk4
              clear hI0 hI4' hIn CS1 hk0 hk4 hSbz
              have hwe := hid hw2
              rw [hw2] at C
              clear hw2
              go_wp2_with fail
              refine C.out.mono ?_
              rw [← hwe.out]
              rintro e w3 ⟨rfl, hb3⟩
              have HB3 := hid (below_trans HB2.out hb3)
              have b0 : w3.cell? ⟨wr.heap.size, 0, none⟩ = some (.int .i64 kind) := ((bcell hb3).1 _ _ (by omega)).trans g0
              have b4 : w3.cell? ⟨wr.heap.size, 4, none⟩ = some (.string ub) := ((bcell hb3).1 _ _ (by omega)).trans g4
              clear hb3 g0 g4 hb2 HB2 C
              go_wp2_with fail
              go_roundw
              case rel => exact ⟨1, _, rfl, by first | rfl | go_num, by omega, hid (add_first _ _ _ _ HT.out hJb.out (hstep.out.trans ((if_pos (by trivial)).trans HIT.out))), HB3, HD⟩
              case measure => simp [intOf]; omega
      · have hkp : (0 : Int) < (k : Int) := by omega
        by_cases hk5 : 4 < kind
        · obtain ⟨f1, f2⟩ := hyes.out (hdall hk5)
          replace f1 := hid f1
          replace f2 := hid f2
          rw [hw2] at HB2
          clear C hdt hdall hI0 hI4' hIn hjz CS1 hw2 hse g0 g4 hb2
          go_wp2_with fail
          go_ret2
          exact ⟨by rw [f1.out, f2.out]; rfl, HB2.out⟩
        · have HD := hid (show deepB (arr.take (k + 1)) = false by rw [hdt]; simpa using hk5)
          replace C := hid (C (by omega))
          have hjz1 := hjz (by omega)
          clear hdt hdall hjz
          by_cases hk0 : kind = 0
          · subst hk0
            have HIT := hid (show it = [] from hI0 rfl)
            clear hI0 hI4' hIn CS1 hSbz
            have hwe := hid hw2
            rw [hw2] at C
            clear hw2
            go_wp2_with fail
            refine C.out.mono ?_
            rw [← hwe.out]
            rintro e w3 ⟨rfl, hb3⟩
            have HB3 := hid (below_trans HB2.out hb3)
            have b0 : w3.cell? ⟨wr.heap.size, 0, none⟩ = some (.int .i64 0) := ((bcell hb3).1 _ _ (by omega)).trans g0
            have b4 : w3.cell? ⟨wr.heap.size, 4, none⟩ = some (.string ub) := ((bcell hb3).1 _ _ (by omega)).trans g4
            clear hb3 g0 g4 hb2 HB2 C
            go_wp2_with fail
            go_roundw
            case rel => exact ⟨k + 1, _, rfl, by first | rfl | go_num, by omega, hid (add_next _ _ _ _ _ _ _ HT.out hsb.out (show (⟨#[]⟩ : ByteArray) = ⟨([] : List UInt8).toArray⟩ from rfl) (by rw [hstep.out, if_neg hk00, HIT.out])), HB3, HD⟩
            case measure => simp [intOf]; omega
          · by_cases hk4 : kind = 4
            · subst hk4
              have HIT := hid (hI4' rfl)
              clear hI0 hI4' hIn hk0
              have hwe := hid hw2
              rw [hw2] at C
              clear hw2
              go_wp2_with fail
              refine C.out.mono ?_
              rw [← hwe.out]
              rintro e w3 ⟨rfl, hb3⟩
              have HB3 := hid (below_trans HB2.out hb3)
              have b0 : w3.cell? ⟨wr.heap.size, 0, none⟩ = some (.int .i64 4) := ((bcell hb3).1 _ _ (by omega)).trans g0
              have b4 : w3.cell? ⟨wr.heap.size, 4, none⟩ = some (.string ub) := ((bcell hb3).1 _ _ (by omega)).trans g4
              clear hb3 g0 g4 hb2 HB2 C
              go_wp2_with fail
              refine (CS1.out _ _ _ (heap_alloc_new _ _)).mono ?_
              rintro e w4 ⟨rfl, hb4⟩
              have HB4 := hid (below_trans (HB3.out.alloc HB3.out.size _) hb4)
              clear hb4 b0 b4 CS1
              go_wp2_with fail
              go_roundw
              case rel => exact ⟨k + 1, _, rfl, by first | rfl | go_num, by omega, hid (add_next _ _ _ _ _ _ _ HT.out hsb.out hSb.out (by rw [hstep.out, if_neg hk00, HIT.out])), HB4, HD⟩
              case measure => simp [intOf]; omega
            · have HIT := hid (hIn hk0 hk4)
              have e0 : (kind == 0) = false := by rw [beq_eq_false_iff_ne]; exact hk0
              have e4 : (kind == 4) = false := by rw [beq_eq_false_iff_ne]; exact hk4
              clear hI0 hI4' hIn CS1 hk0 hk4 hSbz
              have hwe := hid hw2
              rw [hw2] at C
              clear hw2
              go_wp2_with fail
              refine C.out.mono ?_
              rw [← hwe.out]
              rintro e w3 ⟨rfl, hb3⟩
              have HB3 := hid (below_trans HB2.out hb3)
              have b0 : w3.cell? ⟨wr.heap.size, 0, none⟩ = some (.int .i64 kind) := ((bcell hb3).1 _ _ (by omega)).trans g0
              have b4 : w3.cell? ⟨wr.heap.size, 4, none⟩ = some (.string ub) := ((bcell hb3).1 _ _ (by omega)).trans g4
              clear hb3 g0 g4 hb2 HB2 C
              go_wp2_with fail
              go_roundw
              case rel => exact ⟨k + 1, _, rfl, by first | rfl | go_num, by omega, hid (add_next _ _ _ _ _ _ _ HT.out hsb.out hJb.out (by rw [hstep.out, if_neg hk00, HIT.out])), HB3, HD⟩
              case measure => simp [intOf]; omega

set_option maxRecDepth 100000 in
set_option maxHeartbeats 12800000 in
theorem ref20_Row2 (arr : List JV) (aa : Option Addr) (ac : Nat) (sep : List UInt8) (w : World) (hR : RdA w aa arr) (hM : Mx w) (hT0 : Tabs w) (hn : arr.length ≤ 1048576) (hk : ∀ x ∈ arr, mayJ 200 x = true ∧ SmallV x ∧ x.s.length ≤ 1048576) (hsl : sep.length ≤ 10) :
    Calls Tryz.prog 32 #[.slice aa arr.length ac, .string ⟨sep.toArray⟩, .int .i64 2] w fun e w' => e = .returned (.tuple #[.string ⟨(rowR [110, 117, 108, 108] (quoL 39 [39, 92, 39, 39]) sep arr).1.toArray⟩, .int .i64 (rowR [110, 117, 108, 108] (quoL 39 [39, 92, 39, 39]) sep arr).2]) ∧ Below w.heap.size w w' := by
  unfold rowR
  dsimp only
  have hlen := fun k (hd : deepB (arr.take k) = false) => row_len (null := [110, 117, 108, 108]) (sep := sep) (q := (quoL 39 [39, 92, 39, 39])) (arr := arr.take k) (by rw [List.length_take]; omega) (fun x hx => hk x (List.mem_of_mem_take hx)) (by exact fun s => quoL_len _ _ s (by decide)) (by decide) hsl hd
  obtain ⟨T, hT⟩ : ∃ T, T = Lib.join (arr.map (itemG [110, 117, 108, 108] (quoL 39 [39, 92, 39, 39]))) sep := ⟨_, rfl⟩
  rw [← hT]
  obtain ⟨T2, hT2⟩ : ∃ T2, T2 = (if deepB arr = true then [] else T) := ⟨_, rfl⟩
  obtain ⟨E2, hE2⟩ : ∃ E2 : Int, E2 = (if deepB arr = true then 9 else 0) := ⟨_, rfl⟩
  rw [← hT2, ← hE2]
  have hyes := hid (show deepB arr = true → T2 = [] ∧ E2 = 9 from fun h => by rw [hT2, hE2, if_pos h, if_pos h]; exact ⟨rfl, rfl⟩)
  have hno := hid (show deepB arr = false → T2 = T ∧ E2 = 0 from fun h => by rw [hT2, hE2, if_neg (by rw [h]; decide), if_neg (by rw [h]; decide)]; exact ⟨rfl, rfl⟩)
  clear hT2 hE2
  obtain ⟨sb, hsb⟩ : ∃ sb : ByteArray, sb = ⟨sep.toArray⟩ := ⟨_, rfl⟩
  rw [← hsb]
  have hsbz : sb.size ≤ 10 := by rw [hsb, bstr_len]; exact hsl
  have CS := hid fun (s : List UInt8) (N cap : Nat) (W : World) (h : W.heap[N]? = some (.cells #[.string ⟨#[39, 92, 39, 39]⟩] 9 (0, 0))) (hs : s.length ≤ 1048576) => ref20_Swap [(39, [39, 92, 39, 39])] s N cap W (by decide) (swap_lit [(39, [39, 92, 39, 39])] h) (by decide) (by have := swapq2 s; omega) (by omega)
  replace hT := hid hT
  replace hsb := hid hsb
  replace hlen := hid hlen
  replace hk := hid hk
  replace hR := hid hR
  replace hM := hid hM
  replace hT0 := hid hT0
  clear hsl
  go_enter Tryz.func32, Tryz.ntmps32
  go_wp2_with fail
  go_loopw [8, 9] (fun v i wr => ∃ (k : Nat) (t : ByteArray), v = .string t ∧ i = .int .i64 (k : Nat) ∧ k ≤ arr.length ∧ Hid (t = ⟨(Lib.join ((arr.take k).map (itemG [110, 117, 108, 108] (quoL 39 [39, 92, 39, 39]))) sep).toArray⟩) ∧ Hid (Below w.heap.size w wr) ∧ Hid (deepB (arr.take k) = false)) (fun _ i _ => arr.length - (intOf i).toNat)
  case atStart => exact ⟨0, _, rfl, rfl, Nat.zero_le _, hid rfl, hid (Below.refl _ _), hid rfl⟩
  case round =>
    obtain ⟨k, t, rfl, rfl, hkl, HT, HB, hdp⟩ := hrel
    have htz : t.size ≤ 140737488355328 := by rw [HT.out, bstr_len]; exact hlen.out k hdp.out
    have hszw := HB.out.size
    by_cases hke : k = arr.length
    · have hd := hdp.out
      rw [hke, List.take_length] at hd
      obtain ⟨f1, f2⟩ := hno.out hd
      have HTE := hid (show t = ⟨T2.toArray⟩ by rw [HT.out, f1, hT.out, hke, List.take_length])
      replace f2 := hid f2
      subst hke
      clear hd f1
      go_wp2_with fail
      go_ret2
      exact ⟨by rw [HTE.out, f2.out]; rfl, HB.out⟩
    · have hkl2 : k < arr.length := by omega
      obtain ⟨b, off, a, c, aa', ac', oa, oc, rfl, P, h7⟩ := (hR.out.below HB.out).at hkl2
      obtain ⟨m1, m2, m3⟩ := hk.out arr[k] (List.getElem_mem hkl2)
      have hk06 := may_kind m1
      have hdt := deep_take hkl2
      rw [hdp.out, Bool.false_or] at hdt
      have hdall : 4 < arr[k].kind → deepB arr = true := fun h => List.any_eq_true.2 ⟨arr[k], List.getElem_mem hkl2, by simpa using h⟩
      have hstep := hid (ljoin_take arr (itemG [110, 117, 108, 108] (quoL 39 [39, 92, 39, 39])) sep k hkl2)
      have CJ := fun (W : World) (hb : Below wr.heap.size wr W) (hbw : Below w.heap.size w W) (h5 : arr[k].kind < 5) => ref20_Json arr[k] _ W ⟨m1, m2, P.rd.stay hb, hT0.out.below hbw, hM.out.below hbw, by have := leaf_len m1 h5 m3; omega, m3⟩
      have hjl : arr[k].kind < 5 → (jsonJ 200 arr[k]).length ≤ 12582914 := fun h5 => leaf_len m1 h5 m3
      clear P m1 m2
      have hI0 : arr[k].kind = 0 → itemG [110, 117, 108, 108] (quoL 39 [39, 92, 39, 39]) arr[k] = [110, 117, 108, 108] := fun h => by unfold itemG; rw [if_pos h]
      have hI4 : arr[k].kind = 4 → itemG [110, 117, 108, 108] (quoL 39 [39, 92, 39, 39]) arr[k] = (quoL 39 [39, 92, 39, 39]) arr[k].s := fun h => by unfold itemG; rw [if_neg (by rw [h]; decide), if_pos h]
      have hIn : arr[k].kind ≠ 0 → arr[k].kind ≠ 4 → itemG [110, 117, 108, 108] (quoL 39 [39, 92, 39, 39]) arr[k] = jsonJ 200 arr[k] := fun h h' => by unfold itemG; rw [if_neg h, if_neg h']
      have hJ0 : arr[k].kind = 0 → jsonJ 200 arr[k] = [110, 117, 108, 108] := fun h => jsonJ0 200 h
      unfold valCs strV at CJ
      generalize jsonJ 200 arr[k] = J at *
      generalize itemG [110, 117, 108, 108] (quoL 39 [39, 92, 39, 39]) arr[k] = it at *
      generalize arr[k].kind = kind at *
      generalize arr[k].g = gg at *
      generalize arr[k].ls.length = nn at *
      generalize arr[k].e = ee at *
      generalize arr[k].s = ss at *
      generalize arr[k].arr.length = an at *
      generalize arr[k].obj.length = on at *
      obtain ⟨h0, h1, h2, h3, h4, h5, h6⟩ := h7
      unfold strV at h4
      obtain ⟨w2, hw2⟩ : ∃ w2, w2 = wr.alloc (.cells #[.int .i64 kind, .bool gg, .slice a nn c, .int .i64 ee, .string ⟨ss.toArray⟩, .slice aa' an ac', .slice oa on oc] 28) := ⟨_, rfl⟩
      have hb2 : Below wr.heap.size wr w2 := by rw [hw2]; exact (Below.refl _ wr).alloc (Nat.le_refl _) _
      have HB2 := hid (below_trans HB.out hb2)
      have hse : w2.heap.size = wr.heap.size + 1 := by rw [hw2]; simp
      have CS1 := hid fun (N cap : Nat) (W : World) h => CS.out ss N cap W h m3
      have C := CJ w2 hb2 HB2.out
      have g0 : w2.cell? ⟨wr.heap.size, 0, none⟩ = some (.int .i64 kind) := by rw [hw2]; simp
      have g4 : w2.cell? ⟨wr.heap.size, 4, none⟩ = some (.string ⟨ss.toArray⟩) := by rw [hw2]; simp
      have hjz : kind < 5 → (⟨J.toArray⟩ : ByteArray).size ≤ 12582914 := fun h => by rw [bstr_len]; exact hjl h
      obtain ⟨S, hS⟩ : ∃ S, S = swapL (substL [(39, [39, 92, 39, 39])]) ss := ⟨_, rfl⟩
      have hSz : S.length ≤ 13000000 := by rw [hS]; have := swapq2 ss; omega
      rw [← hS] at CS1
      have hI4' : kind = 4 → it = [39] ++ S ++ [39] := fun h => by rw [hI4 h, hS, swap1_subst]; rfl
      clear hS hI4 CJ hjl m3
      obtain ⟨Sb, hSb⟩ : ∃ u : ByteArray, u = ⟨S.toArray⟩ := ⟨_, rfl⟩
      have hSbz : Sb.size ≤ 13000000 := by rw [hSb, bstr_len]; exact hSz
      rw [← hSb] at CS1
      obtain ⟨Jb, hJb⟩ : ∃ u : ByteArray, u = ⟨J.toArray⟩ := ⟨_, rfl⟩
      rw [← hJb] at C hjz
      generalize (⟨ss.toArray⟩ : ByteArray) = ub at *
      replace hSb := hid hSb
      replace hJb := hid hJb
      clear hSz
      by_cases hk00 : k = 0
      · subst hk00
        simp only [Nat.zero_mul, Nat.add_zero] at h0 h1 h2 h3 h4 h5 h6
        by_cases hk5 : 4 < kind
        · obtain ⟨f1, f2⟩ := hyes.out (hdall hk5)
          replace f1 := hid f1
          replace f2 := hid f2
          rw [hw2] at HB2
          clear C hdt hdall hI0 hI4' hIn hjz CS1 hw2 hse g0 g4 hb2 hJ0
          go_wp2_with fail
          go_ret2
          exact ⟨by rw [f1.out, f2.out]; rfl, HB2.out⟩
        · have HD := hid (show deepB (arr.take (0 + 1)) = false by rw [hdt]; simpa using hk5)
          replace C := hid (C (by omega))
          have hjz1 := hjz (by omega)
          clear hdt hdall hjz
          by_cases hk0 : kind = 0
          · subst hk0
            have HIT := hid (show it = J by rw [hI0 rfl, hJ0 rfl])
            clear hI0 hI4' hIn CS1 hSbz hJ0
            have hwe := hid hw2
            rw [hw2] at C
            clear hw2
            go_wp2_with fail
            refine C.out.mono ?_
            rw [← hwe.out]
            rintro e w3 ⟨rfl, hb3⟩
            have HB3 := hid (below_trans HB2.out hb3)
            have b0 : w3.cell? ⟨wr.heap.size, 0, none⟩ = some (.int .i64 0) := ((bcell hb3).1 _ _ (by omega)).trans g0
            have b4 : w3.cell? ⟨wr.heap.size, 4, none⟩ = some (.string ub) := ((bcell hb3).1 _ _ (by omega)).trans g4
            clear hb3 g0 g4 hb2 HB2 C
            go_wp2_with fail
            go_roundw
            case rel => exact ⟨1, _, rfl, by first | rfl | go_num, by omega, hid (add_first _ _ _ _ HT.out hJb.out (hstep.out.trans ((if_pos (by trivial)).trans HIT.out))), HB3, HD⟩
            case measure => simp [intOf]; omega
          · by_cases hk4 : kind = 4
            · subst hk4
              have HIT := hid (hI4' rfl)
              clear hI0 hI4' hIn hk0 hJ0
              have hwe := hid hw2
              rw [hw2] at C
              clear hw2
              go_wp2_with fail
              refine C.out.mono ?_
              rw [← hwe.out]
              rintro e w3 ⟨rfl, hb3⟩
              have HB3 := hid (below_trans HB2.out hb3)
              have b0 : w3.cell? ⟨wr.heap.size, 0, none⟩ = some (.int .i64 4) := ((bcell hb3).1 _ _ (by omega)).trans g0
              have b4 : w3.cell? ⟨wr.heap.size, 4, none⟩ = some (.string ub) := ((bcell hb3).1 _ _ (by omega)).trans g4
              clear hb3 g0 g4 hb2 HB2 C
              go_wp2_with fail
              refine (CS1.out _ _ _ (heap_alloc_new _ _)).mono ?_
              rintro e w4 ⟨rfl, hb4⟩
              have HB4 := hid (below_trans (HB3.out.alloc HB3.out.size _) hb4)
              clear hb4 b0 b4 CS1
              go_wp2_with fail
              go_roundw
              case rel => exact ⟨1, _, rfl, by first | rfl | go_num, by omega, hid (add_first _ _ _ _ HT.out (wrap_q 39 _ _ _ hSb.out rfl) (hstep.out.trans ((if_pos (by trivial)).trans HIT.out))), HB4, HD⟩
              case measure => simp [intOf]; omega
            · have HIT := hid (hIn hk0 hk4)
              have e0 : (kind == 0) = false := by rw [beq_eq_false_iff_ne]; exact hk0
              have e4 : (kind == 4) = false := by rw [beq_eq_false_iff_ne]; exact hk4
              clear hI0 hI4' hIn CS1 hk0 hk4 hSbz hJ0
              have hwe := hid hw2
              rw [hw2] at C
              clear hw2
              go_wp2_with fail
              refine C.out.mono ?_
              rw [← hwe.out]
              rintro e w3 ⟨rfl, hb3⟩
              have HB3 := hid (below_trans HB2.out hb3)
              have b0 : w3.cell? ⟨wr.heap.size, 0, none⟩ = some (.int .i64 kind) := ((bcell hb3).1 _ _ (by omega)).trans g0
              have b4 : w3.cell? ⟨wr.heap.size, 4, none⟩ = some (.string ub) := ((bcell hb3).1 _ _ (by omega)).trans g4
              clear hb3 g0 g4 hb2 HB2 C
              go_wp2_with fail
              go_roundw
              case rel => exact ⟨1, _, rfl, by first | rfl | go_num, by omega, hid (add_first _ _ _ _ HT.out hJb.out (hstep.out.trans ((if_pos (by trivial)).trans HIT.out))), HB3, HD⟩
              case measure => simp [intOf]; omega
      · have hkp : (0 : Int) < (k : Int) := by omega
        by_cases hk5 : 4 < kind
        · obtain ⟨f1, f2⟩ := hyes.out (hdall hk5)
          replace f1 := hid f1
          replace f2 := hid f2
          rw [hw2] at HB2
          clear C hdt hdall hI0 hI4' hIn hjz CS1 hw2 hse g0 g4 hb2 hJ0
          go_wp2_with fail
          go_ret2
          exact ⟨by rw [f1.out, f2.out]; rfl, HB2.out⟩
        · have HD := hid (show deepB (arr.take (k + 1)) = false by rw [hdt]; simpa using hk5)
          replace C := hid (C (by omega))
          have hjz1 := hjz (by omega)
          clear hdt hdall hjz
          by_cases hk0 : kind = 0
          · subst hk0
            have HIT := hid (show it = J by rw [hI0 rfl, hJ0 rfl])
            clear hI0 hI4' hIn CS1 hSbz hJ0
            have hwe := hid hw2
            rw [hw2] at C
            clear hw2
            go_wp2_with fail
            refine C.out.mono ?_
            rw [← hwe.out]
            rintro e w3 ⟨rfl, hb3⟩
            have HB3 := hid (below_trans HB2.out hb3)
            have b0 : w3.cell? ⟨wr.heap.size, 0, none⟩ = some (.int .i64 0) := ((bcell hb3).1 _ _ (by omega)).trans g0
            have b4 : w3.cell? ⟨wr.heap.size, 4, none⟩ = some (.string ub) := ((bcell hb3).1 _ _ (by omega)).trans g4
            clear hb3 g0 g4 hb2 HB2 C
            go_wp2_with fail
            go_roundw
            case rel => exact ⟨k + 1, _, rfl, by first | rfl | go_num, by omega, hid (add_next _ _ _ _ _ _ _ HT.out hsb.out hJb.out (by rw [hstep.out, if_neg hk00, HIT.out])), HB3, HD⟩
            case measure => simp [intOf]; omega
          · by_cases hk4 : kind = 4
            · subst hk4
              have HIT := hid (hI4' rfl)
              clear hI0 hI4' hIn hk0 hJ0
              have hwe := hid hw2
              rw [hw2] at C
              clear hw2
              go_wp2_with fail
              refine C.out.mono ?_
              rw [← hwe.out]
              rintro e w3 ⟨rfl, hb3⟩
              have HB3 := hid (below_trans HB2.out hb3)
              have b0 : w3.cell? ⟨wr.heap.size, 0, none⟩ = some (.int .i64 4) := ((bcell hb3).1 _ _ (by omega)).trans g0
              have b4 : w3.cell? ⟨wr.heap.size, 4, none⟩ = some (.string ub) := ((bcell hb3).1 _ _ (by omega)).trans g4
              clear hb3 g0 g4 hb2 HB2 C
              go_wp2_with fail
              refine (CS1.out _ _ _ (heap_alloc_new _ _)).mono ?_
              rintro e w4 ⟨rfl, hb4⟩
              have HB4 := hid (below_trans (HB3.out.alloc HB3.out.size _) hb4)
              clear hb4 b0 b4 CS1
              go_wp2_with fail
              go_roundw
              case rel => exact ⟨k + 1, _, rfl, by first | rfl | go_num, by omega, hid (add_next _ _ _ _ _ _ _ HT.out hsb.out (wrap_q 39 _ _ _ hSb.out rfl) (by rw [hstep.out, if_neg hk00, HIT.out])), HB4, HD⟩
              case measure => simp [intOf]; omega
            · have HIT := hid (hIn hk0 hk4)
              have e0 : (kind == 0) = false := by rw [beq_eq_false_iff_ne]; exact hk0
              have e4 : (kind == 4) = false := by rw [beq_eq_false_iff_ne]; exact hk4
              clear hI0 hI4' hIn CS1 hk0 hk4 hSbz hJ0
              have hwe := hid hw2
              rw [hw2] at C
              clear hw2
              go_wp2_with fail
              refine C.out.mono ?_
              rw [← hwe.out]
              rintro e w3 ⟨rfl, hb3⟩
              have HB3 := hid (below_trans HB2.out hb3)
              have b0 : w3.cell? ⟨wr.heap.size, 0, none⟩ = some (.int .i64 kind) := ((bcell hb3).1 _ _ (by omega)).trans g0
              have b4 : w3.cell? ⟨wr.heap.size, 4, none⟩ = some (.string ub) := ((bcell hb3).1 _ _ (by omega)).trans g4
              clear hb3 g0 g4 hb2 HB2 C
              go_wp2_with fail
              go_roundw
              case rel => exact ⟨k + 1, _, rfl, by first | rfl | go_num, by omega, hid (add_next _ _ _ _ _ _ _ HT.out hsb.out hJb.out (by rw [hstep.out, if_neg hk00, HIT.out])), HB3, HD⟩
              case measure => simp [intOf]; omega

end Go.Proofs.YtldhebpkplglcaaGreatDoor
