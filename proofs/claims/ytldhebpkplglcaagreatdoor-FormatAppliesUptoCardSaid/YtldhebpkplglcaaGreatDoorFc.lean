/- format.plain and format.Apply at a Text. The closures of format: strings.ReplaceAll at one byte between quotes. format.row over items that are Null or Text. format.table and format.Apply @csv at an array of Null and Text; @sh at a Text. -/
import Derived.Test.YtldhebpkplglcaaGreatDoorFb
import Derived.Test.YtldhebpkplglcaaGreatDoorMl
import Derived.Test.YtldhebpkplglcaaGreatDoorFd
namespace Go.Proofs.YtldhebpkplglcaaGreatDoor
open Go.RowKit

/-- A Text's cells. -/
def txtCs (s : List UInt8) : List Value := [.int .i64 4, .bool false, .slice none 0 0, .int .i64 0, strV s, .slice none 0 0, .slice none 0 0]
def JV.txt (s : List UInt8) : JV := .mk 4 false [] 0 s [] []
theorem txt_rd (s : List UInt8) (w : World) (h : s.length ≤ 9223372036854775807) : RdV w (txtCs s) (JV.txt s) := by
  refine RdV.mk (w := w) 4 false none [] 0 0 s none [] 0 none [] 0 (fun _ => []) (fun _ => []) ?_ ?_ h ?_ ?_ ?_ ?_ ?_ ?_ ?_ ?_
  · unfold I64; omega
  · unfold I64; omega
  · simp
  · simp
  · simp
  · exact ⟨fun j v hj => by simp [u32s] at hj, by simp⟩
  · intro i hi; simp at hi
  · intro i x hi; simp at hi
  · intro i x hi; simp at hi
  · intro i x hi; simp at hi
theorem txt_may (s : List UInt8) : mayJ 200 (JV.txt s) = soundB s := by
  unfold mayJ
  simp [JV.txt, baseB, JV.arr, JV.obj, JV.kind, JV.g, JV.ls, JV.e, JV.s]

set_option maxRecDepth 100000 in
theorem format_plain (s : List UInt8) (w : World) :
    Calls Tryz.prog 12 #[.agg (txtCs s).toArray] w fun e w' => e = .returned (.string ⟨s.toArray⟩) ∧ Below w.heap.size w w' := by
  unfold txtCs strV
  go_enter Tryz.func12, Tryz.ntmps12
  go_wp2_with fail
  go_ret
  exact ⟨rfl, (Below.refl _ w).alloc (Nat.le_refl _) _⟩

/-- A Text in a block of its own. -/
structure BoxT (w : World) (b : Nat) (sb : ByteArray) : Prop where
  h : w.heap[b]? = some (.cells #[.int .i64 4, .bool false, .slice none 0 0, .int .i64 0, .string sb, .slice none 0 0, .slice none 0 0] 28 (0, 0))
theorem BoxT.lt {w : World} {b : Nat} {sb : ByteArray} (h : BoxT w b sb) : b < w.heap.size := (Array.getElem?_eq_some_iff.1 h.h).1
theorem BoxT.stay {w w' : World} {b : Nat} {sb : ByteArray} (h : BoxT w b sb) (hb : Below w.heap.size w w') : BoxT w' b sb := ⟨(hb.block b h.lt).trans h.h⟩
theorem BoxT.cells {w : World} {b : Nat} {sb : ByteArray} (h : BoxT w b sb) : w.cell? ⟨b, 0, none⟩ = some (.int .i64 4) ∧ w.cell? ⟨b, 1, none⟩ = some (.bool false) ∧ w.cell? ⟨b, 2, none⟩ = some (.slice none 0 0) ∧ w.cell? ⟨b, 3, none⟩ = some (.int .i64 0) ∧
    w.cell? ⟨b, 4, none⟩ = some (.string sb) ∧ w.cell? ⟨b, 5, none⟩ = some (.slice none 0 0) ∧ w.cell? ⟨b, 6, none⟩ = some (.slice none 0 0) := by
  refine ⟨?_, ?_, ?_, ?_, ?_, ?_, ?_⟩ <;> (rw [Lib.cell_of_heap h.h]; rfl)
/-- What a text is written as, in the formats that only look at the text. -/
def TextTo (f : Nat) (g : List UInt8 → List UInt8) : Prop := ∀ (s : List UInt8) (w : World), s.length ≤ 17592186044415 →
  Calls Tryz.prog f #[.string ⟨s.toArray⟩] w fun e w' => e = .returned (.string ⟨(g s).toArray⟩) ∧ Below w.heap.size w w'

set_option maxRecDepth 100000 in
set_option maxHeartbeats 1600000 in
theorem apply_b64 (s : List UInt8) (hs : s.length ≤ 17592186044415) (hv : soundB s = true) (w : World) (hT : Tabs w) :
    Calls Tryz.prog 6 #[.string ⟨#[64, 98, 97, 115, 101, 54, 52]⟩, .agg (txtCs s).toArray] w fun e w' => e = .returned (.tuple #[.string ⟨(b64 s).toArray⟩, .int .i64 0]) ∧ Below w.heap.size w w' := by
  have hM := fun W (hW : Tabs W) => value_May (JV.txt s) (txtCs s) W (txt_rd s W (by omega)) hW
  rw [txt_may, hv] at hM
  have hP := fun W => format_plain s W
  have hC := fun W => format_code s W hs
  obtain ⟨T, hT2⟩ : ∃ T, T = b64 s := ⟨_, rfl⟩
  rw [← hT2] at hC ⊢
  clear hT2
  unfold txtCs strV at hM hP ⊢
  generalize (⟨s.toArray⟩ : ByteArray) = sb at *
  replace hM := hid hM
  replace hP := hid hP
  replace hC := hid hC
  have hTw := hid hT
  clear hT
  go_enter Tryz.func6, Tryz.ntmps6
  go_wp2_with fail
  have hBox : BoxT (w.alloc (.cells #[.int .i64 4, .bool false, .slice none 0 0, .int .i64 0, .string sb, .slice none 0 0, .slice none 0 0] 28)) w.heap.size sb := ⟨heap_alloc_new w _⟩
  have hAl : Below w.heap.size w (w.alloc (.cells #[.int .i64 4, .bool false, .slice none 0 0, .int .i64 0, .string sb, .slice none 0 0, .slice none 0 0] 28)) := (Below.refl _ w).alloc (Nat.le_refl _) _
  refine (hM.out _ (hTw.out.below hAl)).mono ?_
  rintro e w1 ⟨rfl, hb1⟩
  replace hBox := hBox.stay hb1
  have HB1 := hid (below_trans hAl hb1)
  obtain ⟨c0, c1, c2, c3, c4, c5, c6⟩ := hBox.cells
  clear hBox hAl hb1
  go_wp2_with fail
  refine (hP.out _).mono ?_
  rintro e w2 ⟨rfl, hb2⟩
  have HB2 := hid (below_trans HB1.out hb2)
  clear hb2 c0 c1 c2 c3 c4 c5 c6
  go_wp2_with fail
  refine (hC.out _).mono ?_
  rintro e w3 ⟨rfl, hb3⟩
  have HB3 := hid (below_trans HB2.out hb3)
  clear hb3
  go_wp2_with fail
  go_ret2
  exact ⟨rfl, HB3.out⟩

set_option maxRecDepth 100000 in
set_option maxHeartbeats 1600000 in
theorem apply_uri (s : List UInt8) (hs : s.length ≤ 17592186044415) (hv : soundB s = true) (w : World) (hT : Tabs w) :
    Calls Tryz.prog 6 #[.string ⟨#[64, 117, 114, 105]⟩, .agg (txtCs s).toArray] w fun e w' => e = .returned (.tuple #[.string ⟨(uriL s).toArray⟩, .int .i64 0]) ∧ Below w.heap.size w w' := by
  have hM := fun W (hW : Tabs W) => value_May (JV.txt s) (txtCs s) W (txt_rd s W (by omega)) hW
  rw [txt_may, hv] at hM
  have hP := fun W => format_plain s W
  have hC := fun W => format_uri s W hs
  obtain ⟨T, hT2⟩ : ∃ T, T = uriL s := ⟨_, rfl⟩
  rw [← hT2] at hC ⊢
  clear hT2
  unfold txtCs strV at hM hP ⊢
  generalize (⟨s.toArray⟩ : ByteArray) = sb at *
  replace hM := hid hM
  replace hP := hid hP
  replace hC := hid hC
  have hTw := hid hT
  clear hT
  go_enter Tryz.func6, Tryz.ntmps6
  go_wp2_with fail
  have hBox : BoxT (w.alloc (.cells #[.int .i64 4, .bool false, .slice none 0 0, .int .i64 0, .string sb, .slice none 0 0, .slice none 0 0] 28)) w.heap.size sb := ⟨heap_alloc_new w _⟩
  have hAl : Below w.heap.size w (w.alloc (.cells #[.int .i64 4, .bool false, .slice none 0 0, .int .i64 0, .string sb, .slice none 0 0, .slice none 0 0] 28)) := (Below.refl _ w).alloc (Nat.le_refl _) _
  refine (hM.out _ (hTw.out.below hAl)).mono ?_
  rintro e w1 ⟨rfl, hb1⟩
  replace hBox := hBox.stay hb1
  have HB1 := hid (below_trans hAl hb1)
  obtain ⟨c0, c1, c2, c3, c4, c5, c6⟩ := hBox.cells
  clear hBox hAl hb1
  go_wp2_with fail
  refine (hP.out _).mono ?_
  rintro e w2 ⟨rfl, hb2⟩
  have HB2 := hid (below_trans HB1.out hb2)
  clear hb2 c0 c1 c2 c3 c4 c5 c6
  go_wp2_with fail
  refine (hC.out _).mono ?_
  rintro e w3 ⟨rfl, hb3⟩
  have HB3 := hid (below_trans HB2.out hb3)
  clear hb3
  go_wp2_with fail
  go_ret2
  exact ⟨rfl, HB3.out⟩

end Go.Proofs.YtldhebpkplglcaaGreatDoor

namespace Go.Proofs.YtldhebpkplglcaaGreatDoor
open Go.RowKit

/-- bytealg.MaxLen is laid. -/
def Mx (w : World) : Prop := ∃ m, w.cell? ⟨0, 0, none⟩ = some (.int .i64 m)
theorem Mx.below {w w' : World} (h : Mx w) (hb : Below w.heap.size w w') : Mx w' := by
  obtain ⟨m, hm⟩ := h
  exact ⟨m, by rw [World.cell?_of_block (hb.block _ (World.block_lt_of_cell? w _ hm))]; exact hm⟩
/-- A text between quotes, each quote in it as something else. -/
def quoL (q : UInt8) (new s : List UInt8) : List UInt8 := [q] ++ swapL (swap1 q new) s ++ [q]
theorem swap_len (q : UInt8) (new : List UInt8) : ∀ s : List UInt8, (swapL (swap1 q new) s).length ≤ s.length * (new.length + 1)
  | [] => by simp [swapL]
  | c :: s => by
    have := swap_len q new s
    have h1 : (swap1 q new c).length ≤ new.length + 1 := by
      unfold swap1
      split <;> simp
    show ((c :: s).flatMap _).length ≤ _
    rw [List.flatMap_cons, List.length_append, List.length_cons, Nat.add_mul]
    unfold swapL at this
    omega
theorem count_le (q : UInt8) (s : List UInt8) : s.count q ≤ s.length := List.count_le_length

theorem count_byte (q : UInt8) (s : List UInt8) : Lib.countB ⟨s.toArray⟩ ⟨#[q]⟩ = s.count q := by
  show Lib.count s [q] = _
  unfold Lib.count
  exact count_one q _ s (Nat.lt_succ_self _)
theorem bytes3 (q : UInt8) (T : List UInt8) : (⟨#[q]⟩ : ByteArray) ++ ⟨T.toArray⟩ ++ ⟨#[q]⟩ = ⟨([q] ++ T ++ [q]).toArray⟩ := by
  refine ByteArray.ext (Array.toList_inj.1 ?_)
  simp
set_option maxRecDepth 100000 in
theorem format_sh (s : List UInt8) (w : World) (hs : s.length ≤ 1048576) (hM : Mx w) :
    Calls Tryz.prog 22 #[.string ⟨s.toArray⟩] w fun e w' => e = .returned (.string ⟨(quoL 39 [39, 92, 39, 39] s).toArray⟩) ∧ Below w.heap.size w w' := by
  obtain ⟨m, hm⟩ := hM
  have C := Tryz.strings_ReplaceAll ⟨s.toArray⟩ ⟨#[39]⟩ ⟨#[39, 92, 39, 39]⟩ m w (by show s.length < _; omega) hm (by decide) (by
    have h1 := count_byte 39 s
    have h2 := count_le 39 s
    show s.length + Lib.countB _ _ * 4 ≤ _
    rw [h1]
    omega)
  have e : Lib.replaceAll s [39] [39, 92, 39, 39] = swapL (swap1 39 [39, 92, 39, 39]) s := replaceAll_one _ _ _
  replace C : Calls Tryz.prog _ _ _ (fun e w' => e = .returned (.string ⟨(Lib.replaceAll s [39] [39, 92, 39, 39]).toArray⟩) ∧ Below w.heap.size w w') := C
  rw [e] at C
  clear e
  have hT0 := swap_len 39 [39, 92, 39, 39] s
  have hTl : (swapL (swap1 39 [39, 92, 39, 39]) s).length ≤ 5242880 := by
    refine Nat.le_trans hT0 ?_
    show s.length * (4 + 1) ≤ _
    omega
  clear hT0
  obtain ⟨T, hT⟩ : ∃ T, T = swapL (swap1 39 [39, 92, 39, 39]) s := ⟨_, rfl⟩
  unfold quoL
  rw [← hT] at C hTl ⊢
  clear hT
  obtain ⟨R, hR⟩ : ∃ R, R = [39] ++ T ++ [39] := ⟨_, rfl⟩
  rw [← hR]
  replace hR := hid hR
  replace C := hid C
  go_enter Tryz.func22, Tryz.ntmps22
  go_wp2_with fail
  refine (C.out).mono ?_
  rintro e w1 ⟨rfl, hb1⟩
  have HB1 := hid hb1
  clear hb1
  go_wp2_with fail
  go_ret
  refine ⟨?_, HB1.out⟩
  rw [hR.out, ← bytes3]
  rfl

set_option maxRecDepth 100000 in
theorem format_csv (s : List UInt8) (w : World) (hs : s.length ≤ 1048576) (hM : Mx w) :
    Calls Tryz.prog 45 #[.string ⟨s.toArray⟩] w fun e w' => e = .returned (.string ⟨(quoL 34 [34, 34] s).toArray⟩) ∧ Below w.heap.size w w' := by
  obtain ⟨m, hm⟩ := hM
  have C := Tryz.strings_ReplaceAll ⟨s.toArray⟩ ⟨#[34]⟩ ⟨#[34, 34]⟩ m w (by show s.length < _; omega) hm (by decide) (by
    have h1 := count_byte 34 s
    have h2 := count_le 34 s
    show s.length + Lib.countB _ _ * 2 ≤ _
    rw [h1]
    omega)
  have e : Lib.replaceAll s [34] [34, 34] = swapL (swap1 34 [34, 34]) s := replaceAll_one _ _ _
  replace C : Calls Tryz.prog _ _ _ (fun e w' => e = .returned (.string ⟨(Lib.replaceAll s [34] [34, 34]).toArray⟩) ∧ Below w.heap.size w w') := C
  rw [e] at C
  clear e
  have hT0 := swap_len 34 [34, 34] s
  have hTl : (swapL (swap1 34 [34, 34]) s).length ≤ 5242880 := by
    refine Nat.le_trans hT0 ?_
    show s.length * (2 + 1) ≤ _
    omega
  clear hT0
  obtain ⟨T, hT⟩ : ∃ T, T = swapL (swap1 34 [34, 34]) s := ⟨_, rfl⟩
  unfold quoL
  rw [← hT] at C hTl ⊢
  clear hT
  obtain ⟨R, hR⟩ : ∃ R, R = [34] ++ T ++ [34] := ⟨_, rfl⟩
  rw [← hR]
  replace hR := hid hR
  replace C := hid C
  go_enter Tryz.func45, Tryz.ntmps45
  go_wp2_with fail
  refine (C.out).mono ?_
  rintro e w1 ⟨rfl, hb1⟩
  have HB1 := hid hb1
  clear hb1
  go_wp2_with fail
  go_ret
  refine ⟨?_, HB1.out⟩
  rw [hR.out, ← bytes3]
  rfl

end Go.Proofs.YtldhebpkplglcaaGreatDoor

namespace Go.Proofs.YtldhebpkplglcaaGreatDoor
open Go.RowKit

theorem strSlice : SliceOf Tryz.prog 40 9 (.string ⟨#[]⟩) 16 := ⟨Tryz.underlying40, by kernel_rfl, rfl⟩
def strsF (xs : List (List UInt8)) : List Value := xs.map strV
theorem strsF_app (a : List (List UInt8)) (x : List UInt8) : strsF (a ++ [x]) = strsF a ++ [strV x] := by simp [strsF]
/-- strings.Join of a row of one's own. -/
theorem join_own (xs : List (List UInt8)) (sep : List UInt8) (v : Value) (n B : Nat) (w : World) (hn : n = xs.length) (h : w.ownsRow B 9 1 v n (strsF xs)) (hl : (Lib.join xs sep).length ≤ 140737488355328) (hz : xs.length ≤ 140737488355328) :
    Calls Tryz.prog 47 #[v, .string ⟨sep.toArray⟩] w fun e w' => e = .returned (.string ⟨(Lib.join xs sep).toArray⟩) ∧ Below w.heap.size w w' := by
  subst hn
  rcases h.2 with ⟨rfl, h0⟩ | ⟨g, cap, cur, rfl, hB, hg, hc1, hc2, hc3, ht⟩
  · obtain rfl := List.length_eq_zero_iff.1 h0
    refine (Tryz.strings_Join_none none 0 ⟨sep.toArray⟩ w).mono ?_
    rintro e w' ⟨rfl, rfl⟩
    exact ⟨rfl, Below.refl _ _⟩
  · have e1 : (xs.map fun x => (⟨x.toArray⟩ : ByteArray)).map (fun b => b.data.toList) = xs := by
      rw [List.map_map]
      conv => rhs; rw [← List.map_id xs]
      exact List.map_congr_left fun x _ => rfl
    have e2 : (xs.map fun x => (⟨x.toArray⟩ : ByteArray)).length = xs.length := by simp
    have C := Tryz.strings_Join g 0 cap (xs.map fun x => ⟨x.toArray⟩) ⟨sep.toArray⟩ w (by
      intro j x hj
      rw [Nat.zero_add, Lib.cell_of_heap hg]
      have h1 : (strsF xs)[j]? = some (.string x) := by
        rw [List.getElem?_map] at hj
        unfold strsF
        rw [List.getElem?_map]
        cases hx : xs[j]? with
        | none => rw [hx] at hj; cases hj
        | some y => rw [hx] at hj; obtain rfl := Option.some.inj hj; rfl
      rw [← ht, List.getElem?_take] at h1
      split at h1
      · simpa using h1
      · cases h1) ((Array.getElem?_eq_some_iff.1 hg).1) (by rw [e2]; exact hz) (by rw [e2]; exact hc1) (by rw [e1]; exact hl)
    rw [e1, e2] at C
    exact C
/-- What an item is written as. -/
def itemL (null : List UInt8) (q : List UInt8 → List UInt8) (v : JV) : List UInt8 := if v.kind = 0 then null else q v.s

set_option maxRecDepth 100000 in
set_option maxHeartbeats 3200000 in
theorem format_row (g : Nat) (eg : ∀ args w, (callFunc g args).run Tryz.prog w = .ok (.enter g args) w) (q : List UInt8 → List UInt8) (hF : ∀ (s : List UInt8) (W : World), s.length ≤ 1048576 → Mx W → Calls Tryz.prog g #[.string ⟨s.toArray⟩] W fun e w' => e = .returned (.string ⟨(q s).toArray⟩) ∧ Below W.heap.size W w')
    (arr : List JV) (aa : Option Addr) (ac : Nat) (sep null : List UInt8) (w : World) (hR : RdA w aa arr) (hM : Mx w) (hn : arr.length ≤ 1048576) (hk : ∀ x ∈ arr, (x.kind = 0 ∨ x.kind = 4) ∧ x.s.length ≤ 1048576)
    (hl : (Lib.join (arr.map (itemL null q)) sep).length ≤ 140737488355328) :
    Calls Tryz.prog 21 #[.slice aa arr.length ac, .string ⟨sep.toArray⟩, .string ⟨null.toArray⟩, .func (.func g) #[] #[]] w fun e w' => e = .returned (.tuple #[.string ⟨(Lib.join (arr.map (itemL null q)) sep).toArray⟩, .int .i64 0]) ∧ Below w.heap.size w w' := by
  obtain ⟨T, hT⟩ : ∃ T, T = Lib.join (arr.map (itemL null q)) sep := ⟨_, rfl⟩
  rw [← hT] at hl ⊢
  replace hT := hid hT
  replace hF := hid hF
  replace hk := hid hk
  replace hR := hid hR
  replace hM := hid hM
  go_enter Tryz.func21, Tryz.ntmps21
  go_wp2
  go_loopw [10, 15] (fun v i wr => ∃ k : Nat, i = .int .i64 (k : Nat) ∧ k ≤ arr.length ∧ wr.ownsRow w.heap.size 9 1 v k (strsF ((arr.take k).map (itemL null q))) ∧ Below w.heap.size w wr) (fun _ i _ => arr.length - (intOf i).toNat)
  case atStart => exact ⟨0, rfl, Nat.zero_le _, World.ownsRow_nil _ _ _ _, Below.refl _ _⟩
  case round =>
    obtain ⟨k, rfl, hkl, hown, hb⟩ := hrel
    have HB := hid hb
    have HO := hid hown
    have hszw := hb.size
    clear hown hb
    by_cases hke : k = arr.length
    · have HO2 := HO.out
      rw [hke, List.take_length] at HO2
      have C := join_own (arr.map (itemL null q)) sep _ arr.length _ wr (by simp) HO2 (by rw [← hT.out]; exact hl) (by simp; omega)
      rw [← hT.out] at C
      replace C := hid C
      subst hke
      clear HO2
      go_wp2_with fail
      refine (C.out).mono ?_
      rintro e w1 ⟨rfl, hb1⟩
      have HB1 := hid (below_trans HB.out hb1)
      clear hb1
      go_wp2_with fail
      go_ret2
      exact ⟨rfl, HB1.out⟩
    · have hkl2 : k < arr.length := by omega
      obtain ⟨b, off, a, c, aa', ac', oa, oc, rfl, P, h7⟩ := (hR.out.below HB.out).at hkl2
      have hkk := hk.out arr[k] (List.getElem_mem hkl2)
      have HT : Hid (strsF ((arr.take (k + 1)).map (itemL null q)) = strsF ((arr.take k).map (itemL null q)) ++ [strV (itemL null q arr[k])]) := by
        show strsF _ = _
        rw [List.take_add_one, List.getElem?_eq_getElem hkl2, Option.toList_some, List.map_append, List.map_cons, List.map_nil, strsF_app]
      obtain ⟨X, hX⟩ : ∃ X, X = strsF ((arr.take k).map (itemL null q)) := ⟨_, rfl⟩
      rw [← hX] at HO HT
      clear P hX
      have hI0 : arr[k].kind = 0 → itemL null q arr[k] = null := fun h => by unfold itemL; rw [if_pos h]
      have hI4 : arr[k].kind = 4 → itemL null q arr[k] = q arr[k].s := fun h => by unfold itemL; rw [if_neg (by rw [h]; decide)]
      generalize itemL null q arr[k] = it at *
      generalize arr[k].kind = kind at *
      generalize arr[k].g = gg at *
      generalize arr[k].ls.length = nn at *
      generalize arr[k].e = ee at *
      generalize arr[k].s = ss at *
      generalize arr[k].arr.length = an at *
      generalize arr[k].obj.length = on at *
      obtain ⟨h0, h1, h2, h3, h4, h5, h6⟩ := h7
      unfold strV at h4
      obtain ⟨hkd, hss⟩ := hkk
      rcases hkd with rfl | rfl
      · rw [hI0 rfl] at HT
        clear hI0 hI4
        obtain ⟨w2, hw2⟩ : ∃ w2, w2 = wr.alloc (.cells #[.int .i64 0, .bool gg, .slice a nn c, .int .i64 ee, .string ⟨ss.toArray⟩, .slice aa' an ac', .slice oa on oc] 28) := ⟨_, rfl⟩
        have hb2 : Below wr.heap.size wr w2 := by rw [hw2]; exact (Below.refl _ wr).alloc (Nat.le_refl _) _
        have hown2 := owns_below HO.out hb2
        have HB2 := hid (below_trans HB.out hb2)
        have hsz2 := Nat.le_trans hszw hb2.size
        clear hb2
        have hse : (wr.alloc (.cells #[.int .i64 0, .bool gg, .slice a nn c, .int .i64 ee, .string ⟨ss.toArray⟩, .slice aa' an ac', .slice oa on oc] 28)).heap.size = wr.heap.size + 1 := by simp
        rw [hw2] at hown2 hsz2
        unfold strV at HT
        go_wp2_with (at_builtin; refine wpList_push strSlice rfl _ _ rfl w.heap.size hown2 rfl (by rw [hse]; rfl) rfl (by unfold maxLen; omega) (by omega) hsz2 ?_; intro v' w3 hown' hb')
        rw [← HT.out] at hown'
        rw [← hw2] at hb'
        have HOW := hid hown'
        have HB3 := hid (HB2.out.trans hb')
        clear hown' hb' hown2
        go_wp2_with fail
        go_roundw
        case rel => exact ⟨k + 1, by go_num, by omega, HOW.out, HB3.out⟩
        case measure => simp [intOf]; omega
      · rw [hI4 rfl] at HT
        clear hI0 hI4
        obtain ⟨w2, hw2⟩ : ∃ w2, w2 = wr.alloc (.cells #[.int .i64 4, .bool gg, .slice a nn c, .int .i64 ee, .string ⟨ss.toArray⟩, .slice aa' an ac', .slice oa on oc] 28) := ⟨_, rfl⟩
        have hb2 : Below wr.heap.size wr w2 := by rw [hw2]; exact (Below.refl _ wr).alloc (Nat.le_refl _) _
        have HO2 := hid (owns_below HO.out hb2)
        have HB2 := hid (below_trans HB.out hb2)
        have hsz2 := Nat.le_trans hszw hb2.size
        have C := hF.out ss w2 hss (hM.out.below HB2.out)
        rw [hw2] at C
        replace C := hid C
        replace hw2 := hid hw2
        clear hb2
        go_wp2_with fail
        refine (C.out).mono ?_
        rw [← hw2.out]
        rintro e w3 ⟨rfl, hb3⟩
        have hown3 := owns_below HO2.out hb3
        have HB3 := hid (below_trans HB2.out hb3)
        have hsz3 := Nat.le_trans hsz2 hb3.size
        clear hb3 C hw2
        unfold strV at HT
        go_wp2_with (at_builtin; refine wpList_push strSlice rfl _ _ rfl w.heap.size (w0 := w3) hown3 rfl rfl rfl (by unfold maxLen; omega) (by omega) hsz3 ?_; intro v' w4 hown' hb')
        rw [← HT.out] at hown'
        have HOW := hid hown'
        have HB4 := hid (HB3.out.trans hb')
        clear hown' hb' hown3
        go_wp2_with fail
        go_roundw
        case rel => exact ⟨k + 1, by go_num, by omega, HOW.out, HB4.out⟩
        case measure => simp [intOf]; omega

end Go.Proofs.YtldhebpkplglcaaGreatDoor

namespace Go.Proofs.YtldhebpkplglcaaGreatDoor
open Go.RowKit

/-- A value in a block of its own. -/
structure BoxA (w : World) (b : Nat) (kind : Int) (g : Bool) (a : Option Addr) (n c : Nat) (e : Int) (sb : ByteArray) (aa : Option Addr) (an ac : Nat) (oa : Option Addr) (on oc : Nat) : Prop where
  h : w.heap[b]? = some (.cells #[.int .i64 kind, .bool g, .slice a n c, .int .i64 e, .string sb, .slice aa an ac, .slice oa on oc] 28 (0, 0))
section
variable {w w' : World} {b : Nat} {kind : Int} {g : Bool} {a : Option Addr} {n c : Nat} {e : Int} {sb : ByteArray} {aa : Option Addr} {an ac : Nat} {oa : Option Addr} {on oc : Nat}
theorem BoxA.lt (h : BoxA w b kind g a n c e sb aa an ac oa on oc) : b < w.heap.size := (Array.getElem?_eq_some_iff.1 h.h).1
theorem BoxA.stay (h : BoxA w b kind g a n c e sb aa an ac oa on oc) (hb : Below w.heap.size w w') : BoxA w' b kind g a n c e sb aa an ac oa on oc := ⟨(hb.block b h.lt).trans h.h⟩
theorem BoxA.cells (h : BoxA w b kind g a n c e sb aa an ac oa on oc) : w.cell? ⟨b, 0, none⟩ = some (.int .i64 kind) ∧ w.cell? ⟨b, 1, none⟩ = some (.bool g) ∧ w.cell? ⟨b, 2, none⟩ = some (.slice a n c) ∧ w.cell? ⟨b, 3, none⟩ = some (.int .i64 e) ∧
    w.cell? ⟨b, 4, none⟩ = some (.string sb) ∧ w.cell? ⟨b, 5, none⟩ = some (.slice aa an ac) ∧ w.cell? ⟨b, 6, none⟩ = some (.slice oa on oc) := by
  refine ⟨?_, ?_, ?_, ?_, ?_, ?_, ?_⟩ <;> (rw [Lib.cell_of_heap h.h]; rfl)
end

set_option maxRecDepth 100000 in
set_option maxHeartbeats 1600000 in
theorem table_csv (arr : List JV) (g : Bool) (a : Option Addr) (n c : Nat) (e : Int) (s : List UInt8) (aa : Option Addr) (ac : Nat) (oa : Option Addr) (on oc : Nat) (w : World) (hR : RdA w aa arr) (hM : Mx w) (hn : arr.length ≤ 1048576) (hk : ∀ x ∈ arr, (x.kind = 0 ∨ x.kind = 4) ∧ x.s.length ≤ 1048576)
    (hl : (Lib.join (arr.map (itemL [] (quoL 34 [34, 34]))) [44]).length ≤ 140737488355328) :
    Calls Tryz.prog 20 #[.string ⟨#[64, 99, 115, 118]⟩, .agg (valCs 5 g a n c e s aa arr.length ac oa on oc).toArray] w fun en w' => en = .returned (.tuple #[.string ⟨(Lib.join (arr.map (itemL [] (quoL 34 [34, 34]))) [44]).toArray⟩, .int .i64 0]) ∧ Below w.heap.size w w' := by
  have C := fun W (hR : RdA W aa arr) (hM : Mx W) => format_row 45 (run_callFunc Tryz.func45 (by kernel_rfl) (by kernel_rfl)) (quoL 34 [34, 34]) (fun s W h1 h2 => format_csv s W h1 h2) arr aa ac [44] [] W hR hM hn hk hl
  clear hk hl hn
  generalize Lib.join (arr.map (itemL [] (quoL 34 [34, 34]))) [44] = T at *
  generalize arr.length = an at *
  have hRA := hid hR
  have hMM := hid hM
  replace C := hid C
  clear hR hM
  unfold valCs strV
  generalize (⟨s.toArray⟩ : ByteArray) = sb at *
  go_enter Tryz.func20, Tryz.ntmps20
  go_wp2_with fail
  have hAl : Below w.heap.size w (w.alloc (.cells #[.int .i64 5, .bool g, .slice a n c, .int .i64 e, .string sb, .slice aa an ac, .slice oa on oc] 28)) := (Below.refl _ w).alloc (Nat.le_refl _) _
  refine (C.out _ (hRA.out.below hAl) (hMM.out.below hAl)).mono ?_
  rintro en w1 ⟨rfl, hb1⟩
  have HB1 := hid (below_trans hAl hb1)
  clear hb1 hAl
  go_wp2_with fail
  go_ret2
  exact ⟨rfl, HB1.out⟩

set_option maxRecDepth 100000 in
set_option maxHeartbeats 1600000 in
theorem apply_csv (arr : List JV) (g : Bool) (a : Option Addr) (n c : Nat) (e : Int) (s : List UInt8) (aa : Option Addr) (ac : Nat) (oa : Option Addr) (on oc : Nat) (v : JV) (w : World) (hR : RdA w aa arr) (hM : Mx w) (hT : Tabs w) (hn : arr.length ≤ 1048576) (hk : ∀ x ∈ arr, (x.kind = 0 ∨ x.kind = 4) ∧ x.s.length ≤ 1048576)
    (hl : (Lib.join (arr.map (itemL [] (quoL 34 [34, 34]))) [44]).length ≤ 140737488355328) (hV : RdV w (valCs 5 g a n c e s aa arr.length ac oa on oc) v) (hmay : mayJ 200 v = true) :
    Calls Tryz.prog 6 #[.string ⟨#[64, 99, 115, 118]⟩, .agg (valCs 5 g a n c e s aa arr.length ac oa on oc).toArray] w fun en w' => en = .returned (.tuple #[.string ⟨(Lib.join (arr.map (itemL [] (quoL 34 [34, 34]))) [44]).toArray⟩, .int .i64 0]) ∧ Below w.heap.size w w' := by
  have hMay := fun W (hb : Below w.heap.size w W) => value_May v _ W (hV.stay hb) (hT.below hb)
  rw [hmay] at hMay
  have C := fun W (hb : Below w.heap.size w W) => table_csv arr g a n c e s aa ac oa on oc W (hR.below hb) (hM.below hb) hn hk hl
  clear hk hl hn hR hM hV
  generalize Lib.join (arr.map (itemL [] (quoL 34 [34, 34]))) [44] = T at *
  generalize arr.length = an at *
  unfold valCs strV at *
  generalize (⟨s.toArray⟩ : ByteArray) = sb at *
  replace C := hid C
  replace hMay := hid hMay
  go_enter Tryz.func6, Tryz.ntmps6
  go_wp2_with fail
  have hAl : Below w.heap.size w (w.alloc (.cells #[.int .i64 5, .bool g, .slice a n c, .int .i64 e, .string sb, .slice aa an ac, .slice oa on oc] 28)) := (Below.refl _ w).alloc (Nat.le_refl _) _
  have hBox : BoxA (w.alloc (.cells #[.int .i64 5, .bool g, .slice a n c, .int .i64 e, .string sb, .slice aa an ac, .slice oa on oc] 28)) w.heap.size 5 g a n c e sb aa an ac oa on oc := ⟨heap_alloc_new w _⟩
  refine (hMay.out _ hAl).mono ?_
  rintro en w1 ⟨rfl, hb1⟩
  replace hBox := hBox.stay hb1
  have HB1 := hid (below_trans hAl hb1)
  obtain ⟨c0, c1, c2, c3, c4, c5, c6⟩ := hBox.cells
  clear hBox hAl hb1
  go_wp2_with fail
  refine (C.out _ HB1.out).mono ?_
  rintro en w2 ⟨rfl, hb2⟩
  have HB2 := hid (below_trans HB1.out hb2)
  clear hb2 c0 c1 c2 c3 c4 c5 c6
  go_wp2_with fail
  go_ret2
  exact ⟨rfl, HB2.out⟩

set_option maxRecDepth 100000 in
set_option maxHeartbeats 1600000 in
theorem apply_sh (s : List UInt8) (hs : s.length ≤ 1048576) (hv : soundB s = true) (w : World) (hT : Tabs w) (hM : Mx w) :
    Calls Tryz.prog 6 #[.string ⟨#[64, 115, 104]⟩, .agg (txtCs s).toArray] w fun e w' => e = .returned (.tuple #[.string ⟨(quoL 39 [39, 92, 39, 39] s).toArray⟩, .int .i64 0]) ∧ Below w.heap.size w w' := by
  have hMay := fun W (hW : Tabs W) => value_May (JV.txt s) (txtCs s) W (txt_rd s W (by omega)) hW
  rw [txt_may, hv] at hMay
  have hq : (quoL 39 [39, 92, 39, 39] s).length ≤ 140737488355328 := by
    have := swap_len 39 [39, 92, 39, 39] s
    unfold quoL
    simp only [List.length_append, List.length_cons, List.length_nil] at this ⊢
    omega
  have C := fun (W : World) (b : Nat) (hc : CellsAt W (some ⟨b, 0, none⟩) 0 (txtCs s)) (hM : Mx W) => format_row 22 (run_callFunc Tryz.func22 (by kernel_rfl) (by kernel_rfl)) (quoL 39 [39, 92, 39, 39]) (fun s W h1 h2 => format_sh s W h1 h2) [JV.txt s] (some ⟨b, 0, none⟩) 1 [32] [110, 117, 108, 108] W (by
    intro i x hx
    cases i with
    | zero => obtain rfl : JV.txt s = x := by simpa using hx
              exact ⟨_, hc, txt_rd s W (by omega)⟩
    | succ i => simp at hx) hM (by simp) (by intro x hx; simp at hx; subst hx; exact ⟨Or.inr rfl, hs⟩) (by
      rw [show [JV.txt s].map (itemL [110, 117, 108, 108] (quoL 39 [39, 92, 39, 39])) = [quoL 39 [39, 92, 39, 39] s] from rfl, Lib.join_one]; exact hq)
  rw [show [JV.txt s].map (itemL [110, 117, 108, 108] (quoL 39 [39, 92, 39, 39])) = [quoL 39 [39, 92, 39, 39] s] from rfl, Lib.join_one] at C
  generalize quoL 39 [39, 92, 39, 39] s = T at *
  clear hq
  unfold txtCs strV at *
  generalize (⟨s.toArray⟩ : ByteArray) = sb at *
  replace C := hid C
  replace hMay := hid hMay
  have hTw := hid hT
  have hMw := hid hM
  clear hT hM
  go_enter Tryz.func6, Tryz.ntmps6
  go_wp2_with fail
  have hBox : BoxT (w.alloc (.cells #[.int .i64 4, .bool false, .slice none 0 0, .int .i64 0, .string sb, .slice none 0 0, .slice none 0 0] 28)) w.heap.size sb := ⟨heap_alloc_new w _⟩
  have hAl : Below w.heap.size w (w.alloc (.cells #[.int .i64 4, .bool false, .slice none 0 0, .int .i64 0, .string sb, .slice none 0 0, .slice none 0 0] 28)) := (Below.refl _ w).alloc (Nat.le_refl _) _
  refine (hMay.out _ (hTw.out.below hAl)).mono ?_
  rintro e w1 ⟨rfl, hb1⟩
  replace hBox := hBox.stay hb1
  have HB1 := hid (below_trans hAl hb1)
  obtain ⟨c0, c1, c2, c3, c4, c5, c6⟩ := hBox.cells
  have hlt := hBox.lt
  clear hBox hAl hb1
  go_wp2_with fail
  have hC7 : CellsAt (w1.alloc (.cells #[.int .i64 4, .bool false, .slice none 0 0, .int .i64 0, .string sb, .slice none 0 0, .slice none 0 0] 28)) (some ⟨w1.heap.size, 0, none⟩) 0 [.int .i64 4, .bool false, .slice none 0 0, .int .i64 0, .string sb, .slice none 0 0, .slice none 0 0] := by
    refine ⟨_, _, rfl, fun j v hj => ?_⟩
    rw [Lib.cell_of_heap (heap_alloc_new w1 _)]
    simpa using hj
  have hAl : Below w.heap.size w (w1.alloc (.cells #[.int .i64 4, .bool false, .slice none 0 0, .int .i64 0, .string sb, .slice none 0 0, .slice none 0 0] 28)) := HB1.out.alloc (Nat.le_of_lt hlt) _
  refine (C.out _ _ hC7 (hMw.out.below hAl)).mono ?_
  rintro e w2 ⟨rfl, hb2⟩
  have HB2 := hid (below_trans hAl hb2)
  clear hb2 hC7 hAl c0 c1 c2 c3 c4 c5 c6
  go_wp2_with fail
  go_ret2
  exact ⟨rfl, HB2.out⟩

end Go.Proofs.YtldhebpkplglcaaGreatDoor
