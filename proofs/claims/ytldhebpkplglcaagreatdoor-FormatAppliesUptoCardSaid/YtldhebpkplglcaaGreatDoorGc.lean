/- Things with commas between. Plain. JSON, as it is written. Plain. emit.writer: line, text, at the empty style. emit.writer.group at the empty style. emit.writer.value at a value without parts. emit.writer.value at a number. emit.writer.value: the closure that writes an item. emit.writer.value at a list: over its items' contract. emit.writer.value: the closure that writes a field. emit.writer.value at fields: over the fields' contract. -/
import Derived.Test.YtldhebpkplglcaaGreatDoorEscP
import Derived.Test.YtldhebpkplglcaaGreatDoorMj
import Derived.Test.YtldhebpkplglcaaGreatDoorMc
import Derived.Test.YtldhebpkplglcaaGreatDoorGb
import Derived.Test.YtldhebpkplglcaaGreatDoorMl
namespace Go.Proofs.YtldhebpkplglcaaGreatDoor
/-- Things with commas between. -/
def commaL : List (List UInt8) → List UInt8
  | [] => []
  | [x] => x
  | x :: l => x ++ 44 :: commaL l
theorem commaL_snoc (x : List UInt8) : ∀ l : List (List UInt8), commaL (l ++ [x]) = commaL l ++ (if l = [] then [] else [44]) ++ x
  | [] => by simp [commaL]
  | [y] => by simp [commaL]
  | y :: z :: l => by
    have h := commaL_snoc x (z :: l)
    show y ++ 44 :: commaL (z :: (l ++ [x])) = (y ++ 44 :: commaL (z :: l)) ++ (if y :: z :: l = [] then [] else [44]) ++ x
    rw [show z :: (l ++ [x]) = (z :: l) ++ [x] from rfl, h]
    simp
theorem commaL_grow (a : List (List UInt8)) : ∀ b : List (List UInt8), (commaL a).length ≤ (commaL (a ++ b)).length
  | [] => by simp
  | x :: b => by
    have h := commaL_grow (a ++ [x]) b
    rw [commaL_snoc] at h
    simp only [List.length_append, List.append_assoc, List.singleton_append] at h
    omega
theorem commaL_take (l : List (List UInt8)) (i : Nat) (hi : i < l.length) : commaL (l.take (i + 1)) = commaL (l.take i) ++ (if i = 0 then [] else [44]) ++ l[i] := by
  rw [List.take_succ_eq_append_getElem hi, commaL_snoc]
  by_cases h : i = 0
  · subst h; simp
  · rw [if_neg h, if_neg (fun e => by have := congrArg List.length e; rw [List.length_take, List.length_nil] at this; omega)]
theorem commaL_take_le (l : List (List UInt8)) (i : Nat) : (commaL (l.take i)).length ≤ (commaL l).length := by
  have h := commaL_grow (l.take i) (l.drop i)
  rwa [List.take_append_drop] at h

end Go.Proofs.YtldhebpkplglcaaGreatDoor

namespace Go.Proofs.YtldhebpkplglcaaGreatDoor

def nullT : List UInt8 := [110, 117, 108, 108]
def falseT : List UInt8 := [102, 97, 108, 115, 101]
def trueT : List UInt8 := [116, 114, 117, 101]
/-- A value in one line, so many levels down. -/
def jsonJ : Nat → JV → List UInt8
  | f, v => if v.kind = 0 then nullT else if v.kind = 1 then falseT else if v.kind = 2 then trueT else if v.kind = 3 then textL (dOf v) else if v.kind = 4 then quoteA false v.s
    else match f with
      | 0 => if v.kind = 5 then [91, 93] else [123, 125]
      | f + 1 => if v.kind = 5 then 91 :: (commaL (v.arr.map (jsonJ f)) ++ [93]) else 123 :: (commaL (v.obj.map fun p => quoteA false p.1 ++ 58 :: jsonJ f p.2) ++ [125])

end Go.Proofs.YtldhebpkplglcaaGreatDoor

namespace Go.Proofs.YtldhebpkplglcaaGreatDoor
open Go.RowKit

/-- The writer's cells behind its buffer, at the empty style. -/
def wR (op : Int) (i : Nat) : Option Value := (#[.int .i64 0, .bool false, .bool false, .bool false, .string ⟨#[]⟩, .int .i64 op] : Array Value)[i - 3]?
/-- The writer in block b: what it has written, and how deep it stands. -/
def Wri (B b : Nat) (l : List UInt8) (op : Int) (w : World) : Prop := LibA.IsBuffer 109 (wR op) 5 B b 0 (Lib.byteCells l) w
def Kept (B b : Nat) (w w' : World) : Prop := Below B w w' ∧ Lib.OthersKept 5 (some b) w w'
theorem Wri.cell {B b : Nat} {l : List UInt8} {op : Int} {w : World} (h : Wri B b l op w) (i : Nat) (hi : 3 ≤ i) : w.cell? ⟨b, i, none⟩ = wR op i := by
  obtain ⟨_, v, lr, h3, _⟩ := h
  exact h3.rest i (Or.inr (by omega))

set_option maxRecDepth 100000 in
set_option maxHeartbeats 800000 in
theorem emit_line (B b : Nat) (l : List UInt8) (op : Int) (w : World) (h : Wri B b l op w) :
    Calls Tryz.prog 148 #[.pointer (some ⟨b, 0, none⟩)] w fun e w' => e = .returned (.tuple #[]) ∧ w' = w := by
  have c7 : w.cell? ⟨b, 7, none⟩ = some (.string ⟨#[]⟩) := h.cell 7 (by omega)
  replace h := hid h
  go_enter Tryz.func148, Tryz.ntmps148
  go_wp2_with fail
  refine bodyPost_ret (v := .tuple #[]) (by simp [results, Tryz.results148]) rfl ?_
  exact ⟨rfl, rfl⟩

theorem oneCell_bytes (l : List UInt8) : ∀ v ∈ Lib.byteCells l, v.oneCell' = true := by
  intro v hv
  unfold Lib.byteCells at hv
  obtain ⟨c, _, rfl⟩ := List.mem_map.1 hv
  rfl

set_option maxRecDepth 100000 in
set_option maxHeartbeats 800000 in
theorem emit_text (B b : Nat) (l s : List UInt8) (op : Int) (w : World) (h : Wri B b l op w) (hB : B ≤ w.heap.size) (hs : s.length ≤ 1099511627776) (hl : l.length + (quoteA false s).length ≤ 140737488355328) (hT : Tabs w) :
    Calls Tryz.prog 93 #[.pointer (some ⟨b, 0, none⟩), .string ⟨s.toArray⟩] w fun e w' => e = .returned (.tuple #[]) ∧ Wri B b (l ++ quoteA false s) op w' ∧ Kept B b w w' := by
  have c6 : w.cell? ⟨b, 6, none⟩ = some (.bool false) := h.cell 6 (by omega)
  have C := hid fun (w1 : World) (hb : Below w.heap.size w w1) => quote_Quote s w1 hs (hT.below hb)
  replace h := hid h
  have HW := hid fun (w1 : World) (hb : Below w.heap.size w w1) => Tryz.Buffer_WriteString_at 109 (wR op) B b 0 (Lib.byteCells l) ⟨(quoteA false s).toArray⟩ w1 (h.out.old hb) (Nat.le_trans hB hb.size) (oneCell_bytes l) (by rw [Lib.byteCells_length]; exact hl)
  go_enter Tryz.func93, Tryz.ntmps93
  go_wp2_with fail
  go_region_law (first | (go_simp; go_at_call 147; refine (C.out _ (by first | exact Below.refl _ _ | exact (Below.refl _ _).drew | exact below_drewN (Below.refl _ _) _)).mono ?_; rintro e w1 ⟨rfl, hb1⟩; have hb3 : Below w.heap.size w w1 := by first | exact hb1 | exact (Below.refl _ _).drew.trans hb1 | exact (below_drewN (Below.refl _ _) _).trans hb1) | (go_simp; go_at_call 91; refine (HW.out _ (by first | exact hb3 | exact hb3.drew | exact below_drewN hb3 _)).mono ?_; rintro e w2 ⟨rfl, hI, hb2, hk2⟩))
  all_goals
    have HI := hid hI
    have HB2 := hid (show Below B w w2 from (hb3.mono hB).trans hb2)
    have HK2 := hid (show Lib.OthersKept 5 (some b) w w2 from ((Lib.OthersKept.refl _ _ w).below hb3).trans hk2)
    clear hI hb2 hk2 hb1 hb3 HW C
    go_wp2_with fail
    refine bodyPost_end (v := .tuple #[]) (by simp [results, Tryz.results93]) rfl ?_
    refine ⟨rfl, ?_, HB2.out, HK2.out⟩
    show LibA.IsBuffer _ _ _ _ _ _ _ _
    rw [Lib.byteCells_append]
    exact HI.out

end Go.Proofs.YtldhebpkplglcaaGreatDoor

namespace Go.Proofs.YtldhebpkplglcaaGreatDoor
open Go.RowKit

theorem Wri.old {B b : Nat} {l : List UInt8} {op : Int} {w w' : World} (h : Wri B b l op w) (hb : Below w.heap.size w w') : Wri B b l op w' := LibA.IsBuffer.old h hb
/-- How deep the writer stands, set. -/
theorem Wri.setOpen {B b : Nat} {l : List UInt8} {op : Int} {w : World} (h : Wri B b l op w) (q : Int) : Wri B b l q (w.setCell ⟨b, 8, none⟩ (.int .i64 q)) := by
  obtain ⟨hB, v, lr, ⟨cs, hb, h0, h1, h2, hr⟩, hown, hne⟩ := h
  have h8 : cs[8]? = some (.int .i64 op) := hr 8 (Or.inr (by omega))
  have hlt : 8 < cs.size := (Array.getElem?_eq_some_iff.1 h8).1
  refine ⟨hB, v, lr, ⟨_, Lib.heap_setCell_same (i := 8) hb _, ?_, ?_, ?_, ?_⟩, hown.kept (Lib.grownBy_setCell w b 8 _) (Or.inr hne), hne⟩
  · rw [Array.getElem?_setIfInBounds_ne (by omega)]; exact h0
  · rw [Array.getElem?_setIfInBounds_ne (by omega)]; exact h1
  · rw [Array.getElem?_setIfInBounds_ne (by omega)]; exact h2
  · intro i hi
    by_cases h8i : i = 8
    · subst h8i
      rw [Array.getElem?_setIfInBounds_self_of_lt hlt]
      rfl
    · rw [Array.getElem?_setIfInBounds_ne (by omega), hr i hi]
      unfold wR
      match i, hi, h8i with
      | 3, _, _ => rfl
      | 4, _, _ => rfl
      | 5, _, _ => rfl
      | 6, _, _ => rfl
      | 7, _, _ => rfl
      | (j + 9), _, _ => simp

set_option maxRecDepth 100000 in
set_option maxHeartbeats 1600000 in
theorem emit_group (B b : Nat) (l : List UInt8) (op : Int) (o c : UInt8) (items : List (List UInt8)) (F : Nat) (x y : Value) (w : World) (h : Wri B b l op w) (hB : B ≤ w.heap.size) (hl : l.length + (commaL items).length + 2 ≤ 140737488355328) (hop : 0 ≤ op) (hop2 : op ≤ 1048576) (hn : items.length ≤ 9223372036854775807)
    (hcall : ∀ args w, (callFunc F args).run Tryz.prog w = .ok (.enter F args) w)
    (hcl : ∀ (i : Nat) (l' : List UInt8) (w' : World) (hi : i < items.length), Wri B b l' (op + 1) w' → Kept B b w w' → l'.length + items[i].length ≤ l.length + (commaL items).length + 1 →
      Calls Tryz.prog F #[.int .i64 i, x, y] w' fun e w'' => e = .returned (.tuple #[]) ∧ Wri B b (l' ++ items[i]) (op + 1) w'' ∧ Kept B b w' w'') :
    Calls Tryz.prog 94 #[.pointer (some ⟨b, 0, none⟩), .int .u8 o.toNat, .int .u8 c.toNat, .int .i64 items.length, .func (.func F) #[] #[x, y]] w fun e w' => e = .returned (.tuple #[]) ∧ Wri B b (l ++ o :: (commaL items ++ [c])) op w' ∧ Kept B b w w' := by
  have CO := hid (Tryz.Buffer_WriteByte_at 109 (wR op) B b 0 (Lib.byteCells l) o.toNat w h hB (oneCell_bytes l) (by rw [Lib.byteCells_length]; omega))
  have hBb : B ≤ b := h.1
  replace h := hid h
  replace hcl := hid hcl
  obtain ⟨n, hnn⟩ : ∃ n, n = items.length := ⟨_, rfl⟩
  rw [← hnn]
  replace hn : n ≤ 9223372036854775807 := by omega
  replace hnn := hid hnn
  go_enter Tryz.func94, Tryz.ntmps94
  go_wp2_with fail
  refine CO.out.mono ?_
  rintro e w1 ⟨rfl, hI, hb1, hk1⟩
  have hI2 : Wri B b (l ++ [o]) op w1 := by
    show LibA.IsBuffer _ _ _ _ _ _ _ _
    rw [Lib.byteCells_append]
    exact hI
  have c8 : w1.cell? ⟨b, 8, none⟩ = some (.int .i64 op) := hI2.cell 8 (by omega)
  have f8 : w1.frozen? ⟨b, 8, none⟩ = false := by obtain ⟨_, v, lr, h3, _⟩ := hI2; exact h3.f 8
  have HI := hid (hI2.setOpen (op + 1))
  have HK := hid (show Kept B b w (w1.setCell ⟨b, 8, none⟩ (.int .i64 (op + 1))) from ⟨hb1.setCell (p := ⟨b, 8, none⟩) hBb _, hk1.setCell _ rfl _⟩)
  clear hI hI2 hb1 hk1 CO
  go_wp2_with fail
  generalize w1.setCell ⟨b, 8, none⟩ (.int .i64 (op + 1)) = w2 at *
  clear c8 f8
  go_loopw [24] (fun v wr => ∃ i : Nat, i ≤ n ∧ v = .int .i64 i ∧ Hid (Wri B b (l ++ o :: commaL (items.take i)) (op + 1) wr) ∧ Hid (Kept B b w wr)) (fun v _ => n - (intOf v).toNat)
  case atStart => exact ⟨0, by omega, rfl, hid (by simpa [commaL] using HI.out), HK⟩
  case round =>
    obtain ⟨i, hi, rfl, hw, hk⟩ := hrel
    have hBr := Nat.le_trans hB hk.out.1.size
    by_cases hin : i = n
    · subst hin
      have hlt : ¬ (i : Int) < i := by omega
      have c8 : wr.cell? ⟨b, 8, none⟩ = some (.int .i64 (op + 1)) := hw.out.cell 8 (by omega)
      have f8 : wr.frozen? ⟨b, 8, none⟩ = false := by obtain ⟨_, v, lr, h3, _⟩ := hw.out; exact h3.f 8
      have HW := hw.out.setOpen op
      rw [hnn.out, List.take_length] at HW
      have hB3 : B ≤ (wr.setCell ⟨b, 8, none⟩ (.int .i64 op)).heap.size := by simpa [World.setCell] using hBr
      have HK3 := hid (show Kept B b w (wr.setCell ⟨b, 8, none⟩ (.int .i64 op)) from ⟨hk.out.1.setCell (p := ⟨b, 8, none⟩) hBb _, hk.out.2.setCell _ rfl _⟩)
      have CL := hid (emit_line B b _ op _ HW)
      have CB := hid (Tryz.Buffer_WriteByte_at 109 (wR op) B b 0 (Lib.byteCells (l ++ o :: commaL items)) c.toNat _ HW hB3 (oneCell_bytes _) (by rw [Lib.byteCells_length]; simp; omega))
      have hop1 : op + 1 - 1 = op := by omega
      have fin : ∀ w5, LibA.IsBuffer 109 (wR op) 5 B b 0 (Lib.byteCells (l ++ o :: commaL items) ++ [.int .u8 c.toNat]) w5 → Wri B b (l ++ o :: (commaL items ++ [c])) op w5 := by
        intro w5 h5
        show LibA.IsBuffer _ _ _ _ _ _ _ _
        rw [show l ++ o :: (commaL items ++ [c]) = (l ++ o :: commaL items) ++ [c] by simp, Lib.byteCells_append]
        exact h5
      replace fin := hid fin
      clear hw hk HW hB3 hcl hcall h
      by_cases hz : i = 0
      · subst hz
        go_wp2_with fail
        refine CB.out.mono ?_
        rintro e w4 ⟨rfl, hI4, hb4, hk4⟩
        have HR := hid (show Wri B b (l ++ o :: (commaL items ++ [c])) op w4 ∧ Kept B b w w4 from ⟨fin.out _ hI4, HK3.out.1.trans hb4, HK3.out.2.trans hk4⟩)
        clear hI4 hb4 hk4 CB
        go_wp2_with fail
        refine bodyPost_end (v := .tuple #[]) (by simp [results, Tryz.results94]) rfl ?_
        exact ⟨rfl, HR.out⟩
      · have hz1 : (0 : Int) < i := by omega
        go_wp2_with fail
        refine CL.out.mono ?_
        rintro e w4 ⟨rfl, rfl⟩
        go_wp2_with fail
        refine CB.out.mono ?_
        rintro e w4 ⟨rfl, hI4, hb4, hk4⟩
        have HR := hid (show Wri B b (l ++ o :: (commaL items ++ [c])) op w4 ∧ Kept B b w w4 from ⟨fin.out _ hI4, HK3.out.1.trans hb4, HK3.out.2.trans hk4⟩)
        clear hI4 hb4 hk4 CB
        go_wp2_with fail
        refine bodyPost_end (v := .tuple #[]) (by simp [results, Tryz.results94]) rfl ?_
        exact ⟨rfl, HR.out⟩
    · have hlt : (i : Int) < n := by omega
      have hin2 : i < items.length := by have := hnn.out; omega
      have ht := commaL_take items i hin2
      have htl := commaL_take_le items (i + 1)
      have CC := hid fun (w' : World) (l' : List UInt8) (hW : Wri B b l' (op + 1) w') (hK : Kept B b w w') (hL : l'.length + items[i].length ≤ l.length + (commaL items).length + 1) => hcl.out i l' w' hin2 hW hK hL
      have hwr : IntKind.i64.wrap ((i : Int) + 1) = (i : Int) + 1 := IntWalk.i64_in _ (by omega)
      by_cases h0 : i = 0
      · subst h0
        rw [if_pos rfl] at ht
        have CL := hid (emit_line B b _ (op + 1) wr hw.out)
        have CT := hid (CC.out wr _ hw.out hk.out (by have := congrArg List.length ht; simp [commaL] at this htl ⊢; omega))
        have hk0 := hid hk.out
        replace ht := hid ht
        replace htl := hid htl
        clear CC hcl hw hk
        go_wp2_with fail
        refine CL.out.mono ?_
        rintro e w4 ⟨rfl, rfl⟩
        go_wp2_with fail
        refine CT.out.mono ?_
        rintro e w5 ⟨rfl, hW5, hk5⟩
        have HW5 := hid hW5
        have HK5 := hid (show Kept B b w w5 from ⟨hk0.out.1.trans hk5.1, hk0.out.2.trans hk5.2⟩)
        clear hW5 hk5 CT
        go_wp2_with fail
        go_roundw
        case rel => exact ⟨1, by omega, by first | rfl | go_num, hid (by rw [ht.out]; simpa using HW5.out), HK5⟩
        case measure => simp [intOf]; omega
      · have h0' : (0 : Int) < i := by omega
        rw [if_neg h0] at ht
        have hlen := congrArg List.length ht
        simp only [List.length_append, List.length_singleton] at hlen
        have CW := hid (Tryz.Buffer_WriteByte_at 109 (wR (op + 1)) B b 0 (Lib.byteCells (l ++ o :: commaL (items.take i))) 44 wr hw.out hBr (oneCell_bytes _) (by rw [Lib.byteCells_length]; simp; omega))
        have hk0 := hid hk.out
        have hln : (l ++ o :: commaL (items.take i) ++ [44]).length + items[i].length ≤ l.length + (commaL items).length + 1 := by simp; omega
        replace hln := hid hln
        replace ht := hid ht
        replace htl := hid htl
        replace hlen := hid hlen
        clear hcl hw hk
        go_wp2_with fail
        refine CW.out.mono ?_
        rintro e w3 ⟨rfl, hI3, hb3, hk3⟩
        have hW3 : Wri B b (l ++ o :: commaL (items.take i) ++ [44]) (op + 1) w3 := by
          show LibA.IsBuffer _ _ _ _ _ _ _ _
          rw [Lib.byteCells_append]
          exact hI3
        have hK3 : Kept B b w w3 := ⟨hk0.out.1.trans hb3, hk0.out.2.trans hk3⟩
        have CL := hid (emit_line B b _ (op + 1) w3 hW3)
        have CT := hid (CC.out w3 _ hW3 hK3 hln.out)
        replace hK3 := hid hK3
        clear hI3 hb3 hk3 hW3 CC CW
        go_wp2_with fail
        refine CL.out.mono ?_
        rintro e w4 ⟨rfl, rfl⟩
        go_wp2_with fail
        refine CT.out.mono ?_
        rintro e w5 ⟨rfl, hW5, hk5⟩
        have HW5 := hid hW5
        have HK5 := hid (show Kept B b w w5 from ⟨hK3.out.1.trans hk5.1, hK3.out.2.trans hk5.2⟩)
        clear hW5 hk5 CT
        go_wp2_with fail
        go_roundw
        case rel => exact ⟨i + 1, by omega, by go_num, hid (by rw [ht.out]; simpa using HW5.out), HK5⟩
        case measure => simp [intOf]; omega

end Go.Proofs.YtldhebpkplglcaaGreatDoor

namespace Go.Proofs.YtldhebpkplglcaaGreatDoor
open Go.RowKit

theorem Kept.refl (B b : Nat) (w : World) : Kept B b w w := ⟨Below.refl _ _, Lib.OthersKept.refl _ _ _⟩
theorem Kept.trans {B b : Nat} {u v w : World} (h : Kept B b u v) (k : Kept B b v w) : Kept B b u w := ⟨h.1.trans k.1, h.2.trans k.2⟩
theorem Kept.alloc {B b : Nat} {u w : World} (h : Kept B b u w) (hB : B ≤ w.heap.size) (o : Obj) : Kept B b u (w.alloc o) := ⟨h.1.alloc hB o, h.2.alloc o⟩
theorem Kept.below {B b : Nat} {u w w' : World} (h : Kept B b u w) (hB : B ≤ w.heap.size) (hb : Below w.heap.size w w') : Kept B b u w' := ⟨h.1.trans (hb.mono hB), h.2.below hb⟩
theorem Wri.write {B b : Nat} {l : List UInt8} {op : Int} {w : World} (h : Wri B b l op w) (hB : B ≤ w.heap.size) (t : List UInt8) (hl : l.length + t.length ≤ 140737488355328) :
    Calls Tryz.prog 91 #[.pointer (some ⟨b, 0, none⟩), .string ⟨t.toArray⟩] w fun e w' => e = .returned (.tuple #[.int .i64 t.length, .nilIface]) ∧ Wri B b (l ++ t) op w' ∧ Kept B b w w' := by
  refine (Tryz.Buffer_WriteString_at 109 (wR op) B b 0 (Lib.byteCells l) ⟨t.toArray⟩ w h hB (oneCell_bytes l) (by rw [Lib.byteCells_length]; exact hl)).mono ?_
  rintro e w' ⟨rfl, hI, hb, hk⟩
  refine ⟨rfl, ?_, hb, hk⟩
  show LibA.IsBuffer _ _ _ _ _ _ _ _
  rw [Lib.byteCells_append]
  exact hI

set_option maxRecDepth 100000 in
set_option maxHeartbeats 1600000 in
theorem emit_value0 (B b : Nat) (l : List UInt8) (op : Int) (x1 x2 x3 x4 x5 x6 : Value) (w : World) (h : Wri B b l op w) (hB : B ≤ w.heap.size) (hl : l.length + 5 ≤ 140737488355328) :
    Calls Tryz.prog 60 #[.pointer (some ⟨b, 0, none⟩), .agg #[.int .i64 0, x1, x2, x3, x4, x5, x6]] w fun e w' => e = .returned (.tuple #[]) ∧ Wri B b (l ++ nullT) op w' ∧ Kept B b w w' := by
  obtain ⟨W, hW⟩ : ∃ W, W = (w.alloc (.cells #[.pointer (some ⟨b, 0, none⟩)] 101)).alloc (.cells #[.int .i64 0, x1, x2, x3, x4, x5, x6] 28) := ⟨_, rfl⟩
  have hbel : Below w.heap.size w W := by rw [hW]; exact ((Below.refl _ w).alloc (Nat.le_refl _) _).alloc (by simp) _
  have CW := hid ((h.old hbel).write (Nat.le_trans hB hbel.size) nullT (by show l.length + 4 ≤ _; omega))
  have HK := hid ((Kept.refl B b w).below hB hbel)
  replace h := hid h
  replace hW := hid hW
  clear hbel
  go_enter Tryz.func60, Tryz.ntmps60
  go_wp2_with fail
  rw [← hW.out]
  refine CW.out.mono ?_
  rintro e w4 ⟨rfl, hw4, hk4⟩
  have HR := hid (And.intro hw4 (HK.out.trans hk4))
  clear hw4 hk4 CW
  go_wp2_with fail
  refine bodyPost_end (v := .tuple #[]) (by simp [results, Tryz.results60]) rfl ?_
  exact ⟨rfl, HR.out⟩

set_option maxRecDepth 100000 in
set_option maxHeartbeats 1600000 in
theorem emit_value1 (B b : Nat) (l : List UInt8) (op : Int) (x1 x2 x3 x4 x5 x6 : Value) (w : World) (h : Wri B b l op w) (hB : B ≤ w.heap.size) (hl : l.length + 5 ≤ 140737488355328) :
    Calls Tryz.prog 60 #[.pointer (some ⟨b, 0, none⟩), .agg #[.int .i64 1, x1, x2, x3, x4, x5, x6]] w fun e w' => e = .returned (.tuple #[]) ∧ Wri B b (l ++ falseT) op w' ∧ Kept B b w w' := by
  obtain ⟨W, hW⟩ : ∃ W, W = (w.alloc (.cells #[.pointer (some ⟨b, 0, none⟩)] 101)).alloc (.cells #[.int .i64 1, x1, x2, x3, x4, x5, x6] 28) := ⟨_, rfl⟩
  have hbel : Below w.heap.size w W := by rw [hW]; exact ((Below.refl _ w).alloc (Nat.le_refl _) _).alloc (by simp) _
  have CW := hid ((h.old hbel).write (Nat.le_trans hB hbel.size) falseT (by show l.length + 5 ≤ _; omega))
  have HK := hid ((Kept.refl B b w).below hB hbel)
  replace h := hid h
  replace hW := hid hW
  clear hbel
  go_enter Tryz.func60, Tryz.ntmps60
  go_wp2_with fail
  rw [← hW.out]
  refine CW.out.mono ?_
  rintro e w4 ⟨rfl, hw4, hk4⟩
  have HR := hid (And.intro hw4 (HK.out.trans hk4))
  clear hw4 hk4 CW
  go_wp2_with fail
  refine bodyPost_end (v := .tuple #[]) (by simp [results, Tryz.results60]) rfl ?_
  exact ⟨rfl, HR.out⟩

set_option maxRecDepth 100000 in
set_option maxHeartbeats 1600000 in
theorem emit_value2 (B b : Nat) (l : List UInt8) (op : Int) (x1 x2 x3 x4 x5 x6 : Value) (w : World) (h : Wri B b l op w) (hB : B ≤ w.heap.size) (hl : l.length + 5 ≤ 140737488355328) :
    Calls Tryz.prog 60 #[.pointer (some ⟨b, 0, none⟩), .agg #[.int .i64 2, x1, x2, x3, x4, x5, x6]] w fun e w' => e = .returned (.tuple #[]) ∧ Wri B b (l ++ trueT) op w' ∧ Kept B b w w' := by
  obtain ⟨W, hW⟩ : ∃ W, W = (w.alloc (.cells #[.pointer (some ⟨b, 0, none⟩)] 101)).alloc (.cells #[.int .i64 2, x1, x2, x3, x4, x5, x6] 28) := ⟨_, rfl⟩
  have hbel : Below w.heap.size w W := by rw [hW]; exact ((Below.refl _ w).alloc (Nat.le_refl _) _).alloc (by simp) _
  have CW := hid ((h.old hbel).write (Nat.le_trans hB hbel.size) trueT (by show l.length + 4 ≤ _; omega))
  have HK := hid ((Kept.refl B b w).below hB hbel)
  replace h := hid h
  replace hW := hid hW
  clear hbel
  go_enter Tryz.func60, Tryz.ntmps60
  go_wp2_with fail
  rw [← hW.out]
  refine CW.out.mono ?_
  rintro e w4 ⟨rfl, hw4, hk4⟩
  have HR := hid (And.intro hw4 (HK.out.trans hk4))
  clear hw4 hk4 CW
  go_wp2_with fail
  refine bodyPost_end (v := .tuple #[]) (by simp [results, Tryz.results60]) rfl ?_
  exact ⟨rfl, HR.out⟩

set_option maxRecDepth 100000 in
set_option maxHeartbeats 1600000 in
theorem emit_value4 (B b : Nat) (l s : List UInt8) (op : Int) (x1 x2 x3 x5 x6 : Value) (w : World) (h : Wri B b l op w) (hB : B ≤ w.heap.size) (hs : s.length ≤ 1099511627776) (hl : l.length + (quoteA false s).length ≤ 140737488355328) (hT : Tabs w) :
    Calls Tryz.prog 60 #[.pointer (some ⟨b, 0, none⟩), .agg #[.int .i64 4, x1, x2, x3, .string ⟨s.toArray⟩, x5, x6]] w fun e w' => e = .returned (.tuple #[]) ∧ Wri B b (l ++ quoteA false s) op w' ∧ Kept B b w w' := by
  obtain ⟨sb, hsb⟩ : ∃ sb : ByteArray, sb = ⟨s.toArray⟩ := ⟨_, rfl⟩
  obtain ⟨W, hW⟩ : ∃ W, W = (w.alloc (.cells #[.pointer (some ⟨b, 0, none⟩)] 101)).alloc (.cells #[.int .i64 4, x1, x2, x3, .string sb, x5, x6] 28) := ⟨_, rfl⟩
  have hbel : Below w.heap.size w W := by rw [hW]; exact ((Below.refl _ w).alloc (Nat.le_refl _) _).alloc (by simp) _
  have CW := emit_text B b l s op W (h.old hbel) (Nat.le_trans hB hbel.size) hs hl (hT.below hbel)
  rw [← hsb] at CW ⊢
  replace CW := hid CW
  have HK := hid ((Kept.refl B b w).below hB hbel)
  replace h := hid h
  replace hW := hid hW
  clear hbel hsb
  go_enter Tryz.func60, Tryz.ntmps60
  go_wp2_with fail
  rw [← hW.out]
  refine CW.out.mono ?_
  rintro e w4 ⟨rfl, hw4, hk4⟩
  have HR := hid (And.intro hw4 (HK.out.trans hk4))
  clear hw4 hk4 CW
  go_wp2_with fail
  refine bodyPost_end (v := .tuple #[]) (by simp [results, Tryz.results60]) rfl ?_
  exact ⟨rfl, HR.out⟩

end Go.Proofs.YtldhebpkplglcaaGreatDoor

namespace Go.Proofs.YtldhebpkplglcaaGreatDoor
open Go.RowKit

set_option maxRecDepth 100000 in
set_option maxHeartbeats 1600000 in
theorem emit_value3 (B b : Nat) (l : List UInt8) (op : Int) (g : Bool) (a : Option Addr) (cap : Nat) (e : Int) (xs : List Nat) (d : D) (x4 x5 x6 : Value) (w : World) (h : Wri B b l op w) (hB : B ≤ w.heap.size) (hu : U32 w a xs)
    (ht : takenE g xs.length (Num.worth xs) e = 0 ∧ takenD g xs.length (Num.worth xs) e = d) (hl : l.length + (textL d).length ≤ 140737488355328) (hT : Tabs w) :
    Calls Tryz.prog 60 #[.pointer (some ⟨b, 0, none⟩), .agg #[.int .i64 3, .bool g, .slice a xs.length cap, .int .i64 e, x4, x5, x6]] w fun e w' => e = .returned (.tuple #[]) ∧ Wri B b (l ++ textL d) op w' ∧ Kept B b w w' := by
  obtain ⟨W, hW⟩ : ∃ W, W = (w.alloc (.cells #[.pointer (some ⟨b, 0, none⟩)] 101)).alloc (.cells #[.int .i64 3, .bool g, .slice a xs.length cap, .int .i64 e, x4, x5, x6] 28) := ⟨_, rfl⟩
  have hbel : Below w.heap.size w W := by rw [hW]; exact ((Below.refl _ w).alloc (Nat.le_refl _) _).alloc (by simp) _
  have CT := dec_Text g a cap e xs W (hu.below hbel) (hT.below hbel).2
  unfold OutSE at CT
  rw [if_pos ht.1, ht.1, ht.2] at CT
  have CW := hid fun (w1 : World) (hb : Below W.heap.size W w1) => ((h.old hbel).old hb).write (Nat.le_trans hB (Nat.le_trans hbel.size hb.size)) (textL d) hl
  have HK := hid ((Kept.refl B b w).below hB hbel)
  have hX : W.heap[w.heap.size]? = some (.cells #[.pointer (some ⟨b, 0, none⟩)] 101 (0, 0)) := by
    rw [hW, Lib.alloc_old _ _ _ (by simp)]
    exact heap_alloc_new w _
  have hBW := hid (Nat.le_trans hB hbel.size)
  have hlt : w.heap.size < W.heap.size := (Array.getElem?_eq_some_iff.1 hX).1
  replace CT := hid CT
  replace h := hid h
  replace hW := hid hW
  replace ht := hid ht
  generalize xs.length = n at *
  clear hbel
  go_enter Tryz.func60, Tryz.ntmps60
  go_wp2_with fail
  rw [← hW.out]
  refine CT.out.mono ?_
  rintro e w1 ⟨rfl, hb1⟩
  have hx1 : w1.cell? ⟨w.heap.size, 0, none⟩ = some (.pointer (some ⟨b, 0, none⟩)) := by rw [Lib.cell_of_heap ((hb1.block _ hlt).trans hX)]; rfl
  have CW1 := hid (CW.out w1 hb1)
  have HK1 := hid (HK.out.below hBW.out hb1)
  clear hb1 CW CT hX
  go_wp2_with fail
  refine CW1.out.mono ?_
  rintro e w4 ⟨rfl, hw4, hk4⟩
  have HR := hid (And.intro hw4 (HK1.out.trans hk4))
  clear hw4 hk4 CW1
  go_wp2_with fail
  refine bodyPost_end (v := .tuple #[]) (by simp [results, Tryz.results60]) rfl ?_
  exact ⟨rfl, HR.out⟩

end Go.Proofs.YtldhebpkplglcaaGreatDoor

namespace Go.Proofs.YtldhebpkplglcaaGreatDoor
open Go.RowKit

set_option maxRecDepth 100000 in
set_option maxHeartbeats 1600000 in
theorem emit_item (R : World → Prop) (b K K1 p off i : Nat) (y0 y1 y2 y3 y4 y6 : Value) (an ac : Nat) (kind : Int) (g : Bool) (a : Option Addr) (n c : Nat) (e : Int) (s : List UInt8) (aa : Option Addr) (an1 ac1 : Nat) (oa : Option Addr) (on oc : Nat) (w : World)
    (hK : w.heap[K]? = some (.cells #[.pointer (some ⟨b, 0, none⟩)] 101 (0, 0))) (hK1 : w.heap[K1]? = some (.cells #[y0, y1, y2, y3, y4, .slice (some ⟨p, off, none⟩) an ac, y6] 28 (0, 0)))
    (hi : i < an) (_ : an ≤ 9223372036854775807) (hc : Cells7 w p (off + i * 7) kind g a n c e s aa an1 ac1 oa on oc)
    (hC : ∀ w1 : World, w1.heap = w.heap → Below w.heap.size w w1 → Calls Tryz.prog 60 #[.pointer (some ⟨b, 0, none⟩), .agg #[.int .i64 kind, .bool g, .slice a n c, .int .i64 e, strV s, .slice aa an1 ac1, .slice oa on oc]] w1 fun e w' => e = .returned (.tuple #[]) ∧ R w') :
    Calls Tryz.prog 95 #[.int .i64 i, .pointer (some ⟨K, 0, none⟩), .pointer (some ⟨K1, 0, none⟩)] w fun e w' => e = .returned (.tuple #[]) ∧ R w' := by
  unfold Cells7 strV at hc
  unfold strV at hC
  obtain ⟨c0, c1, c2, c3, c4, c5, c6⟩ := hc
  have k0 : w.cell? ⟨K, 0, none⟩ = some (.pointer (some ⟨b, 0, none⟩)) := by rw [Lib.cell_of_heap hK]; rfl
  have k1 : w.cell? ⟨K1, 5, none⟩ = some (.slice (some ⟨p, off, none⟩) an ac) := by rw [Lib.cell_of_heap hK1]; rfl
  have hi2 : (i : Int) < an := by omega
  replace hC := hid hC
  clear hK hK1
  go_enter Tryz.func95, Tryz.ntmps95
  go_region_law (first | (go_simp; go_at_call 60; refine (hC.out _ (by rfl) (by first | exact Below.refl _ _ | exact (Below.refl _ _).drew | exact (Below.refl _ _).drew.drew | exact below_drewN (Below.refl _ _) _)).mono ?_; rintro e4 w4 ⟨rfl, hr⟩))
  all_goals
    have HR := hid hr
    clear hr hC
    go_wp2_with fail
    refine bodyPost_end (v := .tuple #[]) (by simp [results, Tryz.results95]) rfl ?_
    exact ⟨rfl, HR.out⟩

end Go.Proofs.YtldhebpkplglcaaGreatDoor

namespace Go.Proofs.YtldhebpkplglcaaGreatDoor
open Go.RowKit

/-- What a call of value lays first: boxes of the writer and of the value. -/
def wBox (b : Nat) (cells : Array Value) (w : World) : World := (w.alloc (.cells #[.pointer (some ⟨b, 0, none⟩)] 101)).alloc (.cells cells 28)
theorem wBox_below (b : Nat) (cells : Array Value) (w : World) : Below w.heap.size w (wBox b cells w) := ((Below.refl _ w).alloc (Nat.le_refl _) _).alloc (by simp) _

set_option maxRecDepth 100000 in
set_option maxHeartbeats 1600000 in
theorem emit_value5 (B b : Nat) (l : List UInt8) (op : Int) (items : List (List UInt8)) (x1 x2 x3 x4 x6 : Value) (aa : Option Addr) (ac : Nat) (w : World) (h : Wri B b l op w) (hB : B ≤ w.heap.size) (hl : l.length + (commaL items).length + 2 ≤ 140737488355328) (hop : 0 ≤ op) (hop2 : op ≤ 1048576) (hn : items.length ≤ 9223372036854775807)
    (hcl : ∀ (i : Nat) (l' : List UInt8) (w' : World) (hi : i < items.length), Wri B b l' (op + 1) w' → Kept B b (wBox b #[.int .i64 5, x1, x2, x3, x4, .slice aa items.length ac, x6] w) w' → l'.length + items[i].length ≤ l.length + (commaL items).length + 1 →
      Calls Tryz.prog 95 #[.int .i64 i, .pointer (some ⟨w.heap.size, 0, none⟩), .pointer (some ⟨w.heap.size + 1, 0, none⟩)] w' fun e w'' => e = .returned (.tuple #[]) ∧ Wri B b (l' ++ items[i]) (op + 1) w'' ∧ Kept B b w' w'') :
    Calls Tryz.prog 60 #[.pointer (some ⟨b, 0, none⟩), .agg #[.int .i64 5, x1, x2, x3, x4, .slice aa items.length ac, x6]] w fun e w' => e = .returned (.tuple #[]) ∧ Wri B b (l ++ 91 :: (commaL items ++ [93])) op w' ∧ Kept B b w w' := by
  have hbel := wBox_below b #[.int .i64 5, x1, x2, x3, x4, .slice aa items.length ac, x6] w
  have CG := emit_group B b l op 91 93 items 95 (.pointer (some ⟨w.heap.size, 0, none⟩)) (.pointer (some ⟨w.heap.size + 1, 0, none⟩)) _ (h.old hbel) (Nat.le_trans hB hbel.size) hl hop hop2 hn (run_callFunc Tryz.func95 (by kernel_rfl) (by kernel_rfl)) hcl
  unfold wBox at CG hbel
  have HK := hid ((Kept.refl B b w).below hB hbel)
  replace CG := hid CG
  replace h := hid h
  clear hcl
  have hmf : ∀ (fn : Fn) (first cap : Array Value) (w : World), (Instr.makeFunc fn first cap).run Tryz.prog w = .ok (.func fn first cap) w := fun _ _ _ _ => rfl
  clear hbel
  generalize items.length = n at *
  go_enter Tryz.func60, Tryz.ntmps60
  go_wp2_with fail
  refine CG.out.mono ?_
  rintro e w4 ⟨rfl, hw4, hk4⟩
  have HR := hid (And.intro hw4 (HK.out.trans hk4))
  clear hw4 hk4 CG
  go_wp2_with fail
  refine bodyPost_end (v := .tuple #[]) (by simp [results, Tryz.results60]) rfl ?_
  exact ⟨rfl, HR.out⟩

end Go.Proofs.YtldhebpkplglcaaGreatDoor

namespace Go.Proofs.YtldhebpkplglcaaGreatDoor
open Go.RowKit

/-- What the closure over fields reads: the writer's box, the fields' box, the field. -/
def FldAt (b K K2 p off i : Nat) (on oc : Nat) (key : List UInt8) (kind : Int) (g : Bool) (a : Option Addr) (n c : Nat) (e : Int) (s : List UInt8) (aa : Option Addr) (an1 ac1 : Nat) (oa : Option Addr) (on1 oc1 : Nat) (w : World) : Prop :=
  w.cell? ⟨K, 0, none⟩ = some (.pointer (some ⟨b, 0, none⟩)) ∧ w.cell? ⟨K2, 0, none⟩ = some (.slice (some ⟨p, off, none⟩) on oc) ∧ Cells8f w p (off + i * 8) key kind g a n c e s aa an1 ac1 oa on1 oc1

set_option maxRecDepth 100000 in
set_option maxHeartbeats 3200000 in
theorem emit_field (B b : Nat) (l t : List UInt8) (op : Int) (K K2 p off i : Nat) (on oc : Nat) (key : List UInt8) (kind : Int) (g : Bool) (a : Option Addr) (n c : Nat) (e : Int) (s : List UInt8) (aa : Option Addr) (an1 ac1 : Nat) (oa : Option Addr) (on1 oc1 : Nat) (w : World)
    (h : Wri B b l op w) (hB : B ≤ w.heap.size) (hs : key.length ≤ 1099511627776) (hl : l.length + (quoteA false key).length + 1 ≤ 140737488355328) (hT : ∀ w', Kept B b w w' → Tabs w') (hi : i < on)
    (hf : ∀ w', Kept B b w w' → FldAt b K K2 p off i on oc key kind g a n c e s aa an1 ac1 oa on1 oc1 w')
    (hC : ∀ w', Kept B b w w' → Wri B b (l ++ quoteA false key ++ [58]) op w' → Calls Tryz.prog 60 #[.pointer (some ⟨b, 0, none⟩), .agg #[.int .i64 kind, .bool g, .slice a n c, .int .i64 e, strV s, .slice aa an1 ac1, .slice oa on1 oc1]] w' fun e w'' => e = .returned (.tuple #[]) ∧ Wri B b (l ++ quoteA false key ++ [58] ++ t) op w'' ∧ Kept B b w' w'') :
    Calls Tryz.prog 100 #[.int .i64 i, .pointer (some ⟨K, 0, none⟩), .pointer (some ⟨K2, 0, none⟩)] w fun e w' => e = .returned (.tuple #[]) ∧ Wri B b (l ++ (quoteA false key ++ 58 :: t)) op w' ∧ Kept B b w w' := by
  have hk0 := Kept.refl B b w
  obtain ⟨k0, k1, hc⟩ := hf w hk0
  unfold Cells8f strV at hc
  obtain ⟨c0, _, _, _, _, _, _, _⟩ := hc
  have hi2 : (i : Int) < on := by omega
  have CT := hid fun (w1 : World) (hb : Below w.heap.size w w1) => emit_text B b l key op w1 (h.old hb) (Nat.le_trans hB hb.size) hs (by omega) (hT w1 (hk0.below hB hb))
  replace hf := hid hf
  replace hC := hid hC
  replace hT := hid hT
  replace h := hid h
  clear hk0
  go_enter Tryz.func100, Tryz.ntmps100
  go_wp2_with fail
  go_region_law (first | (go_simp; go_at_call 93; refine (CT.out _ (by first | exact Below.refl _ _ | exact (Below.refl _ _).drew | exact (Below.refl _ _).drew.drew | exact below_drewN (Below.refl _ _) _)).mono ?_; rintro e4 w4 ⟨rfl, hw4, hk4⟩))
  all_goals
    have hK4 : Kept B b w w4 := ⟨by first | exact (Below.refl B w).drew.trans hk4.1 | exact hk4.1, by first | exact hk4.2 | exact (Lib.OthersKept.refl _ _ w).drew.trans hk4.2⟩
    clear hk4 k0 k1 c0 CT
    obtain ⟨k0, _, _⟩ := hf.out w4 hK4
    have hB4 := Nat.le_trans hB hK4.1.size
    have CB := Tryz.Buffer_WriteByte_at 109 (wR op) B b 0 (Lib.byteCells (l ++ quoteA false key)) 58 w4 hw4 hB4 (oneCell_bytes _) (by rw [Lib.byteCells_length, List.length_append]; omega)
    replace CB := hid CB
    have HK4 := hid hK4
    clear hw4 hK4
    go_wp2_with fail
    refine CB.out.mono ?_
    rintro e5 w5 ⟨rfl, hI5, hb5, hk5⟩
    have hw5 : Wri B b (l ++ quoteA false key ++ [58]) op w5 := by
      show LibA.IsBuffer _ _ _ _ _ _ _ _
      rw [Lib.byteCells_append]
      exact hI5
    have hK5 : Kept B b w w5 := HK4.out.trans ⟨hb5, hk5⟩
    have c7 : w5.cell? ⟨b, 7, none⟩ = some (.string ⟨#[]⟩) := hw5.cell 7 (by omega)
    have HB5 := hid (Nat.le_trans hB hK5.1.size)
    clear k0
    obtain ⟨k0, k1, hc⟩ := hf.out w5 hK5
    unfold Cells8f strV at hc
    obtain ⟨c0, c1, c2, c3, c4, c5, c6, c8⟩ := hc
    have CV : ∀ w6 : World, Below w5.heap.size w5 w6 → Calls Tryz.prog 60 #[.pointer (some ⟨b, 0, none⟩), .agg #[.int .i64 kind, .bool g, .slice a n c, .int .i64 e, .string ⟨s.toArray⟩, .slice aa an1 ac1, .slice oa on1 oc1]] w6 fun e w'' => e = .returned (.tuple #[]) ∧ Wri B b (l ++ (quoteA false key ++ 58 :: t)) op w'' ∧ Kept B b w w'' := by
      intro w6 hb
      have hk6 := hK5.below HB5.out hb
      refine (hC.out w6 hk6 (hw5.old hb)).mono ?_
      rintro e w7 ⟨rfl, h1, h2⟩
      refine ⟨rfl, ?_, hk6.trans h2⟩
      rw [show l ++ (quoteA false key ++ 58 :: t) = l ++ quoteA false key ++ [58] ++ t by simp]
      exact h1
    replace CV := hid CV
    replace hw5 := hid hw5
    replace hK5 := hid hK5
    clear hI5 hb5 hk5 CB hf hC hT
    go_wp2_with fail
    go_region_law (first | (go_simp; go_at_call 60; refine (CV.out _ (by first | exact Below.refl _ _ | exact (Below.refl _ _).drew | exact (Below.refl _ _).drew.drew | exact below_drewN (Below.refl _ _) _)).mono ?_; rintro e7 w7 ⟨rfl, hw7, hk7⟩))
    all_goals
      have HR := hid (And.intro hw7 hk7)
      clear hw7 hk7 CV
      go_wp2_with fail
      refine bodyPost_end (v := .tuple #[]) (by simp [results, Tryz.results100]) rfl ?_
      exact ⟨rfl, HR.out⟩

end Go.Proofs.YtldhebpkplglcaaGreatDoor

namespace Go.Proofs.YtldhebpkplglcaaGreatDoor
open Go.RowKit

/-- What a call of value lays first at fields: boxes of the writer, of the value, of the fields. -/
def wBoxF (b : Nat) (cells : Array Value) (fv : Value) (w : World) : World := (wBox b cells w).alloc (.cells #[fv] 26)
theorem wBoxF_below (b : Nat) (cells : Array Value) (fv : Value) (w : World) : Below w.heap.size w (wBoxF b cells fv w) := (wBox_below b cells w).alloc (wBox_below b cells w).size _

set_option maxRecDepth 100000 in
set_option maxHeartbeats 1600000 in
theorem emit_value6 (B b : Nat) (l : List UInt8) (op : Int) (items : List (List UInt8)) (x1 x2 x3 x4 x5 : Value) (oa : Option Addr) (oc : Nat) (w : World) (h : Wri B b l op w) (hB : B ≤ w.heap.size) (hl : l.length + (commaL items).length + 2 ≤ 140737488355328) (hop : 0 ≤ op) (hop2 : op ≤ 1048576) (hn : items.length ≤ 9223372036854775807)
    (hcl : ∀ (i : Nat) (l' : List UInt8) (w' : World) (hi : i < items.length), Wri B b l' (op + 1) w' → Kept B b (wBoxF b #[.int .i64 6, x1, x2, x3, x4, x5, .slice oa items.length oc] (.slice oa items.length oc) w) w' → l'.length + items[i].length ≤ l.length + (commaL items).length + 1 →
      Calls Tryz.prog 100 #[.int .i64 i, .pointer (some ⟨w.heap.size, 0, none⟩), .pointer (some ⟨w.heap.size + 1 + 1, 0, none⟩)] w' fun e w'' => e = .returned (.tuple #[]) ∧ Wri B b (l' ++ items[i]) (op + 1) w'' ∧ Kept B b w' w'') :
    Calls Tryz.prog 60 #[.pointer (some ⟨b, 0, none⟩), .agg #[.int .i64 6, x1, x2, x3, x4, x5, .slice oa items.length oc]] w fun e w' => e = .returned (.tuple #[]) ∧ Wri B b (l ++ 123 :: (commaL items ++ [125])) op w' ∧ Kept B b w w' := by
  have hbel := wBoxF_below b #[.int .i64 6, x1, x2, x3, x4, x5, .slice oa items.length oc] (.slice oa items.length oc) w
  have CG := emit_group B b l op 123 125 items 100 (.pointer (some ⟨w.heap.size, 0, none⟩)) (.pointer (some ⟨w.heap.size + 1 + 1, 0, none⟩)) _ (h.old hbel) (Nat.le_trans hB hbel.size) hl hop hop2 hn (run_callFunc Tryz.func100 (by kernel_rfl) (by kernel_rfl)) hcl
  have hblt : b < w.heap.size := LibA.IsBuffer.lt h
  have d5 : w.cell? ⟨b, 5, none⟩ = some (.bool false) := h.cell 5 (by omega)
  have c5 := ((bcell hbel).1 _ _ (cell_lt d5)).trans d5
  unfold wBoxF wBox at CG hbel c5
  have HK := hid ((Kept.refl B b w).below hB hbel)
  replace CG := hid CG
  replace h := hid h
  have hmf : ∀ (fn : Fn) (first cap : Array Value) (w : World), (Instr.makeFunc fn first cap).run Tryz.prog w = .ok (.func fn first cap) w := fun _ _ _ _ => rfl
  clear hbel hcl
  generalize items.length = n at *
  go_enter Tryz.func60, Tryz.ntmps60
  go_wp2_with fail
  refine CG.out.mono ?_
  rintro e w4 ⟨rfl, hw4, hk4⟩
  have HR := hid (And.intro hw4 (HK.out.trans hk4))
  clear hw4 hk4 CG
  go_wp2_with fail
  refine bodyPost_end (v := .tuple #[]) (by simp [results, Tryz.results60]) rfl ?_
  exact ⟨rfl, HR.out⟩

end Go.Proofs.YtldhebpkplglcaaGreatDoor
