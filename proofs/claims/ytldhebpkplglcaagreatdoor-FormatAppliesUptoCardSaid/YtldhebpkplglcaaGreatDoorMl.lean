/- How deep a value is. May a value be? The program's answer. -/
import Derived.Test.YtldhebpkplglcaaGreatDoorMj
import Derived.Test.YtldhebpkplglcaaGreatDoorProg
import Derived.Test.YtldhebpkplglcaaGreatDoorMa
import Derived.Test.YtldhebpkplglcaaGreatDoorMk
import Derived.Test.YtldhebpkplglcaaGreatDoorMd
import Derived.WalkKit
import Derived.Deep.CutBlock
import Derived.Deep.QuietTactic
import Derived.BigQuiet
namespace Go.Proofs.YtldhebpkplglcaaGreatDoor
open Go.RowKit

theorem cell_stay {W W' : World} {b o : Nat} {v : Value} (h : W.cell? ⟨b, o, none⟩ = some v) (hb : Below W.heap.size W W') : W'.cell? ⟨b, o, none⟩ = some v := ((bcell hb).1 _ _ (cell_lt h)).trans h
/-- The most of the first k depths. -/
def mostN (l : List Nat) (m : Nat) : Nat := l.foldl max m
theorem mostN_snoc (l : List Nat) (m x : Nat) : mostN (l ++ [x]) m = max (mostN l m) x := by unfold mostN; rw [List.foldl_append]; rfl
theorem depth_eq {n : Nat} {v : JV} (h : v.kind = 5 ∨ v.kind = 6) : depthJ (n + 1) v = mostN (v.obj.map fun x => depthJ n x.2) (mostN (v.arr.map (depthJ n)) 0) + 1 := by
  simp only [depthJ]; rw [if_pos h]; rfl
theorem depth_most (n : Nat) : ∀ v : JV, depthJ n v ≤ n + 1 := by
  induction n with
  | zero => intro v; simp only [depthJ]; split <;> omega
  | succ n ih =>
    intro v
    by_cases h : v.kind = 5 ∨ v.kind = 6
    · exact (depth_le h).2 ⟨fun x _ => ih x, fun x _ => ih x.2⟩
    · rw [depth_flat h]; omega
theorem mostN_le {l : List Nat} {m B : Nat} (hm : m ≤ B) (h : ∀ x ∈ l, x ≤ B) : mostN l m ≤ B := foldl_max_le l m hm h

end Go.Proofs.YtldhebpkplglcaaGreatDoor

namespace Go.Proofs.YtldhebpkplglcaaGreatDoor
open Go.RowKit

theorem World.drew_below (W : World) : Below W.heap.size W (World.drew W) := (Below.refl _ _).drew
/-- The tables that the library reads. -/
def Tabs (w : World) : Prop := Lib.Utf8Tabs 1 2 w ∧ Pow w
theorem Tabs.below {w w' : World} (h : Tabs w) (hb : Below w.heap.size w w') : Tabs w' := ⟨Utf8Tabs_below h.1 hb, h.2.next hb⟩
/-- A value's own block. -/
def BoxV (w : World) (b : Nat) (kind : Int) (g : Bool) (a : Option Addr) (n c : Nat) (e : Int) (s : ByteArray) (aa : Option Addr) (an ac : Nat) (oa : Option Addr) (on oc : Nat) : Prop :=
  w.cell? ⟨b, 0, none⟩ = some (.int .i64 kind) ∧ w.cell? ⟨b, 1, none⟩ = some (.bool g) ∧ w.cell? ⟨b, 2, none⟩ = some (.slice a n c) ∧ w.cell? ⟨b, 3, none⟩ = some (.int .i64 e) ∧ w.cell? ⟨b, 4, none⟩ = some (.string s) ∧
    w.cell? ⟨b, 5, none⟩ = some (.slice aa an ac) ∧ w.cell? ⟨b, 6, none⟩ = some (.slice oa on oc)
theorem BoxV.stay {w w' : World} {b : Nat} {kind : Int} {g : Bool} {a : Option Addr} {n c : Nat} {e : Int} {s : ByteArray} {aa : Option Addr} {an ac : Nat} {oa : Option Addr} {on oc : Nat} (h : BoxV w b kind g a n c e s aa an ac oa on oc) (hb : Below w.heap.size w w') :
    BoxV w' b kind g a n c e s aa an ac oa on oc := by
  obtain ⟨h0, h1, h2, h3, h4, h5, h6⟩ := h
  exact ⟨cell_stay h0 hb, cell_stay h1 hb, cell_stay h2 hb, cell_stay h3 hb, cell_stay h4 hb, cell_stay h5 hb, cell_stay h6 hb⟩
/-- A field's own block. -/
def BoxF (w : World) (b : Nat) (key : ByteArray) (kind : Int) (g : Bool) (a : Option Addr) (n c : Nat) (e : Int) (s : ByteArray) (aa : Option Addr) (an ac : Nat) (oa : Option Addr) (on oc : Nat) : Prop :=
  w.cell? ⟨b, 0, none⟩ = some (.string key) ∧ w.cell? ⟨b, 1, none⟩ = some (.int .i64 kind) ∧ w.cell? ⟨b, 2, none⟩ = some (.bool g) ∧ w.cell? ⟨b, 3, none⟩ = some (.slice a n c) ∧ w.cell? ⟨b, 4, none⟩ = some (.int .i64 e) ∧ w.cell? ⟨b, 5, none⟩ = some (.string s) ∧
    w.cell? ⟨b, 6, none⟩ = some (.slice aa an ac) ∧ w.cell? ⟨b, 7, none⟩ = some (.slice oa on oc)
theorem BoxF.stay {w w' : World} {b : Nat} {key : ByteArray} {kind : Int} {g : Bool} {a : Option Addr} {n c : Nat} {e : Int} {s : ByteArray} {aa : Option Addr} {an ac : Nat} {oa : Option Addr} {on oc : Nat} (h : BoxF w b key kind g a n c e s aa an ac oa on oc) (hb : Below w.heap.size w w') :
    BoxF w' b key kind g a n c e s aa an ac oa on oc := by
  obtain ⟨h0, h1, h2, h3, h4, h5, h6, h7⟩ := h
  exact ⟨cell_stay h0 hb, cell_stay h1 hb, cell_stay h2 hb, cell_stay h3 hb, cell_stay h4 hb, cell_stay h5 hb, cell_stay h6 hb, cell_stay h7 hb⟩
theorem keepF {W W' w1 : World} {F M : Nat} {kb : ByteArray} {x0 x1 x2 x3 x4 x5 x6 x7 : Value} (hlk : ∀ w1, Below W.heap.size W w1 → (Instr.lookup 98 (.map (some M)) (.string kb) false).run Tryz.prog w1 = .ok (.bool false) w1)
    (h : W'.cell? ⟨F, 0, none⟩ = some x0 ∧ W'.cell? ⟨F, 1, none⟩ = some x1 ∧ W'.cell? ⟨F, 2, none⟩ = some x2 ∧ W'.cell? ⟨F, 3, none⟩ = some x3 ∧ W'.cell? ⟨F, 4, none⟩ = some x4 ∧ W'.cell? ⟨F, 5, none⟩ = some x5 ∧ W'.cell? ⟨F, 6, none⟩ = some x6 ∧ W'.cell? ⟨F, 7, none⟩ = some x7 ∧
      (Instr.lookup 98 (.map (some M)) (.string kb) false).run Tryz.prog W' = .ok (.bool false) W' ∧ Below W.heap.size W W') (hb : Below W'.heap.size W' w1) :
    w1.cell? ⟨F, 0, none⟩ = some x0 ∧ w1.cell? ⟨F, 1, none⟩ = some x1 ∧ w1.cell? ⟨F, 2, none⟩ = some x2 ∧ w1.cell? ⟨F, 3, none⟩ = some x3 ∧ w1.cell? ⟨F, 4, none⟩ = some x4 ∧ w1.cell? ⟨F, 5, none⟩ = some x5 ∧ w1.cell? ⟨F, 6, none⟩ = some x6 ∧ w1.cell? ⟨F, 7, none⟩ = some x7 ∧
      (Instr.lookup 98 (.map (some M)) (.string kb) false).run Tryz.prog w1 = .ok (.bool false) w1 ∧ Below W.heap.size W w1 := by
  obtain ⟨h0, h1, h2, h3, h4, h5, h6, h7, _, h9⟩ := h
  have hbb := below_trans h9 hb
  exact ⟨cell_stay h0 hb, cell_stay h1 hb, cell_stay h2 hb, cell_stay h3 hb, cell_stay h4 hb, cell_stay h5 hb, cell_stay h6 hb, cell_stay h7 hb, hlk _ hbb, hbb⟩
def numB (v : JV) : Bool := if v.kind = 3 then mayB v.g v.ls v.e else (!v.g && v.ls.isEmpty && decide (v.e = 0))
def strB (v : JV) : Bool := if v.kind = 4 then soundB v.s else v.s.isEmpty
theorem base_split (v : JV) : baseB v = (decide (0 ≤ v.kind ∧ v.kind ≤ 6) && numB v && strB v && (decide (v.kind = 5) || v.arr.isEmpty) && (decide (v.kind = 6) || v.obj.isEmpty)) := rfl
theorem base_iff {v : JV} : baseB v = true ↔ (0 ≤ v.kind ∧ v.kind ≤ 6) ∧ numB v = true ∧ strB v = true ∧ (v.kind = 5 ∨ v.arr.length = 0) ∧ (v.kind = 6 ∨ v.obj.length = 0) := by
  rw [base_split]
  simp only [Bool.and_eq_true, Bool.or_eq_true, decide_eq_true_eq, List.isEmpty_iff, List.length_eq_zero_iff, and_assoc]
theorem may_not {N : Nat} {v : JV} (h : ¬ ((0 ≤ v.kind ∧ v.kind ≤ 6) ∧ numB v = true ∧ strB v = true ∧ (v.kind = 5 ∨ v.arr.length = 0) ∧ (v.kind = 6 ∨ v.obj.length = 0))) : mayJ N v = false := by
  have hb : baseB v = false := by rw [Bool.eq_false_iff]; exact fun e => h (base_iff.1 e)
  cases N <;> simp [mayJ, hb]
theorem may_leaf {N : Nat} {v : JV} (h : (0 ≤ v.kind ∧ v.kind ≤ 6) ∧ numB v = true ∧ strB v = true ∧ (v.kind = 5 ∨ v.arr.length = 0) ∧ (v.kind = 6 ∨ v.obj.length = 0)) (hk : v.kind < 5) : mayJ N v = true := may_flat (base_iff.2 h) hk
theorem may_nought {v : JV} (hk : ¬ v.kind < 5) : mayJ 0 v = false := by simp [mayJ, hk]
theorem may_down1 {n : Nat} {v : JV} (h : (0 ≤ v.kind ∧ v.kind ≤ 6) ∧ numB v = true ∧ strB v = true ∧ (v.kind = 5 ∨ v.arr.length = 0) ∧ (v.kind = 6 ∨ v.obj.length = 0)) :
    mayJ (n + 1) v = true ↔ (∀ x ∈ v.arr, mayJ n x = true) ∧ (∀ x ∈ v.obj, soundB x.1 = true ∧ mayJ n x.2 = true) ∧ (v.obj.map (·.1)).Nodup := by
  rw [may_succ, base_iff]
  constructor
  · rintro ⟨⟨⟨_, h1⟩, h2⟩, h3⟩; exact ⟨h1, h2, h3⟩
  · rintro ⟨h1, h2, h3⟩; exact ⟨⟨⟨h, h1⟩, h2⟩, h3⟩
theorem empty_s (s : List UInt8) : (⟨s.toArray⟩ : ByteArray).toList.isEmpty = s.isEmpty := by rw [ByteArray.toList_eq]
theorem keepV {B : Nat} {w W' w1 : World} {N i j : Nat} {x y : Value} (h : W'.cell? ⟨N, i, none⟩ = some x ∧ W'.cell? ⟨N, j, none⟩ = some y ∧ Below B w W') (hB : B ≤ w.heap.size) (hb : Below W'.heap.size W' w1) :
    w1.cell? ⟨N, i, none⟩ = some x ∧ w1.cell? ⟨N, j, none⟩ = some y ∧ Below B w w1 := by
  obtain ⟨h0, h1, h2⟩ := h
  have B' := (bcell hb).1
  exact ⟨(B' _ _ (cell_lt h0)).trans h0, (B' _ _ (cell_lt h1)).trans h1, h2.trans (hb.mono (Nat.le_trans hB h2.size))⟩
def MayC (n : Nat) : Prop := ∀ (v : JV) (cs : List Value) (w : World), RdV w cs v → Tabs w → Calls Tryz.prog 33 #[.agg cs.toArray, .int .i64 n] w fun en w' => en = .returned (.bool (mayJ n v)) ∧ Below w.heap.size w w'

set_option maxRecDepth 100000 in
set_option maxHeartbeats 8000000 in
theorem may_walk (N : Nat) (hN : N ≤ 200) (IH : ∀ m, N = m + 1 → MayC m) (v : JV) (a : Option Addr) (c : Nat) (aa : Option Addr) (ac : Nat) (oa : Option Addr) (oc : Nat) (w : World) (hT : Tabs w)
    (P : PartsV w (valCs v.kind v.g a v.ls.length c v.e v.s aa v.arr.length ac oa v.obj.length oc) v a c aa ac oa oc) :
    Calls Tryz.prog 33 #[valV v.kind v.g a v.ls.length c v.e v.s aa v.arr.length ac oa v.obj.length oc, .int .i64 (N : Int)] w fun en w' => en = .returned (.bool (mayJ N v)) ∧ Below w.heap.size w w' := by
  have hs := P.s
  have hA := hid P.arr
  have hO := hid P.obj
  have hU := hid P.u
  have hal : v.arr.length ≤ 9223372036854775807 := by have := P.ac; omega
  have hol : v.obj.length ≤ 9223372036854775807 := by have := P.oc; omega
  replace IH := hid IH
  have HT := hid hT
  clear P hT
  obtain ⟨R, hR⟩ : ∃ R, R = mayJ N v := ⟨_, rfl⟩
  rw [← hR]
  replace hR := hid hR
  have hNOT := hid (may_not (N := N) (v := v))
  have hLEAF := hid (may_leaf (N := N) (v := v))
  have hZ := hid (may_nought (v := v))
  have hD := hid fun n => may_down1 (n := n) (v := v)
  obtain ⟨num, hnum⟩ : ∃ num, num = numB v := ⟨_, rfl⟩
  obtain ⟨str, hstr⟩ : ∃ str, str = strB v := ⟨_, rfl⟩
  rw [← hnum, ← hstr] at hNOT hLEAF hD
  rw [← hR.out] at hNOT hLEAF
  have HNUM := hid hnum
  have HSTR := hid hstr
  clear hnum hstr
  obtain ⟨kind, g, ls, e, s, arr, obj⟩ := v
  simp only [JV.kind, JV.g, JV.ls, JV.e, JV.s, JV.arr, JV.obj] at *
  have hne := empty_s s
  unfold valV strV
  have HSE := hid hne
  have HCV := hid fun W (h : Below w.heap.size w W) => utf_Valid s W hs (HT.out.below h).1
  have HLL := hid fun W (h : Below w.heap.size w W) => dec_May g a c e ls W (hU.out.below h) (HT.out.below h).2
  have HSZ : Hid ((⟨s.toArray⟩ : ByteArray).size = s.length) := rfl
  obtain ⟨sb, hsb⟩ : ∃ sb : ByteArray, sb = ⟨s.toArray⟩ := ⟨_, rfl⟩
  rw [← hsb] at HSE HCV HSZ ⊢
  clear hne hsb
  obtain ⟨mb, hmb⟩ : ∃ mb, mb = mayB g ls e := ⟨_, rfl⟩
  rw [← hmb] at HLL
  have HMB := hid hmb
  clear hmb
  generalize hll : ls.length = ln at *
  generalize hal' : arr.length = an at *
  generalize hol' : obj.length = on at *
  have HLN := hid hll
  have HAL := hid hal'
  have HOL := hid hol'
  clear hal' hol' hll
  by_cases hk0 : kind < 0
  · obtain rfl : R = false := hNOT.out (fun h => by have := h.1; omega)
    go_enter Tryz.func33, Tryz.ntmps33
    go_wp2_with fail
    go_ret
    exact ⟨rfl, (Below.refl _ _).alloc (Nat.le_refl _) _⟩
  by_cases hk6 : 6 < kind
  · obtain rfl : R = false := hNOT.out (fun h => by have := h.1; omega)
    go_enter Tryz.func33, Tryz.ntmps33
    go_wp2_with fail
    go_ret
    exact ⟨rfl, (Below.refl _ _).alloc (Nat.le_refl _) _⟩
  go_enter Tryz.func33, Tryz.ntmps33
  have k0 : 0 ≤ kind := by omega
  have k6 : kind ≤ 6 := by omega
  clear hk0 hk6
  go_upto_region 3 with fail
  go_cut [5] from 12 (fun v5 w' => v5 = .bool num ∧ Below w.heap.size w w' ∧ BoxV w' w.heap.size kind g a ln c e sb aa an ac oa on oc)
  case first =>
    obtain ⟨W, hW⟩ : ∃ W, W = w.alloc (.cells #[.int .i64 kind, .bool g, .slice a ln c, .int .i64 e, .string sb, .slice aa an ac, .slice oa on oc] 28) := ⟨_, rfl⟩
    have hb0 : Below w.heap.size w W := by rw [hW]; exact (Below.refl _ _).alloc (Nat.le_refl _) _
    have hbx : BoxV W w.heap.size kind g a ln c e sb aa an ac oa on oc := by
      rw [hW]
      exact ⟨by simp [go_sem], by simp [go_sem], by simp [go_sem], by simp [go_sem], by simp [go_sem], by simp [go_sem], by simp [go_sem]⟩
    rw [← hW]
    have HB := hid hb0
    have HX := hid hbx
    obtain ⟨B0, B1, B2, B3, B4, B5, B6⟩ := hbx
    clear hb0 hW
    by_cases h3 : kind = 3
    · subst h3
      have hn1 : Hid (num = mb) := by rw [HNUM.out, HMB.out]; rfl
      go_wp2_with fail
      refine (HLL.out _ HB.out).mono ?_
      rintro en w1 ⟨rfl, hb1⟩
      have hbb := hid (below_trans HB.out hb1)
      have hxx := hid (HX.out.stay hb1)
      obtain ⟨B0', _⟩ := hxx.out
      clear hb1 B0 B1 B2 B3 B4 B5 B6
      cases mb with
      | true =>
        obtain rfl : num = true := hn1.out
        go_wp2_with fail
        go_meet
        case rel => exact ⟨rfl, hbb.out, hxx.out⟩
      | false =>
        obtain rfl : num = false := hn1.out
        go_wp2_with fail
        go_meet
        case rel => exact ⟨rfl, hbb.out, hxx.out⟩
    · have h3' : (kind == 3) = false := by rw [beq_eq_false_iff_ne]; exact h3
      have h3n : (kind != 3) = true := by rw [bne_iff_ne]; exact h3
      have hn1 : Hid (num = (!g && decide (ln = 0) && decide (e = 0))) := by
        rw [HNUM.out, ← HLN.out]
        unfold numB
        rw [if_neg (show ¬ (JV.mk kind g ls e s arr obj).kind = 3 from h3)]
        show (!g && ls.isEmpty && decide (e = 0)) = _
        cases ls <;> simp
      clear h3
      cases g with
      | true =>
        obtain rfl : num = false := by rw [hn1.out]; rfl
        go_wp2_with fail
        go_meet
        case rel => exact ⟨rfl, HB.out, HX.out⟩
      | false =>
        by_cases hl : ln = 0
        · subst hl
          have hn2 : Hid (num = (e == 0)) := by rw [hn1.out]; simp; exact (Bool.beq_eq_decide_eq e 0).symm
          clear hn1
          go_wp2_with fail
          go_meet
          case rel => exact ⟨by rw [hn2.out], HB.out, HX.out⟩
        · have hl2 : ((ln : Int) == 0) = false := by rw [beq_eq_false_iff_ne]; omega
          obtain rfl : num = false := by rw [hn1.out]; simp [hl]
          clear hl
          go_wp2_with fail
          go_meet
          case rel => exact ⟨rfl, HB.out, HX.out⟩
  case rest =>
    obtain ⟨rfl, hb0, hbx⟩ := hcut
    have HB := hid hb0
    have HX := hid hbx
    clear hb0 hbx
    go_upto_region 4 with fail
    go_cut [6] from 12 (fun v6 w' => v6 = .bool str ∧ Below w.heap.size w w' ∧ BoxV w' w.heap.size kind g a ln c e sb aa an ac oa on oc)
    case first =>
      obtain ⟨B0, B1, B2, B3, B4, B5, B6⟩ := HX.out
      have hblk := cell_lt B0
      by_cases h4 : kind = 4
      · subst h4
        have hse := HSE.out
        have hsz := HSZ.out
        cases hso : soundB s with
        | true =>
          have hsv : validN (nats s) = s.length := by simpa [soundB] using hso
          obtain rfl : str = true := by rw [HSTR.out]; exact hso
          have hB0 : Below w.heap.size w wc.drew := Below.drew HB.out
          have C2 : Hid (Calls Tryz.prog 43 #[.string sb] wc.drew fun e w' => e = .returned (.int .i64 (sb.size : Int)) ∧ Below wc.drew.heap.size wc.drew w') := by
            have := HCV.out wc.drew hB0
            rw [hsv, ← hsz] at this
            exact this
          replace hB0 := hid hB0
          clear hsv hse hsz
          clear HLL HMB HNUM HSTR HLN
          first | go_region_law (first | (go_simp; go_at_call 43; refine C2.out.mono ?_; rintro e3 w3 ⟨rfl, hb3⟩; have hx3 := hid (BoxV.stay (w := World.drew wc) HX.out hb3); have hb4 := hid (below_trans hB0.out hb3); have B4' := (hx3.out).2.2.2.2.1; clear hb3)) | fail
          all_goals
            go_wp2_with fail
            go_meet
            case rel => exact ⟨rfl, hb4.out, hx3.out⟩
        | false =>
          have hsv : validN (nats s) ≠ s.length := by simpa [soundB] using hso
          obtain ⟨V, hV⟩ : ∃ V, V = validN (nats s) := ⟨_, rfl⟩
          rw [← hV] at hsv
          have hq : ((V : Int) == (sb.size : Int)) = false := by rw [hsz, beq_eq_false_iff_ne]; omega
          have hq2 : ¬ V = sb.size := by rw [hsz]; exact hsv
          have hq3 : (V == sb.size) = false := by rw [beq_eq_false_iff_ne]; exact hq2
          have C : Hid (∀ W, (W.cell? ⟨w.heap.size, 0, none⟩ = some (.int .i64 4) ∧ W.cell? ⟨w.heap.size, 4, none⟩ = some (.string sb) ∧ Below wc.heap.size wc W) → Calls Tryz.prog 43 #[.string sb] W fun e w' => e = .returned (.int .i64 (V : Int)) ∧ Below W.heap.size W w') := by
            intro W h
            have := HCV.out W (below_trans HB.out h.2.2)
            rw [← hV] at this
            exact this
          obtain rfl : str = false := by rw [HSTR.out]; exact hso
          have hse2 : sb.toList.isEmpty = false := by
            rw [hse]
            cases s with
            | nil => rw [sound_nil] at hso; cases hso
            | cons _ _ => rfl
          clear hsv hse hsz hV
          clear HLL HMB HNUM HSTR HLN
          first | go_region_held3 (fun w' => w'.cell? ⟨w.heap.size, 0, none⟩ = some (.int .i64 4) ∧ w'.cell? ⟨w.heap.size, 4, none⟩ = some (.string sb) ∧ Below wc.heap.size wc w') (first | (exact ⟨B0, B4, (Below.refl _ _).drew⟩) | (exact keepV (by assumption) (Nat.le_refl _) (by assumption)) | assumption) ((go_at_call 43; (with_reducible refine (C.out _ ?_).mono ?_); assumption; rintro e3 w3 ⟨rfl, hb3⟩)) | fail
          all_goals
            rename_i hHeld
            obtain ⟨_, _, hH⟩ := hHeld
            have hb4 := hid (below_trans HB.out hH)
            have hx3 := hid (HX.out.stay hH)
            clear hH
            go_wp2_with fail
            go_meet
            case rel => exact ⟨rfl, hb4.out, hx3.out⟩
      · have h4' : (kind == 4) = false := by rw [beq_eq_false_iff_ne]; exact h4
        have hs1 : str = s.isEmpty := by
          rw [HSTR.out]
          unfold strB
          exact if_neg h4
        have hse := HSE.out
        rw [← hs1] at hse
        clear hs1
        trace_state
        go_quiet (fail)
        all_goals
          go_wp2_with fail
          go_meet
          case rel => exact ⟨rfl, below_drewN HB.out _, HX.out⟩
    case rest =>
      obtain ⟨rfl, hb0, hbx⟩ := hcut
      have HB := hid hb0
      have HX := hid hbx
      clear hb0 hbx HCV HLL HMB HNUM HSTR HLN HSE HSZ hs hU
      obtain ⟨B0, B1, B2, B3, B4, B5, B6⟩ := HX.out
      have hblk := cell_lt B0
      clear B0 B1 B2 B3 B4 B5 B6
      obtain ⟨bad, hbad⟩ : ∃ bad : Bool, bad = !decide (num = true ∧ str = true ∧ (kind = 5 ∨ an = 0) ∧ (kind = 6 ∨ on = 0)) := ⟨_, rfl⟩
      replace hbad := hid hbad
      go_upto_region 5 with fail
      go_cut [4, 96] from 12 (fun v4 v96 w' => v4 = .bool false ∧ v96 = .bool bad ∧ Below w.heap.size w w' ∧ BoxV w' w.heap.size kind g a ln c e sb aa an ac oa on oc)
      case first =>
        obtain ⟨B0, B1, B2, B3, B4, B5, B6⟩ := HX.out
        cases num with
        | false =>
          obtain rfl : bad = true := by rw [hbad.out]; simp
          go_wp2_with fail
          go_meet
          case rel => exact ⟨rfl, by first | rfl | (simp; omega), HB.out, HX.out⟩
        | true =>
        cases str with
        | false =>
          obtain rfl : bad = true := by rw [hbad.out]; simp
          go_wp2_with fail
          go_meet
          case rel => exact ⟨rfl, by first | rfl | (simp; omega), HB.out, HX.out⟩
        | true =>
        by_cases ha : kind = 5 ∨ an = 0
        rotate_left
        · obtain rfl : bad = true := by rw [hbad.out]; simp [ha]
          have f5 : (kind != 5) = true := by rw [bne_iff_ne]; omega
          have fa : (0 : Int) < (an : Int) := by omega
          clear ha
          go_wp2_with fail
          go_meet
          case rel => exact ⟨rfl, by first | rfl | (simp; omega), HB.out, HX.out⟩
        by_cases ho : kind = 6 ∨ on = 0
        rotate_left
        · obtain rfl : bad = true := by rw [hbad.out]; simp [ho]
          have f6 : (kind != 6) = true := by rw [bne_iff_ne]; omega
          have fo : (0 : Int) < (on : Int) := by omega
          by_cases h5 : kind = 5
          · subst h5
            clear ha ho
            go_wp2_with fail
            go_meet
            case rel => exact ⟨rfl, by first | rfl | (simp; omega), HB.out, HX.out⟩
          · have f5 : (kind != 5) = true := by rw [bne_iff_ne]; omega
            obtain rfl : an = 0 := by omega
            clear ha ho h5
            go_wp2_with fail
            go_meet
            case rel => exact ⟨rfl, by first | rfl | (simp; omega), HB.out, HX.out⟩
        obtain rfl : bad = false := by rw [hbad.out]; simp [ha, ho]
        by_cases h5 : kind = 5
        · subst h5
          obtain rfl : on = 0 := by omega
          clear ha ho
          go_wp2_with fail
          go_meet
          case rel => exact ⟨rfl, by first | rfl | (simp; omega), HB.out, HX.out⟩
        · have f5 : (kind != 5) = true := by rw [bne_iff_ne]; omega
          obtain rfl : an = 0 := by omega
          clear ha h5
          by_cases h6 : kind = 6
          · subst h6
            clear ho
            go_wp2_with fail
            go_meet
            case rel => exact ⟨rfl, by first | rfl | (simp; omega), HB.out, HX.out⟩
          · have f6 : (kind != 6) = true := by rw [bne_iff_ne]; omega
            obtain rfl : on = 0 := by omega
            clear ho h6
            go_wp2_with fail
            go_meet
            case rel => exact ⟨rfl, by first | rfl | (simp; omega), HB.out, HX.out⟩
      case rest =>
      obtain ⟨rfl, rfl, hb0, hbx⟩ := hcut
      have HB := hid hb0
      have HX := hid hbx
      clear hb0 hbx
      cases bad with
      | true =>
        have hno : ¬ (num = true ∧ str = true ∧ (kind = 5 ∨ an = 0) ∧ (kind = 6 ∨ on = 0)) := by
          intro h
          have := hbad.out
          rw [decide_eq_true h] at this
          cases this
        obtain rfl : R = false := hNOT.out (fun h => hno h.2)
        clear hno
        go_wp2_with fail
        go_ret
        exact ⟨rfl, HB.out⟩
      | false =>
      have hyes : num = true ∧ str = true ∧ (kind = 5 ∨ an = 0) ∧ (kind = 6 ∨ on = 0) := by
        have := hbad.out
        refine Classical.byContradiction fun h => ?_
        rw [decide_eq_false h] at this
        cases this
      obtain ⟨rfl, rfl, ha, ho⟩ := hyes
      clear hbad
      obtain ⟨B0, B1, B2, B3, B4, B5, B6⟩ := HX.out
      have hOK : (0 ≤ kind ∧ kind ≤ 6) ∧ true = true ∧ true = true ∧ (kind = 5 ∨ an = 0) ∧ (kind = 6 ∨ on = 0) := ⟨⟨k0, k6⟩, rfl, rfl, ha, ho⟩
      clear ha ho
      by_cases hk : kind < 5
      · obtain rfl : R = true := hLEAF.out hOK hk
        clear hOK
        go_wp2_with fail
        go_ret
        exact ⟨rfl, HB.out⟩
      have hZ2 := hid (hZ.out hk)
      have hD2 := hid fun n => hD.out n hOK
      clear hOK hD hZ hLEAF hNOT
      by_cases hN0 : N = 0
      · subst hN0
        obtain rfl : R = false := by rw [hR.out, hZ2.out]
        go_wp2_with fail
        go_ret
        exact ⟨rfl, HB.out⟩
      obtain ⟨n, hn⟩ : ∃ n, N = n + 1 := ⟨N - 1, by omega⟩
      have hIH := hid (IH.out n hn)
      have hD3 := hid (hD2.out n)
      have hRR : Hid (R = mayJ (n + 1) (JV.mk kind g ls e s arr obj)) := by rw [hR.out, hn]; rfl
      have hNZ : ((N : Int) == 0) = false := by rw [beq_eq_false_iff_ne]; omega
      have hw1 : IntKind.i64.wrap ((N : Int) - 1) = (n : Int) := by rw [IntWalk.i64_in _ (by omega)]; omega
      have hN1 : (N : Int) ≤ 200 := by omega
      have hNp : 0 < (N : Int) := by omega
      clear hn hR hD2 IH hN0 hZ2 k0 k6
      · go_wp2
        clear B0 B1 B2 B3 B4 B5
        go_loopw [8, 105] (fun _ v105 wr => ∃ k : Nat, k ≤ an ∧ Hid (∀ x ∈ arr.take k, mayJ n x = true) ∧ v105 = .int .i64 k ∧ Below w.heap.size w wr ∧ wr.cell? ⟨w.heap.size, 6, none⟩ = some (.slice oa on oc)) (fun _ v105 _ => an - (intOf v105).toNat)
        case atStart => exact ⟨0, Nat.zero_le _, hid (by simp), rfl, HB.out, B6⟩
        case round =>
          clear B6
          obtain ⟨k, hk, hM, rfl, hb, hbox⟩ := hrel
          by_cases hlt : k < an
          · have hlt2 : (k : Int) < (an : Int) := by omega
            have hk1 : k < arr.length := by rw [HAL.out]; exact hlt
            obtain ⟨b, off, a1, c1, aa1, ac1, oa1, oc1, rfl, P1, C1⟩ := (hA.out.below hb).at hk1
            have rd := hid P1.rd
            clear P1
            unfold Cells7 strV at C1
            obtain ⟨x, hx⟩ : ∃ x, x = arr[k] := ⟨_, rfl⟩
            rw [← hx] at C1 rd
            obtain ⟨C10, C11, C12, C13, C14, C15, C16⟩ := C1
            have HXX := hid hx
            clear hx
            have hB1 := (Below.refl wr.heap.size wr).alloc (Nat.le_refl _) (.cells #[.int .i64 x.kind, .bool x.g, .slice a1 x.ls.length c1, .int .i64 x.e, .string ⟨x.s.toArray⟩, .slice aa1 x.arr.length ac1, .slice oa1 x.obj.length oc1] 28)
            have C := hIH.out x _ _ (rd.out.stay hB1) (HT.out.below (below_trans hb hB1))
            obtain ⟨dx, hdx⟩ : ∃ dx, dx = mayJ n x := ⟨_, rfl⟩
            rw [← hdx] at C
            replace C := hid C
            have HDX := hid hdx
            have HB1 := hid hB1
            clear hdx hB1 rd
            cases dx with
            | true =>
              go_wp2_with fail
              refine C.out.mono ?_
              rintro en w1 ⟨rfl, hb1⟩
              go_wp2
              go_roundw
              case rel => exact ⟨k + 1, by omega, hid (fun y hy => by
                rw [List.take_succ_eq_append_getElem hk1] at hy
                rcases List.mem_append.1 hy with h | h
                · exact hM.out y h
                · simp only [List.mem_singleton] at h
                  rw [h, ← HXX.out]
                  exact HDX.out.symm), by first | rfl | go_num, below_trans hb (below_trans HB1.out hb1), cell_stay (cell_stay hbox HB1.out) hb1⟩
              case measure => simp [intOf]; omega
            | false =>
              obtain rfl : R = false := by
                rw [hRR.out, Bool.eq_false_iff]
                intro h
                have := (hD3.out.1 h).1 x (by rw [HXX.out]; exact List.getElem_mem hk1)
                rw [← HDX.out] at this
                cases this
              go_wp2_with fail
              refine C.out.mono ?_
              rintro en w1 ⟨rfl, hb1⟩
              go_wp2
              go_ret
              exact ⟨rfl, below_trans hb (below_trans HB1.out hb1)⟩
          · obtain rfl : k = an := by omega
            have hlt2 : ¬ ((k : Nat) : Int) < (k : Int) := by omega
            rw [List.take_of_length_le (by rw [HAL.out]; exact Nat.le_refl _)] at hM
            have hmm := @run_makeMap Tryz.prog
            have hbl := cell_lt hbox
            have hKS := keySet_made wr
            have hB2 := (Below.refl wr.heap.size wr).alloc (Nat.le_refl _) (.map #[] 0)
            have HB2 := hid (below_trans hb hB2)
            have HBX := hid (cell_stay hbox hB2)
            have HKS := hid hKS
            have HM : Hid (w.heap.size ≤ wr.heap.size) := hb.size
            clear hB2 hKS
            go_wp2
            clear hmm hbl hbox
            generalize wr.alloc (.map #[] 0) = w2 at *
            generalize wr.heap.size = M at *
            clear hb
            go_loopw [11, 119] (fun _ v119 wr => ∃ j : Nat, j ≤ on ∧ Hid (∀ x ∈ obj.take j, soundB x.1 = true ∧ mayJ n x.2 = true) ∧ Hid (((obj.take j).map (·.1)).Nodup) ∧ Hid (KeySet wr M ((obj.take j).map (·.1))) ∧ v119 = .int .i64 j ∧ Below w.heap.size w wr) (fun _ v119 _ => on - (intOf v119).toNat)
            case atStart => exact ⟨0, Nat.zero_le _, hid (by simp), hid (by simp), hid (by simpa using HKS.out), rfl, HB2.out⟩
            case round =>
              obtain ⟨j, hj, hM2, hND, hKS, rfl, hb⟩ := hrel
              clear HKS HB2 HBX
              by_cases hlt3 : j < on
              · have hlt4 : (j : Int) < (on : Int) := by omega
                have hj1 : j < obj.length := by rw [HOL.out]; exact hlt3
                obtain ⟨b, off, a1, c1, aa1, ac1, oa1, oc1, rfl, hkl, P1, C1⟩ := (hO.out.below hb).at hj1
                have rd := hid P1.rd
                clear P1
                unfold Cells8f strV at C1
                obtain ⟨x, hx⟩ : ∃ x, x = obj[j] := ⟨_, rfl⟩
                rw [← hx] at C1 rd hkl
                have HXX := hid hx
                clear hx
                obtain ⟨key, x⟩ := x
                simp only at C1 rd hkl
                obtain ⟨kb, hkb⟩ : ∃ kb : ByteArray, kb = ⟨key.toArray⟩ := ⟨_, rfl⟩
                rw [← hkb] at C1
                replace hkb := hid hkb
                obtain ⟨C10, C11, C12, C13, C14, C15, C16, C17⟩ := C1
                have hB1 := (Below.refl wr.heap.size wr).alloc (Nat.le_refl _) (.cells #[.string kb, .int .i64 x.kind, .bool x.g, .slice a1 x.ls.length c1, .int .i64 x.e, .string ⟨x.s.toArray⟩, .slice aa1 x.arr.length ac1, .slice oa1 x.obj.length oc1] 100)
                have hFB : ∀ WW, WW = wr.alloc (.cells #[.string kb, .int .i64 x.kind, .bool x.g, .slice a1 x.ls.length c1, .int .i64 x.e, .string ⟨x.s.toArray⟩, .slice aa1 x.arr.length ac1, .slice oa1 x.obj.length oc1] 100) → BoxF WW wr.heap.size kb x.kind x.g a1 x.ls.length c1 x.e ⟨x.s.toArray⟩ aa1 x.arr.length ac1 oa1 x.obj.length oc1 := by
                  rintro WW rfl
                  exact ⟨by simp [go_sem], by simp [go_sem], by simp [go_sem], by simp [go_sem], by simp [go_sem], by simp [go_sem], by simp [go_sem], by simp [go_sem]⟩
                replace hFB := hid hFB
                go_upto_region 21 with fail
                have HFF := hid (hFB.out _ rfl)
                have HWB := hid (below_trans hb hB1)
                have HKW := hid (hKS.out.below hB1)
                have HRD := hid (rd.out.stay hB1)
                have HS2 : Hid (wr.heap.size < (wr.alloc (.cells #[.string kb, .int .i64 x.kind, .bool x.g, .slice a1 x.ls.length c1, .int .i64 x.e, .string ⟨x.s.toArray⟩, .slice aa1 x.arr.length ac1, .slice oa1 x.obj.length oc1] 100)).heap.size) := by show wr.heap.size < _; simp
                clear hFB hKS rd hB1 C10 C11 C12 C13 C14 C15 C16 C17
                generalize wr.alloc (.cells #[.string kb, .int .i64 x.kind, .bool x.g, .slice a1 x.ls.length c1, .int .i64 x.e, .string ⟨x.s.toArray⟩, .slice aa1 x.arr.length ac1, .slice oa1 x.obj.length oc1] 100) = W at *
                have HF := HFF
                obtain ⟨F, hF⟩ : ∃ F, F = wr.heap.size := ⟨_, rfl⟩
                have HMw : Hid (w.heap.size ≤ F) := by rw [hF]; exact hb.size
                rw [← hF] at HF HFF HS2 ⊢
                clear hF hb
                obtain ⟨fd, hfd⟩ : ∃ fd, fd = decide (key ∈ (obj.take j).map (·.1)) := ⟨_, rfl⟩
                obtain ⟨so, hso⟩ : ∃ so, so = soundB key := ⟨_, rfl⟩
                obtain ⟨my, hmy⟩ : ∃ my, my = mayJ n x := ⟨_, rfl⟩
                replace hfd := hid hfd
                go_cut [143] from 120 (fun v143 w' => v143 = .bool (fd || !so || !my) ∧ Below W.heap.size W w')
                case first =>
                  have hsz : kb.size = key.length := by rw [hkb.out]; rfl
                  obtain ⟨q0, q1, q2, q3, q4, q5, q6, q7⟩ := HF.out
                  have hlt5 : F < W.heap.size := HS2.out
                  have hlkA : ∀ w1, Below W.heap.size W w1 → (Instr.lookup 98 (.map (some M)) (.string kb) false).run Tryz.prog w1 = .ok (.bool fd) w1 := by
                    intro w1 h1
                    rw [hfd.out, hkb.out]
                    exact (HKW.out.below h1).look key hkl
                  cases fd with
                  | true =>
                    have hlk : ∀ n, (Instr.lookup 98 (.map (some M)) (.string kb) false).run Tryz.prog (W.drewN n) = .ok (.bool true) (W.drewN n) := fun n => hlkA _ (below_drewN (Below.refl _ _) n)
                    have hlk0 := hlkA _ (Below.refl _ _)
                    have hlk1 := hlkA _ (World.drew_below W)
                    clear hsz hlkA
                    first | go_quiet (fail) | fail
                    all_goals
                      go_wp2_with fail
                      go_meet
                      case rel => exact ⟨rfl, by first | exact below_drewN (Below.refl _ _) _ | exact Below.refl _ _⟩
                  | false =>
                    have hlk := hlkA _ (World.drew_below W)
                    have hLK := hid hlkA
                    clear hlkA
                    have CM : Hid (∀ w', (w'.cell? ⟨F, 0, none⟩ = some (.string kb) ∧ w'.cell? ⟨F, 1, none⟩ = some (.int .i64 x.kind) ∧ w'.cell? ⟨F, 2, none⟩ = some (.bool x.g) ∧ w'.cell? ⟨F, 3, none⟩ = some (.slice a1 x.ls.length c1) ∧ w'.cell? ⟨F, 4, none⟩ = some (.int .i64 x.e) ∧ w'.cell? ⟨F, 5, none⟩ = some (.string ⟨x.s.toArray⟩) ∧ w'.cell? ⟨F, 6, none⟩ = some (.slice aa1 x.arr.length ac1) ∧ w'.cell? ⟨F, 7, none⟩ = some (.slice oa1 x.obj.length oc1) ∧ (Instr.lookup 98 (.map (some M)) (.string kb) false).run Tryz.prog w' = .ok (.bool false) w' ∧ Below W.heap.size W w') → Calls Tryz.prog 33 #[.agg #[.int .i64 x.kind, .bool x.g, .slice a1 x.ls.length c1, .int .i64 x.e, .string ⟨x.s.toArray⟩, .slice aa1 x.arr.length ac1, .slice oa1 x.obj.length oc1], .int .i64 n] w' fun en w2 => en = .returned (.bool my) ∧ Below w'.heap.size w' w2) := by
                      intro w' h
                      rw [hmy]
                      exact hIH.out x _ _ (HRD.out.stay h.2.2.2.2.2.2.2.2.2) (HT.out.below (below_trans HWB.out h.2.2.2.2.2.2.2.2.2))
                    cases so with
                    | true =>
                      have CV : Hid (∀ w', (w'.cell? ⟨F, 0, none⟩ = some (.string kb) ∧ w'.cell? ⟨F, 1, none⟩ = some (.int .i64 x.kind) ∧ w'.cell? ⟨F, 2, none⟩ = some (.bool x.g) ∧ w'.cell? ⟨F, 3, none⟩ = some (.slice a1 x.ls.length c1) ∧ w'.cell? ⟨F, 4, none⟩ = some (.int .i64 x.e) ∧ w'.cell? ⟨F, 5, none⟩ = some (.string ⟨x.s.toArray⟩) ∧ w'.cell? ⟨F, 6, none⟩ = some (.slice aa1 x.arr.length ac1) ∧ w'.cell? ⟨F, 7, none⟩ = some (.slice oa1 x.obj.length oc1) ∧ (Instr.lookup 98 (.map (some M)) (.string kb) false).run Tryz.prog w' = .ok (.bool false) w' ∧ Below W.heap.size W w') → Calls Tryz.prog 43 #[.string kb] w' fun en w2 => en = .returned (.int .i64 (kb.size : Int)) ∧ Below w'.heap.size w' w2) := by
                        intro w' h
                        have hv : validN (nats key) = key.length := by simpa [soundB] using hso.symm
                        rw [hsz, ← hv, hkb.out]
                        exact utf_Valid key _ hkl (HT.out.below (below_trans HWB.out h.2.2.2.2.2.2.2.2.2)).1
                      clear hsz hso hmy
                      first | go_region_held3 (fun w' => w'.cell? ⟨F, 0, none⟩ = some (.string kb) ∧ w'.cell? ⟨F, 1, none⟩ = some (.int .i64 x.kind) ∧ w'.cell? ⟨F, 2, none⟩ = some (.bool x.g) ∧ w'.cell? ⟨F, 3, none⟩ = some (.slice a1 x.ls.length c1) ∧ w'.cell? ⟨F, 4, none⟩ = some (.int .i64 x.e) ∧ w'.cell? ⟨F, 5, none⟩ = some (.string ⟨x.s.toArray⟩) ∧ w'.cell? ⟨F, 6, none⟩ = some (.slice aa1 x.arr.length ac1) ∧ w'.cell? ⟨F, 7, none⟩ = some (.slice oa1 x.obj.length oc1) ∧ (Instr.lookup 98 (.map (some M)) (.string kb) false).run Tryz.prog w' = .ok (.bool false) w' ∧ Below W.heap.size W w') (first | (exact ⟨q0, q1, q2, q3, q4, q5, q6, q7, hlk, (Below.refl _ _).drew⟩) | (exact keepF hLK.out (by assumption) (by assumption)) | assumption) ((first | (go_at_call 43; (with_reducible refine (CV.out _ ?_).mono ?_); assumption; rintro e3 w3 ⟨rfl, hb3⟩) | (go_at_call 33; (with_reducible refine (CM.out _ ?_).mono ?_); assumption; rintro e4 w4 ⟨rfl, hb4⟩))) | fail
                      all_goals
                        rename_i hHeld
                        have hH := hHeld.2.2.2.2.2.2.2.2.2
                        clear hHeld
                        cases my <;>
                        (go_wp2_with fail
                         go_meet
                         case rel => exact ⟨rfl, hH⟩)
                    | false =>
                      obtain ⟨V, hV⟩ : ∃ V, V = validN (nats key) := ⟨_, rfl⟩
                      have hne : ¬ V = kb.size := by
                        rw [hV, hsz]
                        simpa [soundB] using hso.symm
                      have hq3 : (V == kb.size) = false := by rw [beq_eq_false_iff_ne]; exact hne
                      have hq4 : ((V : Int) == (kb.size : Int)) = false := by rw [beq_eq_false_iff_ne]; omega
                      have hq5 : ((V : Int) != (kb.size : Int)) = true := by rw [bne_iff_ne]; omega
                      have hq6 : (V != kb.size) = true := by rw [bne_iff_ne]; exact hne
                      have CV : Hid (∀ w', (w'.cell? ⟨F, 0, none⟩ = some (.string kb) ∧ w'.cell? ⟨F, 1, none⟩ = some (.int .i64 x.kind) ∧ w'.cell? ⟨F, 2, none⟩ = some (.bool x.g) ∧ w'.cell? ⟨F, 3, none⟩ = some (.slice a1 x.ls.length c1) ∧ w'.cell? ⟨F, 4, none⟩ = some (.int .i64 x.e) ∧ w'.cell? ⟨F, 5, none⟩ = some (.string ⟨x.s.toArray⟩) ∧ w'.cell? ⟨F, 6, none⟩ = some (.slice aa1 x.arr.length ac1) ∧ w'.cell? ⟨F, 7, none⟩ = some (.slice oa1 x.obj.length oc1) ∧ (Instr.lookup 98 (.map (some M)) (.string kb) false).run Tryz.prog w' = .ok (.bool false) w' ∧ Below W.heap.size W w') → Calls Tryz.prog 43 #[.string kb] w' fun en w2 => en = .returned (.int .i64 (V : Int)) ∧ Below w'.heap.size w' w2) := by
                        intro w' h
                        rw [hV, hkb.out]
                        exact utf_Valid key _ hkl (HT.out.below (below_trans HWB.out h.2.2.2.2.2.2.2.2.2)).1
                      clear hsz hso hmy hV CM
                      have CV2 := hid (CV.out (World.drew W) ⟨q0, q1, q2, q3, q4, q5, q6, q7, hlk, World.drew_below W⟩)
                      clear CV
                      first | go_region_law (first | (go_simp; go_at_call 43; refine CV2.out.mono ?_; rintro e3 w3 ⟨rfl, hb3⟩; have q0' := (cell_stay (W := World.drew W) q0 hb3); have hb4 := hid (below_trans (World.drew_below W) hb3); clear hb3)) | fail
                      all_goals
                        go_wp2_with fail
                        go_meet
                        case rel => exact ⟨rfl, hb4.out⟩
                case rest =>
                  obtain ⟨rfl, hbw⟩ := hcut
                  have HF2 := hid (HF.out.stay hbw)
                  have HWB2 := hid (below_trans HWB.out hbw)
                  have hmem : (key, x) ∈ obj := by rw [HXX.out]; exact List.getElem_mem hj1
                  have htk : obj.take (j + 1) = obj.take j ++ [(key, x)] := by rw [List.take_succ_eq_append_getElem hj1, ← HXX.out]
                  obtain ⟨bd, hbd⟩ : ∃ bd, bd = (fd || !so || !my) := ⟨_, rfl⟩
                  rw [← hbd]
                  obtain ⟨q0, q1, q2, q3, q4, q5, q6, q7⟩ := HF2.out
                  have HR : Hid (bd = true → R = false) := by
                    intro hb1
                    rw [hRR.out, Bool.eq_false_iff]
                    intro hR
                    obtain ⟨_, d2, d3⟩ := hD3.out.1 hR
                    have d4 := d2 _ hmem
                    simp only at d4
                    have e1 : fd = false := by
                      rw [hfd.out, decide_eq_false_iff_not]
                      intro hin
                      have d5 := d3.sublist ((List.take_sublist (j + 1) obj).map (·.1))
                      rw [htk, List.map_append, List.nodup_append] at d5
                      exact d5.2.2 key hin key (by simp) rfl
                    rw [hbd, e1, hso, hmy, d4.1, d4.2] at hb1
                    cases hb1
                  have hstore := (HKW.out.below hbw).store (by simp; omega) key hkl
                  rw [← hkb.out] at hstore
                  obtain ⟨w3, hrun, hks, hgr⟩ := hstore
                  have HKS3 := hid hks
                  have HB3 : Hid (Below w.heap.size w w3) := HWB2.out.grown hgr HWB2.out.size (fun q hq => by cases hq; exact HM.out)
                  have HM3 : Hid (bd = false → (∀ x ∈ obj.take (j + 1), soundB x.1 = true ∧ mayJ n x.2 = true) ∧ ((obj.take (j + 1)).map (·.1)).Nodup) := by
                    intro hb1
                    rw [hb1] at hbd
                    have e1 : fd = false ∧ so = true ∧ my = true := by
                      cases fd <;> cases so <;> cases my <;> simp at hbd ⊢
                    rw [htk]
                    refine ⟨fun y hy => ?_, ?_⟩
                    · rcases List.mem_append.1 hy with h | h
                      · exact hM2.out y h
                      · simp only [List.mem_singleton] at h
                        rw [h]
                        exact ⟨by rw [← hso]; exact e1.2.1, by rw [← hmy]; exact e1.2.2⟩
                    · rw [List.map_append, List.nodup_append]
                      refine ⟨hND.out, by simp, fun u hu v hv huv => ?_⟩
                      simp at hv
                      have e2 := e1.1
                      rw [hfd.out, decide_eq_false_iff_not] at e2
                      exact e2 (by rw [← hv, ← huv]; exact hu)
                  have HKE : Hid ((obj.take (j + 1)).map (·.1) = (obj.take j).map (·.1) ++ [key]) := by rw [htk, List.map_append]; rfl
                  clear hbd hso hmy hmem htk hks hgr hbw
                  cases bd with
                  | true =>
                    obtain rfl : R = false := HR.out rfl
                    clear hrun
                    go_wp2_with fail
                    go_ret
                    exact ⟨rfl, HWB2.out⟩
                  | false =>
                    go_wp2
                    go_roundw
                    case rel => exact ⟨j + 1, by omega, hid (HM3.out rfl).1, hid (HM3.out rfl).2, hid (by rw [HKE.out]; exact HKS3.out), by first | rfl | go_num, HB3.out⟩
                    case measure => simp [intOf]; omega
              · obtain rfl : j = on := by omega
                have hlt4 : ¬ ((j : Nat) : Int) < (j : Int) := by omega
                rw [List.take_of_length_le (by rw [HOL.out]; exact Nat.le_refl _)] at hM2 hND
                obtain rfl : R = true := by rw [hRR.out]; exact hD3.out.2 ⟨hM.out, hM2.out, hND.out⟩
                go_wp2
                go_ret
                exact ⟨rfl, hb⟩

theorem value_may_n : ∀ (n : Nat), n ≤ 200 → MayC n
  | 0, _ => fun v cs w h hT => by
    obtain ⟨a, c, aa, ac, oa, oc, P⟩ := h.parts
    have e := P.cells
    subst e
    exact may_walk 0 (by omega) (fun m hm => by omega) v a c aa ac oa oc w hT P
  | n + 1, hn => fun v cs w h hT => by
    obtain ⟨a, c, aa, ac, oa, oc, P⟩ := h.parts
    have e := P.cells
    subst e
    exact may_walk (n + 1) hn (fun m hm => by obtain rfl : n = m := by omega
                                              exact value_may_n n (by omega)) v a c aa ac oa oc w hT P

theorem value_May (v : JV) (cs : List Value) (w : World) (h : RdV w cs v) (hT : Tabs w) : Calls Tryz.prog 8 #[.agg cs.toArray] w fun en w' => en = .returned (.bool (mayJ 200 v)) ∧ Below w.heap.size w w' := by
  have IH := value_may_n 200 (Nat.le_refl _)
  obtain ⟨a, c, aa, ac, oa, oc, P⟩ := h.parts
  have e := P.cells
  subst e
  clear P
  generalize v.kind = kind at h
  generalize v.g = g at h
  generalize v.ls.length = n at h
  generalize v.e = e at h
  generalize v.s = s at h
  generalize v.arr.length = an at h
  generalize v.obj.length = on at h
  have hB1 := (Below.refl w.heap.size w).alloc (Nat.le_refl _) (.cells #[.int .i64 kind, .bool g, .slice a n c, .int .i64 e, strV s, .slice aa an ac, .slice oa on oc] 28)
  have C := IH v _ _ (h.stay hB1) (hT.below hB1)
  have HB := hid hB1
  replace C := hid C
  clear IH h hB1 hT
  generalize mayJ 200 v = R at *
  unfold valCs at *
  go_enter Tryz.func8, Tryz.ntmps8
  go_wp2_with fail
  refine C.out.mono ?_
  rintro en w1 ⟨rfl, hb1⟩
  go_wp2
  go_ret
  exact ⟨rfl, below_trans HB.out hb1⟩

end Go.Proofs.YtldhebpkplglcaaGreatDoor
