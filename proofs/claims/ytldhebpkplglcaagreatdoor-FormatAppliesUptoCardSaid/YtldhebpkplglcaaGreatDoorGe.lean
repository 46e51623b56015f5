/- format.json and format.plain at any value that may be. The closure of @tsv: strings.NewReplacer. format.row over items of any kind. format.coded: base64 read. format.Apply at any value that may be: what it tells; @html. format.table at any value that may be. format.Apply @base64d at a Text. format.Apply at each name (printed by tools/gen_fmapply.py). format.Apply: all of it (printed by tools/gen_fmg.py). -/
import Derived.Test.YtldhebpkplglcaaGreatDoorGd
import Derived.Test.YtldhebpkplglcaaGreatDoorJLen
import Derived.Test.YtldhebpkplglcaaGreatDoorFc
import Derived.Test.YtldhebpkplglcaaGreatDoorGa
import Derived.Test.YtldhebpkplglcaaGreatDoorFg
import Derived.Test.YtldhebpkplglcaaGreatDoorFf
import Derived.Test.YtldhebpkplglcaaGreatDoorPc
namespace Go.Proofs.YtldhebpkplglcaaGreatDoor
open Go.RowKit

/-- A value that may be, of no great size, in memory. -/
structure GV (w : World) (cs : List Value) (v : JV) : Prop where
  may : mayJ 200 v = true
  small : SmallV v
  rd : RdV w cs v
  tabs : Tabs w
  mx : Mx w
  len : (jsonJ 200 v).length ≤ 2000000000
  str : v.s.length ≤ 1048576
theorem GV.below {w w' : World} {cs : List Value} {v : JV} (h : GV w cs v) (hb : Below w.heap.size w w') : GV w' cs v := ⟨h.may, h.small, h.rd.stay hb, h.tabs.below hb, h.mx.below hb, h.len, h.str⟩
/-- A value's plain text. -/
def plainJ (v : JV) : List UInt8 := if v.kind = 4 then v.s else jsonJ 200 v
theorem GV.plen {w : World} {cs : List Value} {v : JV} (h : GV w cs v) : (plainJ v).length ≤ 2000000000 := by
  unfold plainJ
  split
  · have := h.str; omega
  · exact h.len

set_option maxRecDepth 100000 in
set_option maxHeartbeats 1600000 in
theorem format_json (v : JV) (cs : List Value) (w : World) (G : GV w cs v) :
    Calls Tryz.prog 13 #[.agg cs.toArray] w fun e w' => e = .returned (.string ⟨(jsonJ 200 v).toArray⟩) ∧ Below w.heap.size w w' := by
  obtain ⟨a, c, aa, ac, oa, oc, P⟩ := G.rd.parts
  have hcs := P.cells
  clear P
  subst hcs
  have hl := G.len
  have CM := fun (W : World) (hb : Below w.heap.size w W) => emit_Text v _ W G.may G.small (G.rd.stay hb) (G.tabs.below hb) (by omega)
  clear G hl
  unfold valCs strV at CM ⊢
  generalize jsonJ 200 v = T at *
  have hB := fun o => (Below.refl w.heap.size w).alloc (Nat.le_refl _) o
  generalize v.kind = kind, v.g = g, v.ls.length = ln, v.e = ee, v.s.toArray = sa, v.arr.length = an, v.obj.length = on at *
  replace CM := hid CM
  have HB := hid hB
  go_enter Tryz.func13, Tryz.ntmps13
  go_wp2_with fail
  refine (CM.out _ (HB.out _)).mono ?_
  rintro e w1 ⟨rfl, hb1⟩
  have HB1 := hid (below_trans (HB.out _) hb1)
  clear hb1 CM
  go_wp2_with fail
  go_ret
  exact ⟨rfl, HB1.out⟩

set_option maxRecDepth 100000 in
set_option maxHeartbeats 1600000 in
theorem format_plainV (v : JV) (cs : List Value) (w : World) (G : GV w cs v) :
    Calls Tryz.prog 12 #[.agg cs.toArray] w fun e w' => e = .returned (.string ⟨(plainJ v).toArray⟩) ∧ Below w.heap.size w w' := by
  obtain ⟨a, c, aa, ac, oa, oc, P⟩ := G.rd.parts
  have hcs := P.cells
  clear P
  subst hcs
  have CM := fun (W : World) (hb : Below w.heap.size w W) => format_json v _ W (G.below hb)
  clear G
  have hB := fun o => (Below.refl w.heap.size w).alloc (Nat.le_refl _) o
  have HB := hid hB
  by_cases hk : v.kind = 4
  · have e : plainJ v = v.s := by unfold plainJ; rw [if_pos hk]
    rw [e]
    clear e CM
    unfold valCs strV
    rw [hk]
    generalize v.g = g, v.ls.length = ln, v.e = ee, v.s.toArray = sa, v.arr.length = an, v.obj.length = on at *
    clear hk
    go_enter Tryz.func12, Tryz.ntmps12
    go_wp2_with fail
    go_ret
    exact ⟨rfl, HB.out _⟩
  · have e : plainJ v = jsonJ 200 v := by unfold plainJ; rw [if_neg hk]
    rw [e]
    clear e
    unfold valCs strV at CM ⊢
    have hk2 : (v.kind == 4) = false := by rw [beq_eq_false_iff_ne]; exact hk
    generalize jsonJ 200 v = T at *
    generalize v.kind = kind, v.g = g, v.ls.length = ln, v.e = ee, v.s.toArray = sa, v.arr.length = an, v.obj.length = on at *
    replace CM := hid CM
    clear hk
    go_enter Tryz.func12, Tryz.ntmps12
    go_wp2_with fail
    refine (CM.out _ (HB.out _)).mono ?_
    rintro e w1 ⟨rfl, hb1⟩
    have HB1 := hid (below_trans (HB.out _) hb1)
    clear hb1 CM
    go_wp2_with fail
    go_ret
    exact ⟨rfl, HB1.out⟩

end Go.Proofs.YtldhebpkplglcaaGreatDoor

namespace Go.Proofs.YtldhebpkplglcaaGreatDoor
open Go.RowKit

def tsvP : List Pair := [(9, [92, 116]), (10, [92, 110]), (13, [92, 114]), (92, [92, 92])]
def htmlP : List Pair := [(60, [38, 108, 116, 59]), (62, [38, 103, 116, 59]), (38, [38, 97, 109, 112, 59]), (39, [38, 35, 51, 57, 59]), (34, [38, 113, 117, 111, 116, 59])]
theorem row_lit {w : World} {N : Nat} {cs : Array Value} {T : TypeId} {fr : Nat × Nat} (h : w.heap[N]? = some (.cells cs T fr)) (l : List Value) (hl : cs.toList = l) : Row w (some ⟨N, 0, none⟩) l := by
  intro j x hj
  refine ⟨N, 0, rfl, ?_⟩
  rw [Nat.zero_add, blk_cell h]
  rw [← hl] at hj
  simpa using hj

set_option maxRecDepth 100000 in
set_option maxHeartbeats 1600000 in
theorem format_tsv (s : List UInt8) (w : World) (hs : s.length ≤ 1048576) :
    Calls Tryz.prog 46 #[.string ⟨s.toArray⟩] w fun e w' => e = .returned (.string ⟨(swapL (substL tsvP) s).toArray⟩) ∧ Below w.heap.size w w' := by
  have C1 := hid fun (W : World) (N : Nat) (h : W.heap[N]? = some (.cells (strsR (oldnew tsvP)).toArray 9 (0, 0))) => new_Replacer (oldnew tsvP) N 8 W (row_lit h _ (by simp)) (by decide) (by decide) (by decide)
  have C2 := hid fun (B b g cp : Nat) (w1 : World) h1 h2 h3 h4 => replacer_Replace tsvP s w.heap.size B b g 8 cp w w1 h1 h2 h3 rfl h4 (by omega) (by decide) (by decide) (by decide) (by decide) (by intro p hp; obtain rfl : _ = p := Option.some.inj hp; decide)
  generalize swapL (substL tsvP) s = T at *
  generalize (⟨s.toArray⟩ : ByteArray) = sb at *
  go_enter Tryz.func46, Tryz.ntmps46
  go_wp2_with fail
  refine (C1.out _ w.heap.size (heap_alloc_new w _)).mono ?_
  rintro e w1 ⟨b, g, cp, h1, rfl, h2, h3, h4⟩
  have hle : w.heap.size ≤ (w.alloc (.cells (strsR (oldnew tsvP)).toArray 9)).heap.size := by simp
  have hb0 := (Below.refl w.heap.size w).alloc (Nat.le_refl _) (.cells (strsR (oldnew tsvP)).toArray 9)
  have C3 := hid (C2.out _ b g cp w1 (Nat.le_trans hle h1) (hb0.trans (h4.mono hle)) h2 h3)
  clear C1 C2 h1 h2 h3 h4 hle hb0
  go_wp2_with fail
  refine C3.out.mono ?_
  rintro e w2 ⟨rfl, hb2⟩
  have HB2 := hid hb2
  clear hb2 C3
  go_wp2_with fail
  go_ret
  exact ⟨rfl, HB2.out⟩

end Go.Proofs.YtldhebpkplglcaaGreatDoor

namespace Go.Proofs.YtldhebpkplglcaaGreatDoor
open Go.RowKit

/-- What an item is written as. -/
def itemG (null : List UInt8) (q : List UInt8 → List UInt8) (x : JV) : List UInt8 := if x.kind = 0 then null else if x.kind = 4 then q x.s else jsonJ 200 x
def deepB (arr : List JV) : Bool := arr.any fun x => decide (4 < x.kind)
theorem deep_take {arr : List JV} {k : Nat} (hk : k < arr.length) : deepB (arr.take (k + 1)) = (deepB (arr.take k) || decide (4 < arr[k].kind)) := by
  unfold deepB
  rw [List.take_succ_eq_append_getElem hk, List.any_append]
  simp

theorem leaf_len {f : Nat} {x : JV} (h : mayJ f x = true) (h5 : x.kind < 5) (hs : x.s.length ≤ 1048576) : (jsonJ f x).length ≤ 12582914 := by
  have h0 := may_kind h
  unfold jsonJ
  split
  · simp [nullT]
  split
  · simp [falseT]
  split
  · simp [trueT]
  split
  · have := num_len h ‹_›; omega
  split
  · have := quoteA_len false x.s; omega
  omega
theorem join_le (sep : List UInt8) (K : Nat) : ∀ l : List (List UInt8), (∀ x ∈ l, x.length ≤ K) → (Lib.join l sep).length ≤ l.length * (K + sep.length)
  | [], _ => by simp [Lib.join]
  | [x], h => by have := h x (by simp); rw [Lib.join_one, List.length_singleton]; omega
  | x :: y :: l, h => by
    have h1 := h x (by simp)
    have h2 := join_le sep K (y :: l) (fun z hz => h z (by simp [hz]))
    have e : Lib.join (x :: y :: l) sep = x ++ sep ++ Lib.join (y :: l) sep := by simp [Lib.join]
    rw [e, List.length_append, List.length_append, List.length_cons, Nat.add_mul]
    omega
theorem row_len {arr : List JV} {null sep : List UInt8} {q : List UInt8 → List UInt8} (hn : arr.length ≤ 1048576) (hk : ∀ x ∈ arr, mayJ 200 x = true ∧ SmallV x ∧ x.s.length ≤ 1048576) (hq : ∀ s, (q s).length ≤ 12 * s.length + 2) (h1 : null.length ≤ 10) (h2 : sep.length ≤ 10) (hd : deepB arr = false) :
    (Lib.join (arr.map (itemG null q)) sep).length ≤ 140737488355328 := by
  have h := join_le sep 12582914 (arr.map (itemG null q)) (by
    intro y hy
    obtain ⟨x, hx, rfl⟩ := List.mem_map.1 hy
    obtain ⟨m1, m2, m3⟩ := hk x hx
    have h5 : x.kind < 5 := by
      have := List.any_eq_false.1 hd x hx
      simp at this
      omega
    unfold itemG
    split
    · omega
    split
    · have := hq x.s; omega
    exact leaf_len m1 h5 m3)
  rw [List.length_map] at h
  have h3 : arr.length * (12582914 + sep.length) ≤ 1048576 * (12582914 + 10) := Nat.mul_le_mul hn (by omega)
  omega

set_option maxRecDepth 100000 in
set_option maxHeartbeats 6400000 in
theorem format_rowV (g : Nat) (eg : ∀ args w, (callFunc g args).run Tryz.prog w = .ok (.enter g args) w) (q : List UInt8 → List UInt8) (hF : ∀ (s : List UInt8) (W : World), s.length ≤ 1048576 → Mx W → Calls Tryz.prog g #[.string ⟨s.toArray⟩] W fun e w' => e = .returned (.string ⟨(q s).toArray⟩) ∧ Below W.heap.size W w')
    (arr : List JV) (aa : Option Addr) (ac : Nat) (sep null : List UInt8) (w : World) (hR : RdA w aa arr) (hM : Mx w) (hT0 : Tabs w) (hn : arr.length ≤ 1048576) (hk : ∀ x ∈ arr, mayJ 200 x = true ∧ SmallV x ∧ x.s.length ≤ 1048576)
    (hl : deepB arr = false → (Lib.join (arr.map (itemG null q)) sep).length ≤ 140737488355328) :
    Calls Tryz.prog 21 #[.slice aa arr.length ac, .string ⟨sep.toArray⟩, .string ⟨null.toArray⟩, .func (.func g) #[] #[]] w fun e w' => e = .returned (.tuple #[.string ⟨(if deepB arr = true then [] else Lib.join (arr.map (itemG null q)) sep).toArray⟩, .int .i64 (if deepB arr = true then 9 else 0)]) ∧ Below w.heap.size w w' := by
  obtain ⟨T, hT⟩ : ∃ T, T = Lib.join (arr.map (itemG null q)) sep := ⟨_, rfl⟩
  rw [← hT] at hl ⊢
  obtain ⟨T2, hT2⟩ : ∃ T2, T2 = (if deepB arr = true then [] else T) := ⟨_, rfl⟩
  obtain ⟨E2, hE2⟩ : ∃ E2 : Int, E2 = (if deepB arr = true then 9 else 0) := ⟨_, rfl⟩
  rw [← hT2, ← hE2]
  have hyes := hid (show deepB arr = true → T2 = [] ∧ E2 = 9 from fun h => by rw [hT2, hE2, if_pos h, if_pos h]; exact ⟨rfl, rfl⟩)
  have hno := hid (show deepB arr = false → T2 = T ∧ E2 = 0 from fun h => by rw [hT2, hE2, if_neg (by rw [h]; decide), if_neg (by rw [h]; decide)]; exact ⟨rfl, rfl⟩)
  clear hT2 hE2
  replace hT := hid hT
  replace hl := hid hl
  replace hF := hid hF
  replace hk := hid hk
  replace hR := hid hR
  replace hM := hid hM
  replace hT0 := hid hT0
  go_enter Tryz.func21, Tryz.ntmps21
  go_wp2
  go_loopw [10, 15] (fun v i wr => ∃ k : Nat, i = .int .i64 (k : Nat) ∧ k ≤ arr.length ∧ wr.ownsRow w.heap.size 9 1 v k (strsF ((arr.take k).map (itemG null q))) ∧ Below w.heap.size w wr ∧ Hid (deepB (arr.take k) = false)) (fun _ i _ => arr.length - (intOf i).toNat)
  case atStart => exact ⟨0, rfl, Nat.zero_le _, World.ownsRow_nil _ _ _ _, Below.refl _ _, hid rfl⟩
  case round =>
    obtain ⟨k, rfl, hkl, hown, hb, hdp⟩ := hrel
    have HB := hid hb
    have HO := hid hown
    have hszw := hb.size
    clear hown hb
    by_cases hke : k = arr.length
    · have HO2 := HO.out
      rw [hke, List.take_length] at HO2
      have hd := hdp.out
      rw [hke, List.take_length] at hd
      have C := join_own (arr.map (itemG null q)) sep _ arr.length _ wr (by simp) HO2 (by rw [← hT.out]; exact hl.out hd) (by simp; omega)
      rw [← hT.out] at C
      replace C := hid C
      obtain ⟨f1, f2⟩ := hno.out hd
      replace f1 := hid f1
      replace f2 := hid f2
      subst hke
      clear HO2 hd
      go_wp2_with fail
      refine (C.out).mono ?_
      rintro e w1 ⟨rfl, hb1⟩
      have HB1 := hid (below_trans HB.out hb1)
      clear hb1
      go_wp2_with fail
      go_ret2
      exact ⟨by rw [f1.out, f2.out]; rfl, HB1.out⟩
    · have hkl2 : k < arr.length := by omega
      obtain ⟨b, off, a, c, aa', ac', oa, oc, rfl, P, h7⟩ := (hR.out.below HB.out).at hkl2
      obtain ⟨m1, m2, m3⟩ := hk.out arr[k] (List.getElem_mem hkl2)
      have hk06 := may_kind m1
      have hdt := deep_take hkl2
      rw [hdp.out, Bool.false_or] at hdt
      have hdall : 4 < arr[k].kind → deepB arr = true := fun h => List.any_eq_true.2 ⟨arr[k], List.getElem_mem hkl2, by simpa using h⟩
      have HT : Hid (strsF ((arr.take (k + 1)).map (itemG null q)) = strsF ((arr.take k).map (itemG null q)) ++ [strV (itemG null q arr[k])]) := by
        show strsF _ = _
        rw [List.take_add_one, List.getElem?_eq_getElem hkl2, Option.toList_some, List.map_append, List.map_cons, List.map_nil, strsF_app]
      obtain ⟨X, hX⟩ : ∃ X, X = strsF ((arr.take k).map (itemG null q)) := ⟨_, rfl⟩
      rw [← hX] at HO HT
      have CJ := fun (W : World) (hb : Below wr.heap.size wr W) (hbw : Below w.heap.size w W) (h5 : arr[k].kind < 5) => format_json arr[k] _ W ⟨m1, m2, P.rd.stay hb, hT0.out.below hbw, hM.out.below hbw, by have := leaf_len m1 h5 m3; omega, m3⟩
      clear P hX m1 m2
      have hI0 : arr[k].kind = 0 → itemG null q arr[k] = null := fun h => by unfold itemG; rw [if_pos h]
      have hI4 : arr[k].kind = 4 → itemG null q arr[k] = q arr[k].s := fun h => by unfold itemG; rw [if_neg (by rw [h]; decide), if_pos h]
      have hIn : arr[k].kind ≠ 0 → arr[k].kind ≠ 4 → itemG null q arr[k] = jsonJ 200 arr[k] := fun h h' => by unfold itemG; rw [if_neg h, if_neg h']
      unfold valCs strV at CJ
      generalize jsonJ 200 arr[k] = J at *
      generalize itemG null q arr[k] = it at *
      generalize arr[k].kind = kind at *
      generalize arr[k].g = gg at *
      generalize arr[k].ls.length = nn at *
      generalize arr[k].e = ee at *
      generalize arr[k].s = ss at *
      generalize arr[k].arr.length = an at *
      generalize arr[k].obj.length = on at *
      obtain ⟨h0, h1, h2, h3, h4, h5, h6⟩ := h7
      unfold strV at h4
      obtain ⟨w2, hw2⟩ : ∃ w2, w2 = wr.alloc (.cells #[.int .i64 kind, .bool gg, .slice a nn c, .int .i64 ee, .string ⟨ss.toArray⟩, .slice aa' an ac', .slice oa on oc] 28) := ⟨_, rfl⟩
      have hb2 : Below wr.heap.size wr w2 := by rw [hw2]; exact (Below.refl _ wr).alloc (Nat.le_refl _) _
      have HO2 := hid (owns_below HO.out hb2)
      have HB2 := hid (below_trans HB.out hb2)
      have hsz2 := Nat.le_trans hszw hb2.size
      have hse : (wr.alloc (.cells #[.int .i64 kind, .bool gg, .slice a nn c, .int .i64 ee, .string ⟨ss.toArray⟩, .slice aa' an ac', .slice oa on oc] 28)).heap.size = wr.heap.size + 1 := by simp
      by_cases hk0 : kind = 0
      · subst hk0
        rw [hI0 rfl] at HT
        have HD := hid (show deepB (arr.take (k + 1)) = false by rw [hdt]; rfl)
        clear hI0 hI4 hIn CJ hdt hdall hk06
        have hown2 := HO2.out
        rw [hw2] at hown2 hsz2
        unfold strV at HT
        have HB2' := HB2.out
        rw [hw2] at HB2'
        clear hb2 hw2 HB2
        have HB3 := hid HB2'
        clear HB2'
        go_wp2_with (at_builtin; refine wpList_push strSlice rfl _ _ rfl w.heap.size hown2 rfl (by rw [hse]; rfl) rfl (by unfold maxLen; omega) (by omega) hsz2 ?_; intro v' w3 hown' hb')
        rw [← HT.out] at hown'
        have HOW := hid hown'
        have HB4 := hid (HB3.out.trans hb')
        clear hown' hb' hown2
        go_wp2_with fail
        go_roundw
        case rel => exact ⟨k + 1, by go_num, by omega, HOW.out, HB4.out, HD⟩
        case measure => simp [intOf]; omega
      · by_cases hk4 : kind = 4
        · subst hk4
          rw [hI4 rfl] at HT
          have HD := hid (show deepB (arr.take (k + 1)) = false by rw [hdt]; rfl)
          clear hI0 hI4 hIn CJ hdt hdall hk06 hse
          have C := hF.out ss w2 m3 (hM.out.below HB2.out)
          rw [hw2] at C
          replace C := hid C
          replace hw2 := hid hw2
          clear hb2
          go_wp2_with fail
          refine (C.out).mono ?_
          rw [← hw2.out]
          rintro e w3 ⟨rfl, hb3⟩
          have hown3 := owns_below HO2.out hb3
          have HB3 := hid (below_trans HB2.out hb3)
          have hsz3 := Nat.le_trans hsz2 hb3.size
          clear hb3 C hw2
          unfold strV at HT
          go_wp2_with (at_builtin; refine wpList_push strSlice rfl _ _ rfl w.heap.size (w0 := w3) hown3 rfl rfl rfl (by unfold maxLen; omega) (by omega) hsz3 ?_; intro v' w4 hown' hb')
          rw [← HT.out] at hown'
          have HOW := hid hown'
          have HB4 := hid (HB3.out.trans hb')
          clear hown' hb' hown3
          go_wp2_with fail
          go_roundw
          case rel => exact ⟨k + 1, by go_num, by omega, HOW.out, HB4.out, HD⟩
          case measure => simp [intOf]; omega
        · by_cases hk5 : 4 < kind
          · obtain ⟨f1, f2⟩ := hyes.out (hdall hk5)
            replace f1 := hid f1
            replace f2 := hid f2
            rw [hw2] at HB2
            clear hI0 hI4 hIn CJ hdt hdall hse hw2 hb2 HO2 hsz2
            obtain rfl | rfl : kind = 5 ∨ kind = 6 := by omega
            · clear hk0 hk4 hk5 hk06
              go_wp2_with fail
              go_ret2
              exact ⟨by rw [f1.out, f2.out]; rfl, HB2.out⟩
            · clear hk0 hk4 hk5 hk06
              go_wp2_with fail
              go_ret2
              exact ⟨by rw [f1.out, f2.out]; rfl, HB2.out⟩
          · rw [hIn hk0 hk4] at HT
            have HD := hid (show deepB (arr.take (k + 1)) = false by rw [hdt]; simpa using hk5)
            have e0 : (kind == 0) = false := by rw [beq_eq_false_iff_ne]; exact hk0
            have e4 : (kind == 4) = false := by rw [beq_eq_false_iff_ne]; exact hk4
            have e5 : (kind == 5) = false := by rw [beq_eq_false_iff_ne]; omega
            have e6 : (kind == 6) = false := by rw [beq_eq_false_iff_ne]; omega
            have C := CJ w2 hb2 HB2.out (by omega)
            rw [hw2] at C
            replace C := hid C
            replace hw2 := hid hw2
            clear hI0 hI4 hIn CJ hdt hdall hk06 hse hk0 hk4 hk5 hb2
            go_wp2_with fail
            refine (C.out).mono ?_
            rw [← hw2.out]
            rintro e w3 ⟨rfl, hb3⟩
            have hown3 := owns_below HO2.out hb3
            have HB3 := hid (below_trans HB2.out hb3)
            have hsz3 := Nat.le_trans hsz2 hb3.size
            clear hb3 C hw2
            unfold strV at HT
            go_wp2_with (at_builtin; refine wpList_push strSlice rfl _ _ rfl w.heap.size (w0 := w3) hown3 rfl rfl rfl (by unfold maxLen; omega) (by omega) hsz3 ?_; intro v' w4 hown' hb')
            rw [← HT.out] at hown'
            have HOW := hid hown'
            have HB4 := hid (HB3.out.trans hb')
            clear hown' hb' hown3
            go_wp2_with fail
            go_roundw
            case rel => exact ⟨k + 1, by go_num, by omega, HOW.out, HB4.out, HD⟩
            case measure => simp [intOf]; omega

end Go.Proofs.YtldhebpkplglcaaGreatDoor

namespace Go.Proofs.YtldhebpkplglcaaGreatDoor
open Go.RowKit

theorem idx64 (c : UInt8) : Lib.indexByte signL c = match signIx c with | none => -1 | some k => (k : Int) := by
  have h : ∀ n : Nat, n < 256 → Lib.indexByte signL (UInt8.ofNat n) = match signIx (UInt8.ofNat n) with | none => -1 | some k => (k : Int) := by decide +kernel
  have := h c.toNat (u8_lt c)
  rwa [UInt8.ofNat_toNat] at this
theorem signIx_lt (c : UInt8) : ∀ k, signIx c = some k → k < 64 := by
  have h : ∀ n : Nat, n < 256 → ∀ k, signIx (UInt8.ofNat n) = some k → k < 64 := by
    intro n _ k hk
    unfold signIx at hk
    have := List.findIdx?_eq_some_iff_getElem.1 hk
    obtain ⟨h1, _⟩ := this
    exact h1
  have := h c.toNat (u8_lt c)
  rwa [UInt8.ofNat_toNat] at this
/-- What format.coded answers. -/
def codedR (s : List UInt8) : List UInt8 × Bool := match debL 0 0 (Lib.trimRightB s 61) with
  | none => ([], false)
  | some out => (out, decide (s = b64 out) || decide (s = Lib.trimRightB (b64 out) 61))

theorem wraps_u32c (n : Int) (h₀ : 0 ≤ n) (h₁ : n < 2 ^ 32) : IntKind.u32.wrap n = n := by rw [IntKind.wrap_u32]; omega
theorem or6 (n x : Nat) (hn : n < 64) (hx : x < 64) : bits BinOp.or IntKind.u32 ((n : Int) * 64) (x : Int) = ((n * 64 + x : Nat) : Int) := by
  rw [bits_join .u32 32 (by decide) wraps_u32c 6 ((n : Int) * 64) (x : Int) (by omega) (by omega) (by omega) (by omega) (by omega) (by omega)]
  omega
theorem and_m (v i : Nat) (hi : i ≤ 32) (hv : v < 4294967296) : bits BinOp.and IntKind.u32 (v : Int) (2 ^ i - 1) = ((v % 2 ^ i : Nat) : Int) := by
  rw [bits_mask .u32 32 (by decide) wraps_u32c i hi (v : Int) (by omega) (by omega)]
  simp
theorem cells_snoc (done : List UInt8) (m : Nat) (hm : m < 256) (z : Int) (hz : z = (m : Nat)) : Lib.byteCells (done ++ [UInt8.ofNat m]) = Lib.byteCells done ++ [.int .u8 z] := by
  rw [Lib.byteCells_append]
  subst hz
  show _ ++ [Value.int .u8 ((UInt8.ofNat m).toNat : Int)] = _
  rw [UInt8.toNat_ofNat', Nat.mod_eq_of_lt hm]

set_option maxRecDepth 100000 in
set_option maxHeartbeats 6400000 in
theorem format_coded (s : List UInt8) (w : World) (hs : s.length ≤ 17592186044415) :
    Calls Tryz.prog 18 #[.string ⟨s.toArray⟩] w fun e w' => e = .returned (.tuple #[.string ⟨(codedR s).1.toArray⟩, .bool (codedR s).2]) ∧ Below w.heap.size w w' := by
  have CT : ∀ (l : List UInt8) W, l.length ≤ 9223372036854775807 → Calls Tryz.prog 42 #[.string ⟨l.toArray⟩, .string ⟨#[61]⟩] W fun e w' => e = .returned (.string ⟨(Lib.trimRightB l 61).toArray⟩) ∧ w' = W := fun l W h => Tryz.strings_TrimRight_one ⟨l.toArray⟩ 61 (by decide) W h
  have hlt : (Lib.trimRightB s 61).length ≤ s.length := by
    unfold Lib.trimRightB
    rw [List.length_reverse]
    refine Nat.le_trans (List.dropWhile_sublist _).length_le ?_
    rw [List.length_reverse]
    exact Nat.le_refl _
  have C1 := hid (CT s w (by omega))
  obtain ⟨t, ht⟩ : ∃ t, t = Lib.trimRightB s 61 := ⟨_, rfl⟩
  rw [← ht] at C1 hlt
  obtain ⟨sb, hsb⟩ : ∃ sb : ByteArray, sb = ⟨s.toArray⟩ := ⟨_, rfl⟩
  rw [← hsb] at C1 ⊢
  replace hsb := hid hsb
  replace ht := hid ht
  go_enter Tryz.func18, Tryz.ntmps18
  go_wp2_with fail
  refine C1.out.mono ?_
  rintro e w1 ⟨rfl, hw⟩
  rw [hw]
  clear hw w1
  go_wp2_with fail
  refine upon_bytesW Tryz.underlying9 Tryz.underlying77 Tryz.underlying5 ?_
  intro cap w1 hcb hb1 hlt1
  have HCB := hid hcb
  have HB1 := hid hb1
  clear hcb hb1
  go_wp2_with fail
  go_loopw [5, 6, 7, 17] (fun v5 v6 v7 v17 wr => ∃ (k n h : Nat) (done : List UInt8), v17 = .int .i64 (k : Nat) ∧ k ≤ t.length ∧ v6 = .int .u32 (n : Nat) ∧ v7 = .int .i64 (h : Nat) ∧ (h = 0 ∨ h = 2 ∨ h = 4 ∨ h = 6) ∧ n < 2 ^ h ∧ done.length ≤ k ∧
    debL 0 0 t = (debL n h (t.drop k)).map (done ++ ·) ∧ wr.ownsRow (w.heap.size + 1) 5 1 v5 done.length (Lib.byteCells done) ∧ Below (w.heap.size + 1) w1 wr) (fun _ _ _ v17 _ => t.length - (intOf v17).toNat)
  case atStart => exact ⟨0, 0, 0, [], rfl, Nat.zero_le _, rfl, rfl, Or.inl rfl, by decide, Nat.zero_le _, by simp, World.ownsRow_nil _ _ _ _, Below.refl _ _⟩
  case round =>
    obtain ⟨k, n, h, done, rfl, hk, rfl, rfl, hh, hn, hdk, hdeb, hown, hb⟩ := hrel
    have HDB := hid hdeb
    have HO := hid hown
    have HB := hid hb
    have hszw := Nat.le_trans (Nat.succ_le_of_lt hlt1) hb.size
    clear hdeb hown hb
    by_cases hke : k = t.length
    · have hres : Hid (codedR s = (done, decide (s = b64 done) || decide (s = Lib.trimRightB (b64 done) 61))) := by
        show codedR s = _
        unfold codedR
        rw [← ht.out, HDB.out, hke, List.drop_length]
        simp only [debL, Option.map_some, List.append_nil]
      have hc0 := conv_own _ _ _ done wr rfl HO.out
      have CC := hid (format_code done wr (by omega))
      have hB0 := hid (HB1.out.trans (HB.out.mono (Nat.le_succ _)))
      have HO2 := hid HO.out
      have hbl : (b64 done).length ≤ 9223372036854775807 := by rw [b64_len]; omega
      obtain ⟨T, hT⟩ : ∃ T, T = b64 done := ⟨_, rfl⟩
      rw [← hT] at CC hbl
      have hT2 := hid hT
      clear hT
      subst hke
      go_wp2_with fail
      refine CC.out.mono ?_
      rintro e w2 ⟨rfl, hb2⟩
      have HB2 := hid (below_trans hB0.out hb2)
      have hc2 : ∀ m, (convert 77 9 _).run Tryz.prog (w2.drewN m) = .ok (.string ⟨done.toArray⟩) (w2.drewN m) := fun m => conv_own _ _ _ done (w2.drewN m) rfl (owns_below (owns_below HO2.out hb2) ⟨rfl, rfl, rfl, Nat.le_refl _, fun _ _ => rfl⟩)
      have CR : Hid (∀ m, Calls Tryz.prog 42 #[.string ⟨T.toArray⟩, .string ⟨#[61]⟩] (w2.drewN m) fun e w' => e = .returned (.string ⟨(Lib.trimRightB T 61).toArray⟩) ∧ w2.drewN m = w') := fun m => (CT T _ hbl).mono fun _ _ h => ⟨h.1, h.2.symm⟩
      have hq1 : (sb.toList == (⟨T.toArray⟩ : ByteArray).toList) = decide (s = T) := by rw [hsb.out, bytes_beq]
      have hq2 : (sb.toList == (⟨(Lib.trimRightB T 61).toArray⟩ : ByteArray).toList) = decide (s = Lib.trimRightB T 61) := by rw [hsb.out, bytes_beq]
      rw [← hT2.out] at hres
      clear hb2 hc0 hbl CC CT
      obtain ⟨tb, htb⟩ : ∃ tb : ByteArray, tb = ⟨T.toArray⟩ := ⟨_, rfl⟩
      obtain ⟨ub, hub⟩ : ∃ ub : ByteArray, ub = ⟨(Lib.trimRightB T 61).toArray⟩ := ⟨_, rfl⟩
      rw [← htb] at CR hq1
      rw [← hub] at CR hq2
      rw [← htb]
      clear htb hub
      by_cases hs1 : s = T
      · rw [decide_eq_true hs1] at hq1 hres
        clear hs1 hq2 CR
        go_wp2_with fail
        go_quiet (fail)
        all_goals
          go_wp2_with fail
          go_ret2
          rw [hres.out]
          exact ⟨rfl, by first | exact HB2.out | exact HB2.out.trans ⟨rfl, rfl, rfl, Nat.le_refl _, fun _ _ => rfl⟩⟩
      · rw [decide_eq_false hs1] at hq1 hres
        clear hs1
        obtain ⟨b2, hb2⟩ : ∃ b2, b2 = decide (s = Lib.trimRightB T 61) := ⟨_, rfl⟩
        rw [← hb2] at hq2 hres
        clear hb2
        go_wp2_with fail
        go_quiet (exact quiet_same (CR.out _))
        all_goals
          go_wp2_with fail
          go_ret2
          rw [hres.out]
          exact ⟨rfl, by first | exact HB2.out | exact HB2.out.trans ⟨rfl, rfl, rfl, Nat.le_refl _, fun _ _ => rfl⟩⟩
    · have hkl : k < t.length := by omega
      obtain ⟨c, hc⟩ : ∃ c, t[k]? = some c := ⟨_, List.getElem?_eq_getElem hkl⟩
      have hd : t.drop k = c :: t.drop (k + 1) := by
        rw [List.drop_eq_getElem_cons hkl]
        rw [List.getElem?_eq_getElem hkl] at hc
        rw [Option.some.inj hc]
      have hcell : wr.cell? ⟨w.heap.size, k, none⟩ = some (.int .u8 c.toNat) := by
        rw [World.cell?_of_block (HB.out.block _ (by show w.heap.size < _; omega))]
        exact (HCB.out k c hc).1
      have CI : ∀ W, Calls Tryz.prog 39 #[.string ⟨#[65, 66, 67, 68, 69, 70, 71, 72, 73, 74, 75, 76, 77, 78, 79, 80, 81, 82, 83, 84, 85, 86, 87, 88, 89, 90, 97, 98, 99, 100, 101, 102, 103, 104, 105, 106, 107, 108, 109, 110, 111, 112, 113, 114, 115, 116, 117, 118, 119, 120, 121, 122, 48, 49, 50, 51, 52, 53, 54, 55, 56, 57, 43, 47]⟩, .int .u8 c.toNat] W fun e w' => e = .returned (.int .i64 (Lib.indexByte signL c)) ∧ w' = W := by
        intro W
        have h := Tryz.strings_IndexByte ⟨#[65, 66, 67, 68, 69, 70, 71, 72, 73, 74, 75, 76, 77, 78, 79, 80, 81, 82, 83, 84, 85, 86, 87, 88, 89, 90, 97, 98, 99, 100, 101, 102, 103, 104, 105, 106, 107, 108, 109, 110, 111, 112, 113, 114, 115, 116, 117, 118, 119, 120, 121, 122, 48, 49, 50, 51, 52, 53, 54, 55, 56, 57, 43, 47]⟩ c.toNat W
        rw [show (c.toNat : Int).toNat.toUInt8 = c by simp] at h
        exact h
      rw [idx64] at CI
      cases hsx : signIx c with
      | none =>
        rw [hsx] at CI
        dsimp only at CI
        have hnone : Hid (debL 0 0 t = none) := by
          show debL 0 0 t = none
          rw [HDB.out, hd]
          simp only [debL, hsx, Option.map_none]
        have hres : Hid (codedR s = ([], false)) := by
          show codedR s = _
          unfold codedR
          rw [← ht.out, hnone.out]
        replace CI := hid CI
        clear hsx hd hc
        go_wp2_with fail
        refine (CI.out _).mono ?_
        rintro e w2 ⟨rfl, hw⟩
        rw [hw]
        clear hw w2
        go_wp2_with fail
        go_ret2
        rw [hres.out]
        exact ⟨rfl, HB1.out.trans (HB.out.mono (Nat.le_succ _))⟩
      | some x =>
        rw [hsx] at CI
        dsimp only at CI
        have hx64 := signIx_lt c x hsx
        have hst := HDB.out
        rw [hd] at hst
        simp only [debL, hsx] at hst
        replace hst := hid hst
        replace CI := hid CI
        clear hsx hd hc
        rcases hh with rfl | rfl | rfl | rfl
        · have hn64 : n < 1 := hn
          have hor := or6 n x (by omega) hx64
          have hv : n * 64 + x < 64 := by omega
          generalize n * 64 + x = v at hor hst hv
          have hst2 : Hid (debL 0 0 t = (debL v 6 (t.drop (k + 1))).map (done ++ ·)) := by
            have := hst.out
            rw [if_neg (by decide)] at this
            exact this
          go_wp2_with fail
          refine (CI.out _).mono ?_
          rintro e w2 ⟨rfl, hw⟩
          rw [hw]
          clear hw w2
          go_wp2_with fail
          go_roundw
          case rel => exact ⟨k + 1, v, 6, done, by go_num, by omega, rfl, rfl, by omega, by omega, by omega, hst2.out, HO.out, HB.out⟩
          case measure => simp [intOf]; omega
        · have hn64 : n < 4 := hn
          have hor := or6 n x (by omega) hx64
          have hv : n * 64 + x < 256 := by omega
          generalize n * 64 + x = v at hor hst hv
          have hand : bits BinOp.and IntKind.u32 (v : Int) 0 = ((v % 1 : Nat) : Int) := and_m v 0 (by decide) (by omega)
          have hst2 : Hid (debL 0 0 t = (debL (v % 1) 0 (t.drop (k + 1))).map ((done ++ [UInt8.ofNat (v / 1)]) ++ ·)) := by
            show debL 0 0 t = _
            have h1 := hst.out
            rw [if_pos (by decide), Option.map_map] at h1
            rw [h1]
            show Option.map _ (debL (v % 1) 0 (t.drop (k + 1))) = _
            congr 1
            funext q
            simp
          have hcs := hid (cells_snoc done (v / 1) (by omega) ((v : Int)) (by omega))
          have hmod : v % 1 < 2 ^ 0 := Nat.mod_lt _ (by decide)
          go_wp2_with fail
          refine (CI.out _).mono ?_
          rintro e w2 ⟨rfl, hw⟩
          rw [hw]
          clear hw w2
          go_wp2_with (at_builtin; refine wpList_push u8Slice rfl _ _ rfl (w.heap.size + 1) (w0 := wr) HO.out rfl rfl rfl (by unfold maxLen; omega) (by omega) hszw ?_; intro v' w3 hown' hb')
          have HOW := hid (show w3.ownsRow (w.heap.size + 1) 5 1 v' (done ++ [UInt8.ofNat (v / 1)]).length (Lib.byteCells (done ++ [UInt8.ofNat (v / 1)])) by
            rw [hcs.out, List.length_append]; exact hown')
          have HB3 := hid (HB.out.trans hb')
          clear hown' hb'
          go_wp2_with fail
          go_roundw
          case rel => exact ⟨k + 1, v % 1, 0, done ++ [UInt8.ofNat (v / 1)], by go_num, by omega, by rw [Nat.mod_one]; rfl, rfl, by omega, hmod, by rw [List.length_append]; simp; omega, hst2.out, HOW.out, HB3.out⟩
          case measure => simp [intOf]; omega
        · have hn64 : n < 16 := hn
          have hor := or6 n x (by omega) hx64
          have hv : n * 64 + x < 1024 := by omega
          generalize n * 64 + x = v at hor hst hv
          have hand : bits BinOp.and IntKind.u32 (v : Int) 3 = ((v % 4 : Nat) : Int) := and_m v 2 (by decide) (by omega)
          have hst2 : Hid (debL 0 0 t = (debL (v % 4) 2 (t.drop (k + 1))).map ((done ++ [UInt8.ofNat (v / 4)]) ++ ·)) := by
            show debL 0 0 t = _
            have h1 := hst.out
            rw [if_pos (by decide), Option.map_map] at h1
            rw [h1]
            show Option.map _ (debL (v % 4) 2 (t.drop (k + 1))) = _
            congr 1
            funext q
            simp
          have hcs := hid (cells_snoc done (v / 4) (by omega) ((v : Int) / 4) (by omega))
          have hmod : v % 4 < 2 ^ 2 := Nat.mod_lt _ (by decide)
          go_wp2_with fail
          refine (CI.out _).mono ?_
          rintro e w2 ⟨rfl, hw⟩
          rw [hw]
          clear hw w2
          go_wp2_with (at_builtin; refine wpList_push u8Slice rfl _ _ rfl (w.heap.size + 1) (w0 := wr) HO.out rfl rfl rfl (by unfold maxLen; omega) (by omega) hszw ?_; intro v' w3 hown' hb')
          have HOW := hid (show w3.ownsRow (w.heap.size + 1) 5 1 v' (done ++ [UInt8.ofNat (v / 4)]).length (Lib.byteCells (done ++ [UInt8.ofNat (v / 4)])) by
            rw [hcs.out, List.length_append]; exact hown')
          have HB3 := hid (HB.out.trans hb')
          clear hown' hb'
          go_wp2_with fail
          go_roundw
          case rel => exact ⟨k + 1, v % 4, 2, done ++ [UInt8.ofNat (v / 4)], by go_num, by omega, rfl, rfl, by omega, hmod, by rw [List.length_append]; simp; omega, hst2.out, HOW.out, HB3.out⟩
          case measure => simp [intOf]; omega
        · have hn64 : n < 64 := hn
          have hor := or6 n x (by omega) hx64
          have hv : n * 64 + x < 4096 := by omega
          generalize n * 64 + x = v at hor hst hv
          have hand : bits BinOp.and IntKind.u32 (v : Int) 15 = ((v % 16 : Nat) : Int) := and_m v 4 (by decide) (by omega)
          have hst2 : Hid (debL 0 0 t = (debL (v % 16) 4 (t.drop (k + 1))).map ((done ++ [UInt8.ofNat (v / 16)]) ++ ·)) := by
            show debL 0 0 t = _
            have h1 := hst.out
            rw [if_pos (by decide), Option.map_map] at h1
            rw [h1]
            show Option.map _ (debL (v % 16) 4 (t.drop (k + 1))) = _
            congr 1
            funext q
            simp
          have hcs := hid (cells_snoc done (v / 16) (by omega) ((v : Int) / 16) (by omega))
          have hmod : v % 16 < 2 ^ 4 := Nat.mod_lt _ (by decide)
          go_wp2_with fail
          refine (CI.out _).mono ?_
          rintro e w2 ⟨rfl, hw⟩
          rw [hw]
          clear hw w2
          go_wp2_with (at_builtin; refine wpList_push u8Slice rfl _ _ rfl (w.heap.size + 1) (w0 := wr) HO.out rfl rfl rfl (by unfold maxLen; omega) (by omega) hszw ?_; intro v' w3 hown' hb')
          have HOW := hid (show w3.ownsRow (w.heap.size + 1) 5 1 v' (done ++ [UInt8.ofNat (v / 16)]).length (Lib.byteCells (done ++ [UInt8.ofNat (v / 16)])) by
            rw [hcs.out, List.length_append]; exact hown')
          have HB3 := hid (HB.out.trans hb')
          clear hown' hb'
          go_wp2_with fail
          go_roundw
          case rel => exact ⟨k + 1, v % 16, 4, done ++ [UInt8.ofNat (v / 16)], by go_num, by omega, rfl, rfl, by omega, hmod, by rw [List.length_append]; simp; omega, hst2.out, HOW.out, HB3.out⟩
          case measure => simp [intOf]; omega

end Go.Proofs.YtldhebpkplglcaaGreatDoor

namespace Go.Proofs.YtldhebpkplglcaaGreatDoor
open Go.RowKit

def rowR (null : List UInt8) (q : List UInt8 → List UInt8) (sep : List UInt8) (arr : List JV) : List UInt8 × Int := (if deepB arr = true then [] else Lib.join (arr.map (itemG null q)) sep, if deepB arr = true then 9 else 0)
/-- What Apply tells, and its error. -/
def applyR (name : List UInt8) (v : JV) : List UInt8 × Int :=
  if name = [64, 116, 101, 120, 116] then (plainJ v, 0)
  else if name = [64, 106, 115, 111, 110] then (jsonJ 200 v, 0)
  else if name = [64, 104, 116, 109, 108] then (swapL (substL htmlP) (plainJ v), 0)
  else if name = [64, 117, 114, 105] then (uriL (plainJ v), 0)
  else if name = [64, 98, 97, 115, 101, 54, 52] then (b64 (plainJ v), 0)
  else if name = [64, 98, 97, 115, 101, 54, 52, 100] then (if (codedR (plainJ v)).2 = true then (cleanL (codedR (plainJ v)).1, 0) else ([], 2))
  else if name = [64, 99, 115, 118] then (if v.kind = 5 then rowR [] (quoL 34 [34, 34]) [44] v.arr else ([], 9))
  else if name = [64, 116, 115, 118] then (if v.kind = 5 then rowR [] (swapL (substL tsvP)) [9] v.arr else ([], 9))
  else if name = [64, 115, 104] then rowR [110, 117, 108, 108] (quoL 39 [39, 92, 39, 39]) [32] (if v.kind = 5 then v.arr else [v])
  else ([], 11)

theorem below_al {w1 w2 : World} {o : Obj} {b : Nat} (h1 : (w1.alloc o).heap.size ≤ b) (h : Below (w1.alloc o).heap.size (w1.alloc o) w2) : Below w1.heap.size w1 w2 ∧ w1.heap.size ≤ b := by
  have hle : w1.heap.size ≤ (w1.alloc o).heap.size := by simp
  exact ⟨((Below.refl _ w1).alloc (Nat.le_refl _) o).trans (h.mono hle), Nat.le_trans hle h1⟩
theorem below_ald {w1 w2 : World} {o : Obj} {b : Nat} (h1 : (w1.alloc o).drew.heap.size ≤ b) (h : Below (w1.alloc o).drew.heap.size (w1.alloc o).drew w2) : Below w1.heap.size w1 w2 ∧ w1.heap.size ≤ b := by
  have hle : w1.heap.size ≤ (w1.alloc o).heap.size := by simp
  exact ⟨((Below.refl _ w1).alloc (Nat.le_refl _) o).drew.trans (h.mono hle), Nat.le_trans hle h1⟩

set_option maxRecDepth 100000 in
set_option maxHeartbeats 3200000 in
theorem apply_html (v : JV) (cs : List Value) (w : World) (G : GV w cs v) :
    Calls Tryz.prog 6 #[.string ⟨#[64, 104, 116, 109, 108]⟩, .agg cs.toArray] w fun en w' => en = .returned (.tuple #[.string ⟨(swapL (substL htmlP) (plainJ v)).toArray⟩, .int .i64 0]) ∧ Below w.heap.size w w' := by
  obtain ⟨a, c, aa, ac, oa, oc, P⟩ := G.rd.parts
  have hcs := P.cells
  clear P
  subst hcs
  have hMay := fun (W : World) (hb : Below w.heap.size w W) => value_May v _ W (G.rd.stay hb) (G.tabs.below hb)
  rw [G.may] at hMay
  have HP := fun (W : World) (hb : Below w.heap.size w W) => format_plainV v _ W (G.below hb)
  have hpl := G.plen
  have C1 := hid fun (W : World) (N : Nat) (h : W.heap[N]? = some (.cells (strsR (oldnew htmlP)).toArray 9 (0, 0))) => new_Replacer (oldnew htmlP) N 10 W (row_lit h _ (by simp)) (by decide) (by decide) (by decide)
  have C2 := fun (B b g cp : Nat) (w1 : World) h1 h2 h3 h4 => replacer_Replace htmlP (plainJ v) w.heap.size B b g 10 cp w w1 h1 h2 h3 rfl h4 (by omega) (by decide) (by decide) (by decide) (by decide) (by intro p hp; obtain rfl : _ = p := Option.some.inj hp; decide)
  clear G hpl
  generalize swapL (substL htmlP) (plainJ v) = T at *
  generalize plainJ v = Pl at *
  unfold valCs strV at *
  generalize v.kind = kind, v.g = g, v.ls.length = ln, v.e = ee, v.s.toArray = sa, v.arr.length = an, v.obj.length = on at *
  generalize (⟨Pl.toArray⟩ : ByteArray) = pb at *
  replace hMay := hid hMay
  replace HP := hid HP
  replace C2 := hid C2
  go_enter Tryz.func6, Tryz.ntmps6
  go_wp2_with fail
  have hAl : Below w.heap.size w (w.alloc (.cells #[.int .i64 kind, .bool g, .slice a ln c, .int .i64 ee, .string ⟨sa⟩, .slice aa an ac, .slice oa on oc] 28)) := (Below.refl _ w).alloc (Nat.le_refl _) _
  have hBox : BoxA (w.alloc (.cells #[.int .i64 kind, .bool g, .slice a ln c, .int .i64 ee, .string ⟨sa⟩, .slice aa an ac, .slice oa on oc] 28)) w.heap.size kind g a ln c ee ⟨sa⟩ aa an ac oa on oc := ⟨heap_alloc_new w _⟩
  refine (hMay.out _ hAl).mono ?_
  rintro en w1 ⟨rfl, hb1⟩
  replace hBox := hBox.stay hb1
  have HB1 := below_trans hAl hb1
  obtain ⟨c0, c1, c2, c3, c4, c5, c6⟩ := hBox.cells
  clear hAl hb1 hMay
  go_wp2_with fail
  have hs1 := HB1.size
  have hlt1 : w.heap.size < w1.heap.size := hBox.lt
  go_region_law (first | (go_simp; go_at_call 14; refine (C1.out _ w1.heap.size (by first | exact heap_alloc_new w1 _ | exact heap_alloc_new w1.drew _)).mono ?_; rintro e w2 ⟨b, g2, cp, h1, rfl, h2, h3, h4⟩; have hw2 : Below w1.heap.size w1 w2 ∧ w1.heap.size ≤ b := (by first | exact below_al h1 h4 | exact below_ald h1 h4); have hBx := hBox.stay hw2.1; obtain ⟨d0, d1, d2, d3, d4, d5, d6⟩ := hBx.cells; have hbw2 : Below w.heap.size w w2 := HB1.trans (hw2.1.mono hs1)) | (go_simp; go_at_call 12; refine (HP.out _ hbw2).mono ?_; rintro e w3 ⟨rfl, hb3⟩; have h2' := (hb3.block b (blk_lt h2)).trans h2; have h3' := owns_below h3 hb3; have hbw3 : Below w.heap.size w w3 := below_trans hbw2 hb3) | (go_simp; go_at_call 15; refine (C2.out _ b g2 cp _ (Nat.le_trans hs1 hw2.2) hbw3 h2' h3').mono ?_; rintro e w4 ⟨rfl, hb4⟩))
  all_goals
    have HB4 := hid hb4
    clear hb4 hb3 hbw3 hbw2 hw2 h1 h2 h3 h4 h2' h3' HP C1 C2 HB1 c0 c1 c2 c3 c4 c5 c6 d0 d1 d2 d3 d4 d5 d6 hBx hBox
    go_wp2_with fail
    go_ret2
    exact ⟨rfl, HB4.out⟩

end Go.Proofs.YtldhebpkplglcaaGreatDoor

namespace Go.Proofs.YtldhebpkplglcaaGreatDoor
open Go.RowKit

theorem GV.items {w : World} {cs : List Value} {v : JV} (G : GV w cs v) : v.arr.length ≤ 1048576 ∧ ∀ x ∈ v.arr, mayJ 200 x = true ∧ SmallV x ∧ x.s.length ≤ 1048576 := by
  have hm := G.may
  have hs := G.small
  refine ⟨by cases hs; assumption, fun x hx => ?_⟩
  have h2 := hs.arr x hx
  refine ⟨may_up 199 x ((may_succ.1 hm).1.1.2 x hx), h2, by cases h2; assumption⟩
theorem swapL_lenK {f : UInt8 → List UInt8} {K : Nat} (h : ∀ c, (f c).length ≤ K) : ∀ s : List UInt8, (swapL f s).length ≤ K * s.length
  | [] => by simp [swapL]
  | c :: s => by
    have h1 := h c
    have h2 := swapL_lenK h s
    unfold swapL at h2 ⊢
    rw [List.flatMap_cons, List.length_append, List.length_cons, Nat.mul_add]
    omega
theorem quoL_len (q : UInt8) (new s : List UInt8) (hn : new.length ≤ 10) : (quoL q new s).length ≤ 12 * s.length + 2 := by
  have h := swap_len q new s
  have h2 : s.length * (new.length + 1) ≤ s.length * 12 := Nat.mul_le_mul (Nat.le_refl _) (by omega)
  unfold quoL
  rw [List.length_append, List.length_append, List.length_singleton]
  omega
theorem tsv_len (s : List UInt8) : (swapL (substL tsvP) s).length ≤ 12 * s.length + 2 := by
  have h := swapL_lenK (f := substL tsvP) (K := 2) (fun c => by
    unfold substL
    split
    · rename_i p hp
      have := (find_key hp).2
      simp [tsvP] at this
      rcases this with rfl | rfl | rfl | rfl <;> decide
    · simp) s
  omega
def tableCSV (v : JV) : List UInt8 × Int := if v.kind = 5 then rowR [] (quoL 34 [34, 34]) [44] v.arr else ([], 9)
def tableTSV (v : JV) : List UInt8 × Int := if v.kind = 5 then rowR [] (swapL (substL tsvP)) [9] v.arr else ([], 9)

set_option maxRecDepth 100000 in
set_option maxHeartbeats 3200000 in
theorem format_tableCSV (v : JV) (cs : List Value) (w : World) (G : GV w cs v) :
    Calls Tryz.prog 20 #[.string ⟨#[64, 99, 115, 118]⟩, .agg cs.toArray] w fun en w' => en = .returned (.tuple #[.string ⟨(tableCSV v).1.toArray⟩, .int .i64 (tableCSV v).2]) ∧ Below w.heap.size w w' := by
  obtain ⟨a, c, aa, ac, oa, oc, P⟩ := G.rd.parts
  have hcs := P.cells
  have hA := P.arr
  clear P
  subst hcs
  obtain ⟨hn, hk⟩ := G.items
  by_cases h5 : v.kind = 5
  · have e : tableCSV v = rowR [] (quoL 34 [34, 34]) [44] v.arr := by unfold tableCSV; rw [if_pos h5]
    rw [e]
    have C := fun (W : World) (hb : Below w.heap.size w W) => format_rowV 45 (run_callFunc Tryz.func45 (by kernel_rfl) (by kernel_rfl)) (quoL 34 [34, 34]) (fun s W h1 h2 => format_csv s W h1 h2) v.arr aa ac [44] [] W (hA.below hb) (G.mx.below hb) (G.tabs.below hb) hn hk (fun hd => row_len hn hk (fun s => quoL_len 34 [34, 34] s (by decide)) (by decide) (by decide) hd)
    have hB := fun o => (Below.refl w.heap.size w).alloc (Nat.le_refl _) o
    have e1 : (rowR [] (quoL 34 [34, 34]) [44] v.arr).1 = (if deepB v.arr = true then [] else Lib.join (v.arr.map (itemG [] (quoL 34 [34, 34]))) [44]) := rfl
    have e2 : (rowR [] (quoL 34 [34, 34]) [44] v.arr).2 = (if deepB v.arr = true then 9 else 0) := rfl
    rw [e1, e2]
    clear e e1 e2 G hA hn hk
    generalize (if deepB v.arr = true then [] else Lib.join (v.arr.map (itemG [] (quoL 34 [34, 34]))) [44]) = T at *
    generalize (if deepB v.arr = true then (9 : Int) else 0) = E at *
    unfold valCs strV
    rw [h5]
    clear h5
    generalize v.g = g, v.ls.length = ln, v.e = ee, v.s.toArray = sa, v.arr.length = an, v.obj.length = on at *
    replace C := hid C
    have HB := hid hB
    clear hB
    go_enter Tryz.func20, Tryz.ntmps20
    go_wp2_with fail
    refine (C.out _ (HB.out _)).mono ?_
    rintro en w1 ⟨rfl, hb1⟩
    have HB1 := hid (below_trans (HB.out _) hb1)
    clear hb1
    go_wp2_with fail
    go_ret2
    exact ⟨rfl, HB1.out⟩
  · have e : tableCSV v = ([], 9) := by unfold tableCSV; rw [if_neg h5]
    rw [e]
    have h6 : (v.kind != 5) = true := by rw [bne_iff_ne]; exact h5
    have hB := fun o => (Below.refl w.heap.size w).alloc (Nat.le_refl _) o
    clear e G hA hn hk
    unfold valCs strV
    generalize v.kind = kind, v.g = g, v.ls.length = ln, v.e = ee, v.s.toArray = sa, v.arr.length = an, v.obj.length = on at *
    have HB := hid hB
    clear hB h5
    go_enter Tryz.func20, Tryz.ntmps20
    go_wp2_with fail
    go_ret2
    exact ⟨rfl, HB.out _⟩

set_option maxRecDepth 100000 in
set_option maxHeartbeats 3200000 in
theorem format_tableTSV (v : JV) (cs : List Value) (w : World) (G : GV w cs v) :
    Calls Tryz.prog 20 #[.string ⟨#[64, 116, 115, 118]⟩, .agg cs.toArray] w fun en w' => en = .returned (.tuple #[.string ⟨(tableTSV v).1.toArray⟩, .int .i64 (tableTSV v).2]) ∧ Below w.heap.size w w' := by
  obtain ⟨a, c, aa, ac, oa, oc, P⟩ := G.rd.parts
  have hcs := P.cells
  have hA := P.arr
  clear P
  subst hcs
  obtain ⟨hn, hk⟩ := G.items
  by_cases h5 : v.kind = 5
  · have e : tableTSV v = rowR [] (swapL (substL tsvP)) [9] v.arr := by unfold tableTSV; rw [if_pos h5]
    rw [e]
    have C := fun (W : World) (hb : Below w.heap.size w W) => format_rowV 46 (run_callFunc Tryz.func46 (by kernel_rfl) (by kernel_rfl)) (swapL (substL tsvP)) (fun s W h1 _ => format_tsv s W h1) v.arr aa ac [9] [] W (hA.below hb) (G.mx.below hb) (G.tabs.below hb) hn hk (fun hd => row_len hn hk tsv_len (by decide) (by decide) hd)
    have hB := fun o => (Below.refl w.heap.size w).alloc (Nat.le_refl _) o
    have e1 : (rowR [] (swapL (substL tsvP)) [9] v.arr).1 = (if deepB v.arr = true then [] else Lib.join (v.arr.map (itemG [] (swapL (substL tsvP)))) [9]) := rfl
    have e2 : (rowR [] (swapL (substL tsvP)) [9] v.arr).2 = (if deepB v.arr = true then 9 else 0) := rfl
    rw [e1, e2]
    clear e e1 e2 G hA hn hk
    generalize (if deepB v.arr = true then [] else Lib.join (v.arr.map (itemG [] (swapL (substL tsvP)))) [9]) = T at *
    generalize (if deepB v.arr = true then (9 : Int) else 0) = E at *
    unfold valCs strV
    rw [h5]
    clear h5
    generalize v.g = g, v.ls.length = ln, v.e = ee, v.s.toArray = sa, v.arr.length = an, v.obj.length = on at *
    replace C := hid C
    have HB := hid hB
    clear hB
    go_enter Tryz.func20, Tryz.ntmps20
    go_wp2_with fail
    refine (C.out _ (HB.out _)).mono ?_
    rintro en w1 ⟨rfl, hb1⟩
    have HB1 := hid (below_trans (HB.out _) hb1)
    clear hb1
    go_wp2_with fail
    go_ret2
    exact ⟨rfl, HB1.out⟩
  · have e : tableTSV v = ([], 9) := by unfold tableTSV; rw [if_neg h5]
    rw [e]
    have h6 : (v.kind != 5) = true := by rw [bne_iff_ne]; exact h5
    have hB := fun o => (Below.refl w.heap.size w).alloc (Nat.le_refl _) o
    clear e G hA hn hk
    unfold valCs strV
    generalize v.kind = kind, v.g = g, v.ls.length = ln, v.e = ee, v.s.toArray = sa, v.arr.length = an, v.obj.length = on at *
    have HB := hid hB
    clear hB h5
    go_enter Tryz.func20, Tryz.ntmps20
    go_wp2_with fail
    go_ret2
    exact ⟨rfl, HB.out _⟩

end Go.Proofs.YtldhebpkplglcaaGreatDoor

namespace Go.Proofs.YtldhebpkplglcaaGreatDoor
open Go.RowKit

theorem debL_len : ∀ (l : List UInt8) (n h : Nat) (out : List UInt8), debL n h l = some out → out.length ≤ l.length
  | [], n, h, out, e => by
    simp only [debL, Option.some.injEq] at e
    subst e
    simp
  | c :: l, n, h, out, e => by
    simp only [debL] at e
    split at e
    · cases e
    · split at e
      · obtain ⟨o, h1, h2⟩ := Option.map_eq_some_iff.1 e
        subst h2
        have := debL_len l _ _ o h1
        simp only [List.length_cons]
        omega
      · have := debL_len l _ _ out e
        simp only [List.length_cons]
        omega
theorem trimR_len (s : List UInt8) (c : UInt8) : (Lib.trimRightB s c).length ≤ s.length := by
  unfold Lib.trimRightB
  rw [List.length_reverse]
  refine Nat.le_trans (List.dropWhile_sublist _).length_le ?_
  rw [List.length_reverse]
  exact Nat.le_refl _
theorem codedR_len (s : List UInt8) : (codedR s).1.length ≤ s.length := by
  unfold codedR
  have h := trimR_len s 61
  cases hd : debL 0 0 (Lib.trimRightB s 61) with
  | none => simp
  | some out =>
    have := debL_len _ _ _ _ hd
    show out.length ≤ _
    omega

set_option maxRecDepth 100000 in
set_option maxHeartbeats 1600000 in
theorem apply_b64d (s : List UInt8) (hs : s.length ≤ 17592186044415) (hv : soundB s = true) (w : World) (hT : Tabs w) :
    Calls Tryz.prog 6 #[.string ⟨#[64, 98, 97, 115, 101, 54, 52, 100]⟩, .agg (txtCs s).toArray] w fun e w' => e = .returned (.tuple #[.string ⟨(if (codedR s).2 then cleanL (codedR s).1 else []).toArray⟩, .int .i64 (if (codedR s).2 then 0 else 2)]) ∧ Below w.heap.size w w' := by
  have hM := fun W (hW : Tabs W) => value_May (JV.txt s) (txtCs s) W (txt_rd s W (by omega)) hW
  rw [txt_may, hv] at hM
  have hP := fun W => format_plain s W
  have hC := fun W => format_coded s W hs
  have hCl := fun W (hW : Tabs W) => utf_Clean (codedR s).1 W (Nat.le_trans (codedR_len s) hs) hW
  generalize codedR s = cr at *
  obtain ⟨o, ok⟩ := cr
  dsimp only at hC hCl ⊢
  generalize cleanL o = T at *
  unfold txtCs strV at hM hP ⊢
  generalize (⟨s.toArray⟩ : ByteArray) = sb at *
  generalize (⟨o.toArray⟩ : ByteArray) = ob at *
  replace hM := hid hM
  replace hP := hid hP
  replace hC := hid hC
  replace hCl := hid hCl
  have hTw := hid hT
  clear hT
  go_enter Tryz.func6, Tryz.ntmps6
  go_wp2_with fail
  have hBox : BoxT (w.alloc (.cells #[.int .i64 4, .bool false, .slice none 0 0, .int .i64 0, .string sb, .slice none 0 0, .slice none 0 0] 28)) w.heap.size sb := ⟨heap_alloc_new w _⟩
  have hAl : Below w.heap.size w (w.alloc (.cells #[.int .i64 4, .bool false, .slice none 0 0, .int .i64 0, .string sb, .slice none 0 0, .slice none 0 0] 28)) := (Below.refl _ w).alloc (Nat.le_refl _) _
  refine (hM.out _ (hTw.out.below hAl)).mono ?_
  rintro e w1 ⟨rfl, hb1⟩
  replace hBox := hBox.stay hb1
  have HB1 := hid (below_trans hAl hb1)
  obtain ⟨c0, c1, c2, c3, c4, c5, c6⟩ := hBox.cells
  clear hBox hAl hb1
  go_wp2_with fail
  refine (hP.out _).mono ?_
  rintro e w2 ⟨rfl, hb2⟩
  have HB2 := hid (below_trans HB1.out hb2)
  clear hb2 c0 c1 c2 c3 c4 c5 c6
  go_wp2_with fail
  refine (hC.out _).mono ?_
  rintro e w3 ⟨rfl, hb3⟩
  have HB3 := hid (below_trans HB2.out hb3)
  clear hb3
  cases ok with
  | false =>
    go_wp2_with fail
    go_ret2
    exact ⟨rfl, HB3.out⟩
  | true =>
    go_wp2_with fail
    refine (hCl.out _ (hTw.out.below HB3.out)).mono ?_
    rintro e w4 ⟨rfl, hb4⟩
    have HB4 := hid (below_trans HB3.out hb4)
    clear hb4
    go_wp2_with fail
    go_ret2
    exact ⟨rfl, HB4.out⟩

end Go.Proofs.YtldhebpkplglcaaGreatDoor

namespace Go.Proofs.YtldhebpkplglcaaGreatDoor
open Go.RowKit

theorem one_rda {W : World} {b : Nat} {cs : List Value} {v : JV} (hc : CellsAt W (some ⟨b, 0, none⟩) 0 cs) (h : RdV W cs v) : RdA W (some ⟨b, 0, none⟩) [v] := by
  intro i x hx
  cases i with
  | zero => obtain rfl : v = x := by simpa using hx
            exact ⟨_, hc, h⟩
  | succ i => simp at hx

set_option maxRecDepth 100000 in
set_option maxHeartbeats 3200000 in
theorem apply_text (v : JV) (cs : List Value) (w : World) (G : GV w cs v) :
    Calls Tryz.prog 6 #[.string ⟨#[64, 116, 101, 120, 116]⟩, .agg cs.toArray] w fun en w' => en = .returned (.tuple #[.string ⟨(plainJ v).toArray⟩, .int .i64 0]) ∧ Below w.heap.size w w' := by
  obtain ⟨a, c, aa, ac, oa, oc, P⟩ := G.rd.parts
  have hcs := P.cells
  have hA := P.arr
  clear P
  subst hcs
  have hMay := fun (W : World) (hb : Below w.heap.size w W) => value_May v _ W (G.rd.stay hb) (G.tabs.below hb)
  rw [G.may] at hMay
  have hpl := G.plen
  have HP := fun (W : World) (hb : Below w.heap.size w W) => format_plainV v _ W (G.below hb)
  clear G hpl hA
  generalize plainJ v = Pl at *
  replace HP := hid HP
  unfold valCs strV at *
  generalize v.kind = kind, v.g = g, v.ls.length = ln, v.e = ee, v.s.toArray = sa, v.arr.length = an, v.obj.length = on at *
  replace hMay := hid hMay
  go_enter Tryz.func6, Tryz.ntmps6
  go_wp2_with fail
  have hAl : Below w.heap.size w (w.alloc (.cells #[.int .i64 kind, .bool g, .slice a ln c, .int .i64 ee, .string ⟨sa⟩, .slice aa an ac, .slice oa on oc] 28)) := (Below.refl _ w).alloc (Nat.le_refl _) _
  have hBox : BoxA (w.alloc (.cells #[.int .i64 kind, .bool g, .slice a ln c, .int .i64 ee, .string ⟨sa⟩, .slice aa an ac, .slice oa on oc] 28)) w.heap.size kind g a ln c ee ⟨sa⟩ aa an ac oa on oc := ⟨heap_alloc_new w _⟩
  refine (hMay.out _ hAl).mono ?_
  rintro en w1 ⟨rfl, hb1⟩
  replace hBox := hBox.stay hb1
  have HB1 := hid (below_trans hAl hb1)
  obtain ⟨c0, c1, c2, c3, c4, c5, c6⟩ := hBox.cells
  have hlt : w.heap.size < w1.heap.size := hBox.lt
  clear hBox hAl hb1 hMay
  go_wp2_with fail
  refine (HP.out _ HB1.out).mono ?_
  rintro en w2 ⟨rfl, hb2⟩
  have HB2 := hid (below_trans HB1.out hb2)
  clear hb2
  go_wp2_with fail
  go_ret2
  exact ⟨rfl, HB2.out⟩

set_option maxRecDepth 100000 in
set_option maxHeartbeats 3200000 in
theorem apply_json (v : JV) (cs : List Value) (w : World) (G : GV w cs v) :
    Calls Tryz.prog 6 #[.string ⟨#[64, 106, 115, 111, 110]⟩, .agg cs.toArray] w fun en w' => en = .returned (.tuple #[.string ⟨(jsonJ 200 v).toArray⟩, .int .i64 0]) ∧ Below w.heap.size w w' := by
  obtain ⟨a, c, aa, ac, oa, oc, P⟩ := G.rd.parts
  have hcs := P.cells
  have hA := P.arr
  clear P
  subst hcs
  have hMay := fun (W : World) (hb : Below w.heap.size w W) => value_May v _ W (G.rd.stay hb) (G.tabs.below hb)
  rw [G.may] at hMay
  have hpl := G.plen
  have HP := fun (W : World) (hb : Below w.heap.size w W) => format_json v _ W (G.below hb)
  clear G hpl hA
  generalize jsonJ 200 v = Pl at *
  replace HP := hid HP
  unfold valCs strV at *
  generalize v.kind = kind, v.g = g, v.ls.length = ln, v.e = ee, v.s.toArray = sa, v.arr.length = an, v.obj.length = on at *
  replace hMay := hid hMay
  go_enter Tryz.func6, Tryz.ntmps6
  go_wp2_with fail
  have hAl : Below w.heap.size w (w.alloc (.cells #[.int .i64 kind, .bool g, .slice a ln c, .int .i64 ee, .string ⟨sa⟩, .slice aa an ac, .slice oa on oc] 28)) := (Below.refl _ w).alloc (Nat.le_refl _) _
  have hBox : BoxA (w.alloc (.cells #[.int .i64 kind, .bool g, .slice a ln c, .int .i64 ee, .string ⟨sa⟩, .slice aa an ac, .slice oa on oc] 28)) w.heap.size kind g a ln c ee ⟨sa⟩ aa an ac oa on oc := ⟨heap_alloc_new w _⟩
  refine (hMay.out _ hAl).mono ?_
  rintro en w1 ⟨rfl, hb1⟩
  replace hBox := hBox.stay hb1
  have HB1 := hid (below_trans hAl hb1)
  obtain ⟨c0, c1, c2, c3, c4, c5, c6⟩ := hBox.cells
  have hlt : w.heap.size < w1.heap.size := hBox.lt
  clear hBox hAl hb1 hMay
  go_wp2_with fail
  refine (HP.out _ HB1.out).mono ?_
  rintro en w2 ⟨rfl, hb2⟩
  have HB2 := hid (below_trans HB1.out hb2)
  clear hb2
  go_wp2_with fail
  go_ret2
  exact ⟨rfl, HB2.out⟩

set_option maxRecDepth 100000 in
set_option maxHeartbeats 3200000 in
theorem apply_uriV (v : JV) (cs : List Value) (w : World) (G : GV w cs v) :
    Calls Tryz.prog 6 #[.string ⟨#[64, 117, 114, 105]⟩, .agg cs.toArray] w fun en w' => en = .returned (.tuple #[.string ⟨(uriL (plainJ v)).toArray⟩, .int .i64 0]) ∧ Below w.heap.size w w' := by
  obtain ⟨a, c, aa, ac, oa, oc, P⟩ := G.rd.parts
  have hcs := P.cells
  have hA := P.arr
  clear P
  subst hcs
  have hMay := fun (W : World) (hb : Below w.heap.size w W) => value_May v _ W (G.rd.stay hb) (G.tabs.below hb)
  rw [G.may] at hMay
  have hpl := G.plen
  have HP := fun (W : World) (hb : Below w.heap.size w W) => format_plainV v _ W (G.below hb)
  have HC := fun (W : World) => format_uri (plainJ v) W (by omega)
  clear G hpl hA
  generalize uriL (plainJ v) = T at *
  generalize plainJ v = Pl at *
  generalize (⟨Pl.toArray⟩ : ByteArray) = pb at *
  replace HP := hid HP
  replace HC := hid HC
  unfold valCs strV at *
  generalize v.kind = kind, v.g = g, v.ls.length = ln, v.e = ee, v.s.toArray = sa, v.arr.length = an, v.obj.length = on at *
  replace hMay := hid hMay
  go_enter Tryz.func6, Tryz.ntmps6
  go_wp2_with fail
  have hAl : Below w.heap.size w (w.alloc (.cells #[.int .i64 kind, .bool g, .slice a ln c, .int .i64 ee, .string ⟨sa⟩, .slice aa an ac, .slice oa on oc] 28)) := (Below.refl _ w).alloc (Nat.le_refl _) _
  have hBox : BoxA (w.alloc (.cells #[.int .i64 kind, .bool g, .slice a ln c, .int .i64 ee, .string ⟨sa⟩, .slice aa an ac, .slice oa on oc] 28)) w.heap.size kind g a ln c ee ⟨sa⟩ aa an ac oa on oc := ⟨heap_alloc_new w _⟩
  refine (hMay.out _ hAl).mono ?_
  rintro en w1 ⟨rfl, hb1⟩
  replace hBox := hBox.stay hb1
  have HB1 := hid (below_trans hAl hb1)
  obtain ⟨c0, c1, c2, c3, c4, c5, c6⟩ := hBox.cells
  have hlt : w.heap.size < w1.heap.size := hBox.lt
  clear hBox hAl hb1 hMay
  go_wp2_with fail
  refine (HP.out _ HB1.out).mono ?_
  rintro en w2 ⟨rfl, hb2⟩
  have HB2 := hid (below_trans HB1.out hb2)
  clear hb2
  go_wp2_with fail
  refine (HC.out _).mono ?_
  rintro en w3 ⟨rfl, hb3⟩
  have HB3 := hid (below_trans HB2.out hb3)
  clear hb3
  go_wp2_with fail
  go_ret2
  exact ⟨rfl, HB3.out⟩

set_option maxRecDepth 100000 in
set_option maxHeartbeats 3200000 in
theorem apply_b64V (v : JV) (cs : List Value) (w : World) (G : GV w cs v) :
    Calls Tryz.prog 6 #[.string ⟨#[64, 98, 97, 115, 101, 54, 52]⟩, .agg cs.toArray] w fun en w' => en = .returned (.tuple #[.string ⟨(b64 (plainJ v)).toArray⟩, .int .i64 0]) ∧ Below w.heap.size w w' := by
  obtain ⟨a, c, aa, ac, oa, oc, P⟩ := G.rd.parts
  have hcs := P.cells
  have hA := P.arr
  clear P
  subst hcs
  have hMay := fun (W : World) (hb : Below w.heap.size w W) => value_May v _ W (G.rd.stay hb) (G.tabs.below hb)
  rw [G.may] at hMay
  have hpl := G.plen
  have HP := fun (W : World) (hb : Below w.heap.size w W) => format_plainV v _ W (G.below hb)
  have HC := fun (W : World) => format_code (plainJ v) W (by omega)
  clear G hpl hA
  generalize b64 (plainJ v) = T at *
  generalize plainJ v = Pl at *
  generalize (⟨Pl.toArray⟩ : ByteArray) = pb at *
  replace HP := hid HP
  replace HC := hid HC
  unfold valCs strV at *
  generalize v.kind = kind, v.g = g, v.ls.length = ln, v.e = ee, v.s.toArray = sa, v.arr.length = an, v.obj.length = on at *
  replace hMay := hid hMay
  go_enter Tryz.func6, Tryz.ntmps6
  go_wp2_with fail
  have hAl : Below w.heap.size w (w.alloc (.cells #[.int .i64 kind, .bool g, .slice a ln c, .int .i64 ee, .string ⟨sa⟩, .slice aa an ac, .slice oa on oc] 28)) := (Below.refl _ w).alloc (Nat.le_refl _) _
  have hBox : BoxA (w.alloc (.cells #[.int .i64 kind, .bool g, .slice a ln c, .int .i64 ee, .string ⟨sa⟩, .slice aa an ac, .slice oa on oc] 28)) w.heap.size kind g a ln c ee ⟨sa⟩ aa an ac oa on oc := ⟨heap_alloc_new w _⟩
  refine (hMay.out _ hAl).mono ?_
  rintro en w1 ⟨rfl, hb1⟩
  replace hBox := hBox.stay hb1
  have HB1 := hid (below_trans hAl hb1)
  obtain ⟨c0, c1, c2, c3, c4, c5, c6⟩ := hBox.cells
  have hlt : w.heap.size < w1.heap.size := hBox.lt
  clear hBox hAl hb1 hMay
  go_wp2_with fail
  refine (HP.out _ HB1.out).mono ?_
  rintro en w2 ⟨rfl, hb2⟩
  have HB2 := hid (below_trans HB1.out hb2)
  clear hb2
  go_wp2_with fail
  refine (HC.out _).mono ?_
  rintro en w3 ⟨rfl, hb3⟩
  have HB3 := hid (below_trans HB2.out hb3)
  clear hb3
  go_wp2_with fail
  go_ret2
  exact ⟨rfl, HB3.out⟩

set_option maxRecDepth 100000 in
set_option maxHeartbeats 3200000 in
theorem apply_b64dY (v : JV) (cs : List Value) (w : World) (G : GV w cs v) (hk : (codedR (plainJ v)).2 = true) :
    Calls Tryz.prog 6 #[.string ⟨#[64, 98, 97, 115, 101, 54, 52, 100]⟩, .agg cs.toArray] w fun en w' => en = .returned (.tuple #[.string ⟨(cleanL (codedR (plainJ v)).1).toArray⟩, .int .i64 0]) ∧ Below w.heap.size w w' := by
  obtain ⟨a, c, aa, ac, oa, oc, P⟩ := G.rd.parts
  have hcs := P.cells
  have hA := P.arr
  clear P
  subst hcs
  have hMay := fun (W : World) (hb : Below w.heap.size w W) => value_May v _ W (G.rd.stay hb) (G.tabs.below hb)
  rw [G.may] at hMay
  have hpl := G.plen
  have HP := fun (W : World) (hb : Below w.heap.size w W) => format_plainV v _ W (G.below hb)
  have HC := fun (W : World) => format_coded (plainJ v) W (by omega)
  have HK := fun (W : World) (hb : Below w.heap.size w W) => utf_Clean (codedR (plainJ v)).1 W (by have := codedR_len (plainJ v); omega) (G.tabs.below hb)
  rw [hk] at HC
  clear G hpl hA
  generalize cleanL (codedR (plainJ v)).1 = T at *
  generalize (codedR (plainJ v)).1 = D at *
  generalize plainJ v = Pl at *
  generalize (⟨Pl.toArray⟩ : ByteArray) = pb at *
  replace HP := hid HP
  generalize (⟨D.toArray⟩ : ByteArray) = db at *
  replace HC := hid HC
  replace HK := hid HK
  clear hk
  unfold valCs strV at *
  generalize v.kind = kind, v.g = g, v.ls.length = ln, v.e = ee, v.s.toArray = sa, v.arr.length = an, v.obj.length = on at *
  replace hMay := hid hMay
  go_enter Tryz.func6, Tryz.ntmps6
  go_wp2_with fail
  have hAl : Below w.heap.size w (w.alloc (.cells #[.int .i64 kind, .bool g, .slice a ln c, .int .i64 ee, .string ⟨sa⟩, .slice aa an ac, .slice oa on oc] 28)) := (Below.refl _ w).alloc (Nat.le_refl _) _
  have hBox : BoxA (w.alloc (.cells #[.int .i64 kind, .bool g, .slice a ln c, .int .i64 ee, .string ⟨sa⟩, .slice aa an ac, .slice oa on oc] 28)) w.heap.size kind g a ln c ee ⟨sa⟩ aa an ac oa on oc := ⟨heap_alloc_new w _⟩
  refine (hMay.out _ hAl).mono ?_
  rintro en w1 ⟨rfl, hb1⟩
  replace hBox := hBox.stay hb1
  have HB1 := hid (below_trans hAl hb1)
  obtain ⟨c0, c1, c2, c3, c4, c5, c6⟩ := hBox.cells
  have hlt : w.heap.size < w1.heap.size := hBox.lt
  clear hBox hAl hb1 hMay
  go_wp2_with fail
  refine (HP.out _ HB1.out).mono ?_
  rintro en w2 ⟨rfl, hb2⟩
  have HB2 := hid (below_trans HB1.out hb2)
  clear hb2
  go_wp2_with fail
  refine (HC.out _).mono ?_
  rintro en w3 ⟨rfl, hb3⟩
  have HB3 := hid (below_trans HB2.out hb3)
  clear hb3
  go_wp2_with fail
  refine (HK.out _ HB3.out).mono ?_
  rintro en w4 ⟨rfl, hb4⟩
  have HB4 := hid (below_trans HB3.out hb4)
  clear hb4
  go_wp2_with fail
  go_ret2
  exact ⟨rfl, HB4.out⟩

set_option maxRecDepth 100000 in
set_option maxHeartbeats 3200000 in
theorem apply_b64dN (v : JV) (cs : List Value) (w : World) (G : GV w cs v) (hk : (codedR (plainJ v)).2 = false) :
    Calls Tryz.prog 6 #[.string ⟨#[64, 98, 97, 115, 101, 54, 52, 100]⟩, .agg cs.toArray] w fun en w' => en = .returned (.tuple #[.string ⟨#[]⟩, .int .i64 2]) ∧ Below w.heap.size w w' := by
  obtain ⟨a, c, aa, ac, oa, oc, P⟩ := G.rd.parts
  have hcs := P.cells
  have hA := P.arr
  clear P
  subst hcs
  have hMay := fun (W : World) (hb : Below w.heap.size w W) => value_May v _ W (G.rd.stay hb) (G.tabs.below hb)
  rw [G.may] at hMay
  have hpl := G.plen
  have HP := fun (W : World) (hb : Below w.heap.size w W) => format_plainV v _ W (G.below hb)
  have HC := fun (W : World) => format_coded (plainJ v) W (by omega)
  rw [hk] at HC
  clear G hpl hA
  generalize (codedR (plainJ v)).1 = D at *
  generalize plainJ v = Pl at *
  generalize (⟨Pl.toArray⟩ : ByteArray) = pb at *
  replace HP := hid HP
  generalize (⟨D.toArray⟩ : ByteArray) = db at *
  replace HC := hid HC
  clear hk
  unfold valCs strV at *
  generalize v.kind = kind, v.g = g, v.ls.length = ln, v.e = ee, v.s.toArray = sa, v.arr.length = an, v.obj.length = on at *
  replace hMay := hid hMay
  go_enter Tryz.func6, Tryz.ntmps6
  go_wp2_with fail
  have hAl : Below w.heap.size w (w.alloc (.cells #[.int .i64 kind, .bool g, .slice a ln c, .int .i64 ee, .string ⟨sa⟩, .slice aa an ac, .slice oa on oc] 28)) := (Below.refl _ w).alloc (Nat.le_refl _) _
  have hBox : BoxA (w.alloc (.cells #[.int .i64 kind, .bool g, .slice a ln c, .int .i64 ee, .string ⟨sa⟩, .slice aa an ac, .slice oa on oc] 28)) w.heap.size kind g a ln c ee ⟨sa⟩ aa an ac oa on oc := ⟨heap_alloc_new w _⟩
  refine (hMay.out _ hAl).mono ?_
  rintro en w1 ⟨rfl, hb1⟩
  replace hBox := hBox.stay hb1
  have HB1 := hid (below_trans hAl hb1)
  obtain ⟨c0, c1, c2, c3, c4, c5, c6⟩ := hBox.cells
  have hlt : w.heap.size < w1.heap.size := hBox.lt
  clear hBox hAl hb1 hMay
  go_wp2_with fail
  refine (HP.out _ HB1.out).mono ?_
  rintro en w2 ⟨rfl, hb2⟩
  have HB2 := hid (below_trans HB1.out hb2)
  clear hb2
  go_wp2_with fail
  refine (HC.out _).mono ?_
  rintro en w3 ⟨rfl, hb3⟩
  have HB3 := hid (below_trans HB2.out hb3)
  clear hb3
  go_wp2_with fail
  go_ret2
  exact ⟨rfl, HB3.out⟩

set_option maxRecDepth 100000 in
set_option maxHeartbeats 3200000 in
theorem apply_csvV (v : JV) (cs : List Value) (w : World) (G : GV w cs v) :
    Calls Tryz.prog 6 #[.string ⟨#[64, 99, 115, 118]⟩, .agg cs.toArray] w fun en w' => en = .returned (.tuple #[.string ⟨(tableCSV v).1.toArray⟩, .int .i64 (tableCSV v).2]) ∧ Below w.heap.size w w' := by
  obtain ⟨a, c, aa, ac, oa, oc, P⟩ := G.rd.parts
  have hcs := P.cells
  have hA := P.arr
  clear P
  subst hcs
  have hMay := fun (W : World) (hb : Below w.heap.size w W) => value_May v _ W (G.rd.stay hb) (G.tabs.below hb)
  rw [G.may] at hMay
  have hpl := G.plen
  have HP := fun (W : World) (hb : Below w.heap.size w W) => format_tableCSV v _ W (G.below hb)
  clear G hpl hA
  generalize tableCSV v = R at *
  replace HP := hid HP
  unfold valCs strV at *
  generalize v.kind = kind, v.g = g, v.ls.length = ln, v.e = ee, v.s.toArray = sa, v.arr.length = an, v.obj.length = on at *
  replace hMay := hid hMay
  go_enter Tryz.func6, Tryz.ntmps6
  go_wp2_with fail
  have hAl : Below w.heap.size w (w.alloc (.cells #[.int .i64 kind, .bool g, .slice a ln c, .int .i64 ee, .string ⟨sa⟩, .slice aa an ac, .slice oa on oc] 28)) := (Below.refl _ w).alloc (Nat.le_refl _) _
  have hBox : BoxA (w.alloc (.cells #[.int .i64 kind, .bool g, .slice a ln c, .int .i64 ee, .string ⟨sa⟩, .slice aa an ac, .slice oa on oc] 28)) w.heap.size kind g a ln c ee ⟨sa⟩ aa an ac oa on oc := ⟨heap_alloc_new w _⟩
  refine (hMay.out _ hAl).mono ?_
  rintro en w1 ⟨rfl, hb1⟩
  replace hBox := hBox.stay hb1
  have HB1 := hid (below_trans hAl hb1)
  obtain ⟨c0, c1, c2, c3, c4, c5, c6⟩ := hBox.cells
  have hlt : w.heap.size < w1.heap.size := hBox.lt
  clear hBox hAl hb1 hMay
  go_wp2_with fail
  refine (HP.out _ HB1.out).mono ?_
  rintro en w2 ⟨rfl, hb2⟩
  have HB2 := hid (below_trans HB1.out hb2)
  clear hb2
  go_wp2_with fail
  go_ret2
  exact ⟨rfl, HB2.out⟩

set_option maxRecDepth 100000 in
set_option maxHeartbeats 3200000 in
theorem apply_tsvV (v : JV) (cs : List Value) (w : World) (G : GV w cs v) :
    Calls Tryz.prog 6 #[.string ⟨#[64, 116, 115, 118]⟩, .agg cs.toArray] w fun en w' => en = .returned (.tuple #[.string ⟨(tableTSV v).1.toArray⟩, .int .i64 (tableTSV v).2]) ∧ Below w.heap.size w w' := by
  obtain ⟨a, c, aa, ac, oa, oc, P⟩ := G.rd.parts
  have hcs := P.cells
  have hA := P.arr
  clear P
  subst hcs
  have hMay := fun (W : World) (hb : Below w.heap.size w W) => value_May v _ W (G.rd.stay hb) (G.tabs.below hb)
  rw [G.may] at hMay
  have hpl := G.plen
  have HP := fun (W : World) (hb : Below w.heap.size w W) => format_tableTSV v _ W (G.below hb)
  clear G hpl hA
  generalize tableTSV v = R at *
  replace HP := hid HP
  unfold valCs strV at *
  generalize v.kind = kind, v.g = g, v.ls.length = ln, v.e = ee, v.s.toArray = sa, v.arr.length = an, v.obj.length = on at *
  replace hMay := hid hMay
  go_enter Tryz.func6, Tryz.ntmps6
  go_wp2_with fail
  have hAl : Below w.heap.size w (w.alloc (.cells #[.int .i64 kind, .bool g, .slice a ln c, .int .i64 ee, .string ⟨sa⟩, .slice aa an ac, .slice oa on oc] 28)) := (Below.refl _ w).alloc (Nat.le_refl _) _
  have hBox : BoxA (w.alloc (.cells #[.int .i64 kind, .bool g, .slice a ln c, .int .i64 ee, .string ⟨sa⟩, .slice aa an ac, .slice oa on oc] 28)) w.heap.size kind g a ln c ee ⟨sa⟩ aa an ac oa on oc := ⟨heap_alloc_new w _⟩
  refine (hMay.out _ hAl).mono ?_
  rintro en w1 ⟨rfl, hb1⟩
  replace hBox := hBox.stay hb1
  have HB1 := hid (below_trans hAl hb1)
  obtain ⟨c0, c1, c2, c3, c4, c5, c6⟩ := hBox.cells
  have hlt : w.heap.size < w1.heap.size := hBox.lt
  clear hBox hAl hb1 hMay
  go_wp2_with fail
  refine (HP.out _ HB1.out).mono ?_
  rintro en w2 ⟨rfl, hb2⟩
  have HB2 := hid (below_trans HB1.out hb2)
  clear hb2
  go_wp2_with fail
  go_ret2
  exact ⟨rfl, HB2.out⟩

set_option maxRecDepth 100000 in
set_option maxHeartbeats 3200000 in
theorem apply_sh5 (v : JV) (cs : List Value) (w : World) (G : GV w cs v) (h5 : v.kind = 5) :
    Calls Tryz.prog 6 #[.string ⟨#[64, 115, 104]⟩, .agg cs.toArray] w fun en w' => en = .returned (.tuple #[.string ⟨(rowR [110, 117, 108, 108] (quoL 39 [39, 92, 39, 39]) [32] v.arr).1.toArray⟩, .int .i64 (rowR [110, 117, 108, 108] (quoL 39 [39, 92, 39, 39]) [32] v.arr).2]) ∧ Below w.heap.size w w' := by
  obtain ⟨a, c, aa, ac, oa, oc, P⟩ := G.rd.parts
  have hcs := P.cells
  have hA := P.arr
  clear P
  subst hcs
  have hMay := fun (W : World) (hb : Below w.heap.size w W) => value_May v _ W (G.rd.stay hb) (G.tabs.below hb)
  rw [G.may] at hMay
  have hpl := G.plen
  obtain ⟨hn, hk⟩ := G.items
  have HP := fun (W : World) (hb : Below w.heap.size w W) => format_rowV 22 (run_callFunc Tryz.func22 (by kernel_rfl) (by kernel_rfl)) (quoL 39 [39, 92, 39, 39]) (fun s W h1 h2 => format_sh s W h1 h2) v.arr aa ac [32] [110, 117, 108, 108] W (hA.below hb) (G.mx.below hb) (G.tabs.below hb) hn hk (fun hd => row_len hn hk (fun s => quoL_len 39 [39, 92, 39, 39] s (by decide)) (by decide) (by decide) hd)
  clear hn hk
  clear G hpl hA
  have e1 : (rowR [110, 117, 108, 108] (quoL 39 [39, 92, 39, 39]) [32] v.arr).1 = (if deepB v.arr = true then [] else Lib.join (v.arr.map (itemG [110, 117, 108, 108] (quoL 39 [39, 92, 39, 39]))) [32]) := rfl
  have e2 : (rowR [110, 117, 108, 108] (quoL 39 [39, 92, 39, 39]) [32] v.arr).2 = (if deepB v.arr = true then 9 else 0) := rfl
  rw [e1, e2]
  clear e1 e2
  generalize (if deepB v.arr = true then [] else Lib.join (v.arr.map (itemG [110, 117, 108, 108] (quoL 39 [39, 92, 39, 39]))) [32]) = T at *
  generalize (if deepB v.arr = true then (9 : Int) else 0) = E at *
  rw [show v.kind = 5 from h5] at *
  clear h5
  replace HP := hid HP
  unfold valCs strV at *
  generalize v.g = g, v.ls.length = ln, v.e = ee, v.s.toArray = sa, v.arr.length = an, v.obj.length = on at *
  replace hMay := hid hMay
  go_enter Tryz.func6, Tryz.ntmps6
  go_wp2_with fail
  have hAl : Below w.heap.size w (w.alloc (.cells #[.int .i64 5, .bool g, .slice a ln c, .int .i64 ee, .string ⟨sa⟩, .slice aa an ac, .slice oa on oc] 28)) := (Below.refl _ w).alloc (Nat.le_refl _) _
  have hBox : BoxA (w.alloc (.cells #[.int .i64 5, .bool g, .slice a ln c, .int .i64 ee, .string ⟨sa⟩, .slice aa an ac, .slice oa on oc] 28)) w.heap.size 5 g a ln c ee ⟨sa⟩ aa an ac oa on oc := ⟨heap_alloc_new w _⟩
  refine (hMay.out _ hAl).mono ?_
  rintro en w1 ⟨rfl, hb1⟩
  replace hBox := hBox.stay hb1
  have HB1 := hid (below_trans hAl hb1)
  obtain ⟨c0, c1, c2, c3, c4, c5, c6⟩ := hBox.cells
  have hlt : w.heap.size < w1.heap.size := hBox.lt
  clear hBox hAl hb1 hMay
  go_wp2_with fail
  refine (HP.out _ (HB1.out.alloc HB1.out.size _)).mono ?_
  rintro en w2 ⟨rfl, hb2⟩
  have HB2 := hid (below_trans (HB1.out.alloc HB1.out.size _) hb2)
  clear hb2
  go_wp2_with fail
  go_ret2
  exact ⟨rfl, HB2.out⟩

set_option maxRecDepth 100000 in
set_option maxHeartbeats 3200000 in
theorem apply_sh1 (v : JV) (cs : List Value) (w : World) (G : GV w cs v) (h5 : ¬ v.kind = 5) :
    Calls Tryz.prog 6 #[.string ⟨#[64, 115, 104]⟩, .agg cs.toArray] w fun en w' => en = .returned (.tuple #[.string ⟨(rowR [110, 117, 108, 108] (quoL 39 [39, 92, 39, 39]) [32] [v]).1.toArray⟩, .int .i64 (rowR [110, 117, 108, 108] (quoL 39 [39, 92, 39, 39]) [32] [v]).2]) ∧ Below w.heap.size w w' := by
  obtain ⟨a, c, aa, ac, oa, oc, P⟩ := G.rd.parts
  have hcs := P.cells
  have hA := P.arr
  clear P
  subst hcs
  have hMay := fun (W : World) (hb : Below w.heap.size w W) => value_May v _ W (G.rd.stay hb) (G.tabs.below hb)
  rw [G.may] at hMay
  have hpl := G.plen
  have HP := fun (W : World) (b : Nat) (hb : Below w.heap.size w W) (hc : CellsAt W (some ⟨b, 0, none⟩) 0 _) => format_rowV 22 (run_callFunc Tryz.func22 (by kernel_rfl) (by kernel_rfl)) (quoL 39 [39, 92, 39, 39]) (fun s W h1 h2 => format_sh s W h1 h2) [v] (some ⟨b, 0, none⟩) 1 [32] [110, 117, 108, 108] W (one_rda hc (G.rd.stay hb)) (G.mx.below hb) (G.tabs.below hb) (by simp) (fun x hx => by obtain rfl : x = v := List.mem_singleton.1 hx; exact ⟨G.may, G.small, G.str⟩) (fun hd => row_len (by simp) (fun x hx => by obtain rfl : x = v := List.mem_singleton.1 hx; exact ⟨G.may, G.small, G.str⟩) (fun s => quoL_len 39 [39, 92, 39, 39] s (by decide)) (by decide) (by decide) hd)
  have h6 : (v.kind == 5) = false := by rw [beq_eq_false_iff_ne]; exact h5
  clear G hpl hA
  have e1 : (rowR [110, 117, 108, 108] (quoL 39 [39, 92, 39, 39]) [32] [v]).1 = (if deepB [v] = true then [] else Lib.join ([v].map (itemG [110, 117, 108, 108] (quoL 39 [39, 92, 39, 39]))) [32]) := rfl
  have e2 : (rowR [110, 117, 108, 108] (quoL 39 [39, 92, 39, 39]) [32] [v]).2 = (if deepB [v] = true then 9 else 0) := rfl
  rw [e1, e2]
  clear e1 e2
  generalize (if deepB [v] = true then [] else Lib.join ([v].map (itemG [110, 117, 108, 108] (quoL 39 [39, 92, 39, 39]))) [32]) = T at *
  generalize (if deepB [v] = true then (9 : Int) else 0) = E at *
  clear h5
  replace HP := hid HP
  unfold valCs strV at *
  generalize v.kind = kind, v.g = g, v.ls.length = ln, v.e = ee, v.s.toArray = sa, v.arr.length = an, v.obj.length = on at *
  replace hMay := hid hMay
  go_enter Tryz.func6, Tryz.ntmps6
  go_wp2_with fail
  have hAl : Below w.heap.size w (w.alloc (.cells #[.int .i64 kind, .bool g, .slice a ln c, .int .i64 ee, .string ⟨sa⟩, .slice aa an ac, .slice oa on oc] 28)) := (Below.refl _ w).alloc (Nat.le_refl _) _
  have hBox : BoxA (w.alloc (.cells #[.int .i64 kind, .bool g, .slice a ln c, .int .i64 ee, .string ⟨sa⟩, .slice aa an ac, .slice oa on oc] 28)) w.heap.size kind g a ln c ee ⟨sa⟩ aa an ac oa on oc := ⟨heap_alloc_new w _⟩
  refine (hMay.out _ hAl).mono ?_
  rintro en w1 ⟨rfl, hb1⟩
  replace hBox := hBox.stay hb1
  have HB1 := hid (below_trans hAl hb1)
  obtain ⟨c0, c1, c2, c3, c4, c5, c6⟩ := hBox.cells
  have hlt : w.heap.size < w1.heap.size := hBox.lt
  clear hBox hAl hb1 hMay
  go_wp2_with fail
  have hC7 : CellsAt (w1.alloc (.cells #[.int .i64 kind, .bool g, .slice a ln c, .int .i64 ee, .string ⟨sa⟩, .slice aa an ac, .slice oa on oc] 28)) (some ⟨w1.heap.size, 0, none⟩) 0 [.int .i64 kind, .bool g, .slice a ln c, .int .i64 ee, .string ⟨sa⟩, .slice aa an ac, .slice oa on oc] := by
    refine ⟨_, _, rfl, fun j v hj => ?_⟩
    rw [Lib.cell_of_heap (heap_alloc_new w1 _)]
    simpa using hj
  have hAl := HB1.out.alloc HB1.out.size (.cells #[.int .i64 kind, .bool g, .slice a ln c, .int .i64 ee, .string ⟨sa⟩, .slice aa an ac, .slice oa on oc] 28)
  refine (HP.out _ _ hAl hC7).mono ?_
  rintro en w2 ⟨rfl, hb2⟩
  have HB2 := hid (below_trans hAl hb2)
  clear hb2 hC7 hAl c0 c1 c2 c3 c4 c5 c6
  go_wp2_with fail
  go_ret2
  exact ⟨rfl, HB2.out⟩

end Go.Proofs.YtldhebpkplglcaaGreatDoor

namespace Go.Proofs.YtldhebpkplglcaaGreatDoor
open Go.RowKit

theorem bytes_ne {a b : List UInt8} (h : a ≠ b) : ((⟨a.toArray⟩ : ByteArray).toList == b) = false := by rw [ByteArray.toList_eq]; simpa using h

set_option maxRecDepth 100000 in
set_option maxHeartbeats 3200000 in
theorem apply_other (name : List UInt8) (v : JV) (cs : List Value) (w : World) (R : RdV w cs v) (hT : Tabs w) (hm : mayJ 200 v = true) (n0 : name ≠ [64, 116, 101, 120, 116]) (n1 : name ≠ [64, 106, 115, 111, 110]) (n2 : name ≠ [64, 104, 116, 109, 108]) (n3 : name ≠ [64, 117, 114, 105]) (n4 : name ≠ [64, 98, 97, 115, 101, 54, 52]) (n5 : name ≠ [64, 98, 97, 115, 101, 54, 52, 100]) (n6 : name ≠ [64, 99, 115, 118]) (n7 : name ≠ [64, 116, 115, 118]) (n8 : name ≠ [64, 115, 104]) :
    Calls Tryz.prog 6 #[.string ⟨name.toArray⟩, .agg cs.toArray] w fun en w' => en = .returned (.tuple #[.string ⟨#[]⟩, .int .i64 11]) ∧ Below w.heap.size w w' := by
  obtain ⟨a, c, aa, ac, oa, oc, P⟩ := R.parts
  have hcs := P.cells
  clear P
  subst hcs
  have hMay := fun (W : World) (hb : Below w.heap.size w W) => value_May v _ W (R.stay hb) (hT.below hb)
  rw [hm] at hMay
  have m0 : ((⟨name.toArray⟩ : ByteArray).toList == [64, 116, 101, 120, 116]) = false := bytes_ne n0
  have m1 : ((⟨name.toArray⟩ : ByteArray).toList == [64, 106, 115, 111, 110]) = false := bytes_ne n1
  have m2 : ((⟨name.toArray⟩ : ByteArray).toList == [64, 104, 116, 109, 108]) = false := bytes_ne n2
  have m3 : ((⟨name.toArray⟩ : ByteArray).toList == [64, 117, 114, 105]) = false := bytes_ne n3
  have m4 : ((⟨name.toArray⟩ : ByteArray).toList == [64, 98, 97, 115, 101, 54, 52]) = false := bytes_ne n4
  have m5 : ((⟨name.toArray⟩ : ByteArray).toList == [64, 98, 97, 115, 101, 54, 52, 100]) = false := bytes_ne n5
  have m6 : ((⟨name.toArray⟩ : ByteArray).toList == [64, 99, 115, 118]) = false := bytes_ne n6
  have m7 : ((⟨name.toArray⟩ : ByteArray).toList == [64, 116, 115, 118]) = false := bytes_ne n7
  have m8 : ((⟨name.toArray⟩ : ByteArray).toList == [64, 115, 104]) = false := bytes_ne n8
  clear R hT hm n0 n1 n2 n3 n4 n5 n6 n7 n8
  generalize (⟨name.toArray⟩ : ByteArray) = nb at *
  unfold valCs strV at *
  generalize v.kind = kind, v.g = g, v.ls.length = ln, v.e = ee, v.s.toArray = sa, v.arr.length = an, v.obj.length = on at *
  replace hMay := hid hMay
  go_enter Tryz.func6, Tryz.ntmps6
  go_wp2_with fail
  have hAl : Below w.heap.size w (w.alloc (.cells #[.int .i64 kind, .bool g, .slice a ln c, .int .i64 ee, .string ⟨sa⟩, .slice aa an ac, .slice oa on oc] 28)) := (Below.refl _ w).alloc (Nat.le_refl _) _
  refine (hMay.out _ hAl).mono ?_
  rintro en w1 ⟨rfl, hb1⟩
  have HB1 := hid (below_trans hAl hb1)
  clear hAl hb1 hMay
  go_wp2_with fail
  go_ret2
  exact ⟨rfl, HB1.out⟩

set_option maxRecDepth 100000 in
set_option maxHeartbeats 3200000 in
theorem apply_not (name : List UInt8) (v : JV) (cs : List Value) (w : World) (R : RdV w cs v) (hT : Tabs w) (hm : mayJ 200 v = false) :
    Calls Tryz.prog 6 #[.string ⟨name.toArray⟩, .agg cs.toArray] w fun en w' => en = .returned (.tuple #[.string ⟨#[]⟩, .int .i64 1]) ∧ Below w.heap.size w w' := by
  obtain ⟨a, c, aa, ac, oa, oc, P⟩ := R.parts
  have hcs := P.cells
  clear P
  subst hcs
  have hMay := fun (W : World) (hb : Below w.heap.size w W) => value_May v _ W (R.stay hb) (hT.below hb)
  rw [hm] at hMay

  clear R hT hm 
  generalize (⟨name.toArray⟩ : ByteArray) = nb at *
  unfold valCs strV at *
  generalize v.kind = kind, v.g = g, v.ls.length = ln, v.e = ee, v.s.toArray = sa, v.arr.length = an, v.obj.length = on at *
  replace hMay := hid hMay
  go_enter Tryz.func6, Tryz.ntmps6
  go_wp2_with fail
  have hAl : Below w.heap.size w (w.alloc (.cells #[.int .i64 kind, .bool g, .slice a ln c, .int .i64 ee, .string ⟨sa⟩, .slice aa an ac, .slice oa on oc] 28)) := (Below.refl _ w).alloc (Nat.le_refl _) _
  refine (hMay.out _ hAl).mono ?_
  rintro en w1 ⟨rfl, hb1⟩
  have HB1 := hid (below_trans hAl hb1)
  clear hAl hb1 hMay
  go_wp2_with fail
  go_ret2
  exact ⟨rfl, HB1.out⟩

/-- What Apply tells, whatever the value. -/
def applyA (name : List UInt8) (v : JV) : List UInt8 × Int := if mayJ 200 v = true then applyR name v else ([], 1)
theorem format_Apply (name : List UInt8) (v : JV) (cs : List Value) (w : World) (R : RdV w cs v) (hT : Tabs w) (hM : Mx w) (hS : SmallV v) (hl : mayJ 200 v = true → (jsonJ 200 v).length ≤ 2000000000) :
    Calls Tryz.prog 6 #[.string ⟨name.toArray⟩, .agg cs.toArray] w fun en w' => en = .returned (.tuple #[.string ⟨(applyA name v).1.toArray⟩, .int .i64 (applyA name v).2]) ∧ Below w.heap.size w w' := by
  unfold applyA
  by_cases hm : mayJ 200 v = true
  · rw [if_pos hm]
    have G : GV w cs v := ⟨hm, hS, R, hT, hM, hl hm, by cases hS; assumption⟩
    unfold applyR
    by_cases n0 : name = [64, 116, 101, 120, 116]
    · subst n0
      rw [if_pos rfl]
      exact apply_text v cs w G
    by_cases n1 : name = [64, 106, 115, 111, 110]
    · subst n1
      rw [if_neg (by decide), if_pos rfl]
      exact apply_json v cs w G
    by_cases n2 : name = [64, 104, 116, 109, 108]
    · subst n2
      rw [if_neg (by decide), if_neg (by decide), if_pos rfl]
      exact apply_html v cs w G
    by_cases n3 : name = [64, 117, 114, 105]
    · subst n3
      rw [if_neg (by decide), if_neg (by decide), if_neg (by decide), if_pos rfl]
      exact apply_uriV v cs w G
    by_cases n4 : name = [64, 98, 97, 115, 101, 54, 52]
    · subst n4
      rw [if_neg (by decide), if_neg (by decide), if_neg (by decide), if_neg (by decide), if_pos rfl]
      exact apply_b64V v cs w G
    by_cases n5 : name = [64, 98, 97, 115, 101, 54, 52, 100]
    · subst n5
      rw [if_neg (by decide), if_neg (by decide), if_neg (by decide), if_neg (by decide), if_neg (by decide), if_pos rfl]
      cases hk : (codedR (plainJ v)).2 with
      | true => rw [if_pos rfl]; exact apply_b64dY v cs w G hk
      | false => rw [if_neg (by decide)]; exact apply_b64dN v cs w G hk
    by_cases n6 : name = [64, 99, 115, 118]
    · subst n6
      rw [if_neg (by decide), if_neg (by decide), if_neg (by decide), if_neg (by decide), if_neg (by decide), if_neg (by decide), if_pos rfl]
      exact apply_csvV v cs w G
    by_cases n7 : name = [64, 116, 115, 118]
    · subst n7
      rw [if_neg (by decide), if_neg (by decide), if_neg (by decide), if_neg (by decide), if_neg (by decide), if_neg (by decide), if_neg (by decide), if_pos rfl]
      exact apply_tsvV v cs w G
    by_cases n8 : name = [64, 115, 104]
    · subst n8
      rw [if_neg (by decide), if_neg (by decide), if_neg (by decide), if_neg (by decide), if_neg (by decide), if_neg (by decide), if_neg (by decide), if_neg (by decide), if_pos rfl]
      by_cases h5 : v.kind = 5
      · rw [if_pos h5]; exact apply_sh5 v cs w G h5
      · rw [if_neg h5]; exact apply_sh1 v cs w G h5
    rw [if_neg n0, if_neg n1, if_neg n2, if_neg n3, if_neg n4, if_neg n5, if_neg n6, if_neg n7, if_neg n8]
    exact apply_other name v cs w R hT hm n0 n1 n2 n3 n4 n5 n6 n7 n8
  · rw [if_neg hm]
    exact apply_not name v cs w R hT (by simpa using hm)

end Go.Proofs.YtldhebpkplglcaaGreatDoor
