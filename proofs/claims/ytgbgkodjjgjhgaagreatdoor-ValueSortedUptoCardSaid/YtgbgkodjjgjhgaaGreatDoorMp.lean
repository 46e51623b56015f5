/- What an object has for a key: value.Get. What an object has for a key: value.Get's answer. An object without a key: value.Without, its loop. An object without a key: value.Without's loop, walked. An object without a key: value.Without's answer. A key set: value.With's other ways. A key set where an object has it not: value.With, walked. A key set: value.With's answer. Are two values the same? The document's answer. -/
import Derived.Test.YtgbgkodjjgjhgaaGreatDoorMn
import Derived.Test.YtgbgkodjjgjhgaaGreatDoorMl
import Derived.Test.YtgbgkodjjgjhgaaGreatDoorMf
namespace Go.Proofs.YtgbgkodjjgjhgaaGreatDoor
open Go.RowKit

theorem outV_null {w W : World} {r err : Nat} {zs : List Value} (hb : Below w.heap.size w W) (hr : w.heap.size ≤ r) :
    OutV w .null err (.returned (.tuple #[.agg #[.int .i64 0, .bool false, .slice none 0 0, .int .i64 0, .string ⟨#[]⟩, .slice none 0 0, .slice none 0 0], .int .i64 err])) (W.setCells r 0 zs) :=
  ⟨valCs 0 false none 0 0 0 [] none 0 0 none 0 0, rfl, rdv_null _, below_setCells r hr _ _ _ hb⟩
theorem outV_cells {w W : World} {r err : Nat} {zs : List Value} {k : Int} {g : Bool} {a : Option Addr} {ln c : Nat} {e : Int} {s : List UInt8} {aa : Option Addr} {an ac : Nat} {oa : Option Addr} {on oc : Nat} {x : JV} (h : RdV w (valCs k g a ln c e s aa an ac oa on oc) x) (hb : Below w.heap.size w W) (hr : w.heap.size ≤ r) :
    OutV w x err (.returned (.tuple #[.agg #[.int .i64 k, .bool g, .slice a ln c, .int .i64 e, .string ⟨s.toArray⟩, .slice aa an ac, .slice oa on oc], .int .i64 err])) (W.setCells r 0 zs) :=
  ⟨valCs k g a ln c e s aa an ac oa on oc, rfl, h.stay (below_setCells r hr _ _ _ hb), below_setCells r hr _ _ _ hb⟩

set_option maxRecDepth 100000 in
set_option maxHeartbeats 8000000 in
theorem get_walk (k : Int) (g : Bool) (a : Option Addr) (l c : Nat) (e : Int) (s : List UInt8) (aa : Option Addr) (an ac : Nat) (oa : Option Addr) (on oc : Nat) (key : List UInt8) (w : World) (m1 sd : Bool) (idx : Int) (x : JV) (err : Nat)
    (h1 : ∀ W, Below w.heap.size w W → Calls Tryz.prog 16 #[valV k g a l c e s aa an ac oa on oc] W fun en w' => en = .returned (.bool m1) ∧ Below W.heap.size W w')
    (h2 : ∀ W, Below w.heap.size w W → Calls Tryz.prog 30 #[strV key] W fun en w' => en = .returned (.bool sd) ∧ Below W.heap.size W w')
    (h3 : ∀ W, Below w.heap.size w W → Calls Tryz.prog 32 #[valV k g a l c e s aa an ac oa on oc, strV key] W fun en w' => en = .returned (.int .i64 idx) ∧ Below W.heap.size W w')
    (hx : ((m1 = false ∨ sd = false) ∧ x = .null ∧ err = 1) ∨ (m1 = true ∧ sd = true ∧ k ≠ 6 ∧ k ≠ 0 ∧ x = .null ∧ err = 9) ∨ (m1 = true ∧ sd = true ∧ (k = 6 ∨ k = 0) ∧ idx = -1 ∧ x = .null ∧ err = 0) ∨
      (m1 = true ∧ sd = true ∧ (k = 6 ∨ k = 0) ∧ err = 0 ∧ ∃ (i : Nat) (b off : Nat) (k' : Int) (g' : Bool) (a' : Option Addr) (l' c' : Nat) (e' : Int) (s' : List UInt8) (aa' : Option Addr) (an' ac' : Nat) (oa' : Option Addr) (on' oc' : Nat), idx = (i : Int) ∧ i < on ∧ on ≤ 9223372036854775807 ∧ oa = some ⟨b, off, none⟩ ∧
        Cells7 w b (off + i * 8 + 1) k' g' a' l' c' e' s' aa' an' ac' oa' on' oc' ∧ RdV w (valCs k' g' a' l' c' e' s' aa' an' ac' oa' on' oc') x)) :
    Calls Tryz.prog 17 #[valV k g a l c e s aa an ac oa on oc, strV key] w (OutV w x err) := by
  unfold valV strV at *
  generalize (⟨s.toArray⟩ : ByteArray) = sb at *
  generalize (⟨key.toArray⟩ : ByteArray) = kb at *
  obtain ⟨W, hW⟩ : ∃ W, W = (w.alloc (.cells #[.int .i64 k, .bool g, .slice a l c, .int .i64 e, .string sb, .slice aa an ac, .slice oa on oc] 28)).alloc (.cells #[.int .i64 0, .bool false, .slice none 0 0, .int .i64 0, .string ⟨#[]⟩, .slice none 0 0, .slice none 0 0] 28) := ⟨_, rfl⟩
  have HB := hid (show Below w.heap.size w W by rw [hW]; exact alloc_below2 _ _ _)
  have HX : Hid (BoxV W w.heap.size k g a l c e sb aa an ac oa on oc) := by
    rw [hW]
    exact ⟨by simp [go_sem], by simp [go_sem], by simp [go_sem], by simp [go_sem], by simp [go_sem], by simp [go_sem], by simp [go_sem]⟩
  have HZ : Hid (W.heap[w.heap.size + 1]? = some (.cells #[.int .i64 0, .bool false, .slice none 0 0, .int .i64 0, .string ⟨#[]⟩, .slice none 0 0, .slice none 0 0] 28)) := by
    rw [hW]
    exact blk_new2 w _ _
  replace hW := hid hW.symm
  replace h1 := hid h1
  replace h2 := hid h2
  replace h3 := hid h3
  have hr1 : Hid (w.heap.size ≤ w.heap.size + 1) := Nat.le_succ _
  rcases hx with ⟨hm, rfl, rfl⟩ | ⟨rfl, rfl, hk6, hk0, rfl, rfl⟩ | ⟨rfl, rfl, hk, rfl, rfl, rfl⟩ | ⟨rfl, rfl, hk, rfl, i, b, off, k', g', a', l', c', e', s', aa', an', ac', oa', on', oc', rfl, hi, hon, rfl, hc7, hrd⟩
  · have hOut := hid fun W' (hb : Below w.heap.size w W') => outV_null (err := 1) (zs := [.int .i64 0, .bool false, .slice none 0 0, .int .i64 0, .string ⟨#[]⟩, .slice none 0 0, .slice none 0 0]) hb hr1.out
    cases m1 with
    | false =>
      clear hm
      go_enter Tryz.func17, Tryz.ntmps17
      go_wp2_with fail
      rw [hW.out]
      refine (h1.out _ HB.out).mono ?_
      rintro en w1 ⟨rfl, hb⟩
      have q1 := hid (below_trans HB.out hb)
      obtain ⟨⟨r0, r1, r2, r3, r4, r5, r6⟩, s0, s1, s2, s3, s4, s5, s6⟩ := blk_seven (blk_below HZ.out hb)
      clear hb
      go_wp2_with fail
      refine bodyPost_ret (v := .tuple #[.agg #[.int .i64 0, .bool false, .slice none 0 0, .int .i64 0, .string ⟨#[]⟩, .slice none 0 0, .slice none 0 0], .int .i64 1]) (by simp [results, Tryz.results17, go_sem, r0, r1, r2, r3, r4, r5, r6]) rfl ?_
      exact hOut.out _ q1.out
    | true =>
      obtain rfl : sd = false := by rcases hm with h | h; cases h; exact h
      clear hm
      go_enter Tryz.func17, Tryz.ntmps17
      go_wp2_with fail
      rw [hW.out]
      refine (h1.out _ HB.out).mono ?_
      rintro en w1 ⟨rfl, hb⟩
      have q1 := hid (below_trans HB.out hb)
      have z1 := hid (blk_below HZ.out hb)
      clear hb
      go_wp2_with fail
      refine (h2.out _ q1.out).mono ?_
      rintro en w2 ⟨rfl, hb⟩
      have q2 := hid (below_trans q1.out hb)
      obtain ⟨⟨r0, r1, r2, r3, r4, r5, r6⟩, s0, s1, s2, s3, s4, s5, s6⟩ := blk_seven (blk_below z1.out hb)
      clear hb
      go_wp2_with fail
      refine bodyPost_ret (v := .tuple #[.agg #[.int .i64 0, .bool false, .slice none 0 0, .int .i64 0, .string ⟨#[]⟩, .slice none 0 0, .slice none 0 0], .int .i64 1]) (by simp [results, Tryz.results17, go_sem, r0, r1, r2, r3, r4, r5, r6]) rfl ?_
      exact hOut.out _ q2.out
  · have hOut := hid fun W' (hb : Below w.heap.size w W') => outV_null (err := 9) (zs := [.int .i64 0, .bool false, .slice none 0 0, .int .i64 0, .string ⟨#[]⟩, .slice none 0 0, .slice none 0 0]) hb hr1.out
    have f6 : (k != 6) = true := by rw [bne_iff_ne]; exact hk6
    have f0 : (k != 0) = true := by rw [bne_iff_ne]; exact hk0
    clear hk6 hk0
    go_enter Tryz.func17, Tryz.ntmps17
    go_wp2_with fail
    rw [hW.out]
    refine (h1.out _ HB.out).mono ?_
    rintro en w1 ⟨rfl, hb⟩
    have q1 := hid (below_trans HB.out hb)
    have z1 := hid (blk_below HZ.out hb)
    have x1 := hid (HX.out.stay hb)
    clear hb
    go_wp2_with fail
    refine (h2.out _ q1.out).mono ?_
    rintro en w2 ⟨rfl, hb⟩
    have q2 := hid (below_trans q1.out hb)
    obtain ⟨⟨r0, r1, r2, r3, r4, r5, r6⟩, s0, s1, s2, s3, s4, s5, s6⟩ := blk_seven (blk_below z1.out hb)
    obtain ⟨p0, p1, p2, p3, p4, p5, p6⟩ := x1.out.stay hb
    clear hb
    go_wp2_with fail
    refine bodyPost_ret (v := .tuple #[.agg #[.int .i64 0, .bool false, .slice none 0 0, .int .i64 0, .string ⟨#[]⟩, .slice none 0 0, .slice none 0 0], .int .i64 9]) (by simp [results, Tryz.results17, go_sem, r0, r1, r2, r3, r4, r5, r6]) rfl ?_
    exact hOut.out _ q2.out
  · have hOut := hid fun W' (hb : Below w.heap.size w W') => outV_null (err := 0) (zs := [.int .i64 0, .bool false, .slice none 0 0, .int .i64 0, .string ⟨#[]⟩, .slice none 0 0, .slice none 0 0]) hb hr1.out
    rcases hk with rfl | rfl
    all_goals
      go_enter Tryz.func17, Tryz.ntmps17
      go_wp2_with fail
      rw [hW.out]
      refine (h1.out _ HB.out).mono ?_
      rintro en w1 ⟨rfl, hb⟩
      have q1 := hid (below_trans HB.out hb)
      have z1 := hid (blk_below HZ.out hb)
      have x1 := hid (HX.out.stay hb)
      clear hb
      go_wp2_with fail
      refine (h2.out _ q1.out).mono ?_
      rintro en w2 ⟨rfl, hb⟩
      have q2 := hid (below_trans q1.out hb)
      have z2 := hid (blk_below z1.out hb)
      obtain ⟨p0, p1, p2, p3, p4, p5, p6⟩ := x1.out.stay hb
      clear hb
      go_wp2_with fail
      refine (h3.out _ q2.out).mono ?_
      rintro en w3 ⟨rfl, hb⟩
      have q3 := hid (below_trans q2.out hb)
      obtain ⟨⟨r0, r1, r2, r3, r4, r5, r6⟩, s0, s1, s2, s3, s4, s5, s6⟩ := blk_seven (blk_below z2.out hb)
      clear hb
      go_wp2_with fail
      refine bodyPost_ret (v := .tuple #[.agg #[.int .i64 0, .bool false, .slice none 0 0, .int .i64 0, .string ⟨#[]⟩, .slice none 0 0, .slice none 0 0], .int .i64 0]) (by simp [results, Tryz.results17, go_sem, r0, r1, r2, r3, r4, r5, r6]) rfl ?_
      exact hOut.out _ q3.out
  · have hOut := hid fun W' (hb : Below w.heap.size w W') => outV_cells (err := 0) (zs := [.int .i64 k', .bool g', .slice a' l' c', .int .i64 e', .string ⟨s'.toArray⟩, .slice aa' an' ac', .slice oa' on' oc']) hrd hb hr1.out
    unfold Cells7 strV at hc7
    have hl7 := cell_lt hc7.1
    generalize (⟨s'.toArray⟩ : ByteArray) = sb' at *
    have hC : Hid (∀ W', Below w.heap.size w W' → (W'.cell? ⟨b, off + i * 8 + 1, none⟩ = some (.int .i64 k') ∧ W'.cell? ⟨b, off + i * 8 + 1 + 1, none⟩ = some (.bool g') ∧ W'.cell? ⟨b, off + i * 8 + 1 + 2, none⟩ = some (.slice a' l' c') ∧ W'.cell? ⟨b, off + i * 8 + 1 + 3, none⟩ = some (.int .i64 e') ∧ W'.cell? ⟨b, off + i * 8 + 1 + 4, none⟩ = some (.string sb') ∧ W'.cell? ⟨b, off + i * 8 + 1 + 5, none⟩ = some (.slice aa' an' ac') ∧ W'.cell? ⟨b, off + i * 8 + 1 + 6, none⟩ = some (.slice oa' on' oc'))) := by
      intro W' hb
      obtain ⟨u0, u1, u2, u3, u4, u5, u6⟩ := hc7
      exact ⟨cell_stay u0 hb, cell_stay u1 hb, cell_stay u2 hb, cell_stay u3 hb, cell_stay u4 hb, cell_stay u5 hb, cell_stay u6 hb⟩
    clear hc7 hl7 hrd
    have i0 : (0 : Int) ≤ (i : Int) := by omega
    have i1 : (i : Int) < (on : Int) := by omega
    have i2 : (on : Int) ≤ 9223372036854775807 := by omega
    rcases hk with rfl | rfl
    all_goals
      go_enter Tryz.func17, Tryz.ntmps17
      go_wp2_with fail
      rw [hW.out]
      refine (h1.out _ HB.out).mono ?_
      rintro en w1 ⟨rfl, hb⟩
      have q1 := hid (below_trans HB.out hb)
      have z1 := hid (blk_below HZ.out hb)
      have x1 := hid (HX.out.stay hb)
      clear hb
      go_wp2_with fail
      refine (h2.out _ q1.out).mono ?_
      rintro en w2 ⟨rfl, hb⟩
      have q2 := hid (below_trans q1.out hb)
      have z2 := hid (blk_below z1.out hb)
      have x2 := hid (x1.out.stay hb)
      obtain ⟨p0, p1, p2, p3, p4, p5, p6⟩ := x2.out
      clear hb
      go_wp2_with fail
      refine (h3.out _ q2.out).mono ?_
      rintro en w3 ⟨rfl, hb⟩
      have q3 := hid (below_trans q2.out hb)
      obtain ⟨⟨r0, r1, r2, r3, r4, r5, r6⟩, s0, s1, s2, s3, s4, s5, s6⟩ := blk_seven (blk_below z2.out hb)
      clear p0 p1 p2 p3 p4 p5 p6
      obtain ⟨p0, p1, p2, p3, p4, p5, p6⟩ := x2.out.stay hb
      obtain ⟨u0, u1, u2, u3, u4, u5, u6⟩ := hC.out w3 q3.out
      clear hb
      go_wp2_with fail
      refine bodyPost_ret (v := .tuple #[.agg #[.int .i64 k', .bool g', .slice a' l' c', .int .i64 e', .string sb', .slice aa' an' ac', .slice oa' on' oc'], .int .i64 0]) (by simp [results, Tryz.results17, go_sem, r0, r1, r2, r3, r4, r5, r6]) rfl ?_
      exact hOut.out _ q3.out

end Go.Proofs.YtgbgkodjjgjhgaaGreatDoor

namespace Go.Proofs.YtgbgkodjjgjhgaaGreatDoor
open Go.RowKit

theorem idxO_spec (key : List UInt8) : ∀ (l : List Fld) (k : Nat), (idxO key l k = -1 ∧ getO key l = none ∧ ¬ hasO key l = true) ∨ ∃ (i : Nat) (h : i < l.length), idxO key l k = ((k + i : Nat) : Int) ∧ (l[i]).1 = key ∧ getO key l = some (l[i]).2 ∧ hasO key l = true
  | [], k => Or.inl ⟨rfl, rfl, by simp [hasO]⟩
  | x :: l, k => by
    by_cases h : x.1 = key
    · refine Or.inr ⟨0, by simp, ?_, h, ?_, ?_⟩
      · simp only [idxO]; rw [if_pos h]; rfl
      · simp only [getO]; rw [if_pos h]; rfl
      · simp [hasO, h]
    · have hh : hasO key (x :: l) = hasO key l := by simp [hasO, h]
      rcases idxO_spec key l (k + 1) with ⟨e1, e2, e3⟩ | ⟨i, hi, e1, e2, e3, e4⟩
      · refine Or.inl ⟨?_, ?_, by rw [hh]; exact e3⟩
        · simp only [idxO]; rw [if_neg h]; exact e1
        · simp only [getO]; rw [if_neg h]; exact e2
      · refine Or.inr ⟨i + 1, by simpa using hi, ?_, by simpa using e2, ?_, by rw [hh]; exact e4⟩
        · simp only [idxO]
          rw [if_neg h, e1]
          congr 1
          omega
        · simp only [getO]; rw [if_neg h]; simpa using e3
theorem setO_at {key : List UInt8} {x : JV} : ∀ {l : List Fld} {i : Nat} (_ : (l.map (·.1)).Nodup) (h : i < l.length), (l[i]).1 = key → l.map (fun p => if p.1 = key then (key, x) else p) = l.set i (key, x)
  | [], i, _, h, _ => by simp at h
  | p :: l, 0, hn, _, e => by
    simp only [List.getElem_cons_zero] at e
    simp only [List.map_cons, List.nodup_cons] at hn
    rw [List.map_cons, if_pos e, List.set_cons_zero]
    congr 1
    refine (List.map_congr_left fun q hq => ?_).trans (List.map_id' l)
    rw [if_neg]
    intro h
    exact hn.1 (by rw [e, ← h]; exact List.mem_map_of_mem hq)
  | p :: l, i + 1, hn, h, e => by
    simp only [List.getElem_cons_succ] at e
    simp only [List.map_cons, List.nodup_cons] at hn
    have hi : i < l.length := by simpa using h
    rw [List.map_cons, List.set_cons_succ, setO_at hn.2 hi e, if_neg]
    intro hp
    exact hn.1 (by rw [hp, ← e]; exact List.mem_map_of_mem (List.getElem_mem hi))

theorem value_Get (v : JV) (cs : List Value) (key : List UInt8) (w : World) (hkl : key.length ≤ 9223372036854775807) (sv : SmallV v) (rv : RdV w cs v) (hT : Tabs w) :
    Calls Tryz.prog 17 #[.agg cs.toArray, strV key] w (OutV w (getR v key).1 (getR v key).2) := by
  have C1 := fun W (hb : Below w.heap.size w W) => value_May v cs W (rv.stay hb) (hT.below hb)
  have C2 := fun W (hb : Below w.heap.size w W) => value_sound key W hkl (hT.below hb).1
  have C3 := fun W (hb : Below w.heap.size w W) => value_place v cs key W sv (rv.stay hb)
  obtain ⟨a, c, aa, ac, oa, oc, P⟩ := rv.parts
  have e := P.cells
  subst e
  refine get_walk v.kind v.g a v.ls.length c v.e v.s aa v.arr.length ac oa v.obj.length oc key w (mayJ 200 v) (soundB key) (idxO key v.obj 0) (getR v key).1 (getR v key).2 C1 C2 C3 ?_
  unfold getR
  by_cases hm : mayJ 200 v = true ∧ soundB key = true
  rotate_left
  · left
    rw [if_pos hm]
    refine ⟨?_, rfl, rfl⟩
    by_cases h : mayJ 200 v = true
    · exact Or.inr (by rw [Bool.eq_false_iff]; exact fun h2 => hm ⟨h, h2⟩)
    · exact Or.inl (by rw [Bool.eq_false_iff]; exact h)
  right
  rw [if_neg (fun h => h hm)]
  by_cases hk : v.kind ≠ 6 ∧ v.kind ≠ 0
  · left
    rw [if_pos hk]
    exact ⟨hm.1, hm.2, hk.1, hk.2, rfl, rfl⟩
  right
  rw [if_neg hk]
  have hk2 : v.kind = 6 ∨ v.kind = 0 := by omega
  rcases idxO_spec key v.obj 0 with ⟨e1, e2, _⟩ | ⟨i, hi, e1, e2, e3, _⟩
  · left
    rw [e2]
    exact ⟨hm.1, hm.2, hk2, e1, rfl, rfl⟩
  · right
    rw [e3]
    obtain ⟨b, off, a1, c1, aa1, ac1, oa1, oc1, h0, _, P1, C⟩ := P.obj.at hi
    obtain ⟨_, q0, q1, q2, q3, q4, q5, q6⟩ := C
    exact ⟨hm.1, hm.2, hk2, rfl, i, b, off, _, _, _, _, _, _, _, _, _, _, _, _, _, by rw [e1]; simp, hi, by have := P.oc; omega, h0, ⟨q0, q1, q2, q3, q4, q5, q6⟩, P1.rd⟩

end Go.Proofs.YtgbgkodjjgjhgaaGreatDoor

namespace Go.Proofs.YtgbgkodjjgjhgaaGreatDoor
open Go.RowKit

theorem owns_else {w : World} {base : Nat} {e : TypeId} {size : Nat} {v : Value} {n : Nat} {xs : List Value} (h : w.ownsRow base e size v n xs) {p : Nat} {cs : Array Value} {T : TypeId} {fz : Nat × Nat} (hp : w.heap[p]? = some (.cells cs T fz)) (hT : T ≠ e) (o : Nat) (u : Value) : (w.setCell ⟨p, o, none⟩ u).ownsRow base e size v n xs := by
  refine ⟨h.1, ?_⟩
  rcases h.2 with hn | ⟨g, cap, cur, hv, hb, hg, rest⟩
  · exact .inl hn
  · refine .inr ⟨g, cap, cur, hv, hb, ?_, rest⟩
    have hne : g ≠ p := by
      rintro rfl
      rw [hg] at hp
      simp only [Option.some.injEq, Obj.cells.injEq] at hp
      exact hT hp.2.1.symm
    rw [Below.heap_setCell _ _ _ _ hne]
    exact hg
theorem owns_not {w : World} {base : Nat} {e : TypeId} {size : Nat} {v : Value} {n : Nat} {xs : List Value} (h : w.ownsRow base e size v n xs) {p : Nat} {cs : Array Value} {T : TypeId} {fz : Nat × Nat} (hp : w.heap[p]? = some (.cells cs T fz)) (hT : T ≠ e) : some p ≠ v.ownBlock := by
  rcases h.2 with ⟨rfl, _⟩ | ⟨g, cap, cur, rfl, _, hg, _⟩
  · intro h; cases h
  · intro hh
    have : p = g := by
      have hh : some p = some g := hh
      injection hh
    subst this
    rw [hg] at hp
    simp only [Option.some.injEq, Obj.cells.injEq] at hp
    exact hT hp.2.1.symm
theorem owns_stayF {w w' : World} {base : Nat} {e : TypeId} {size : Nat} {v : Value} {n : Nat} {xs : List Value} (h : w.ownsRow base e size v n xs) (hb : Below w.heap.size w w') : w'.ownsRow base e size v n xs := by
  refine ⟨h.1, ?_⟩
  rcases h.2 with hn | ⟨g, cap, cur, hv, hbb, hg, rest⟩
  · exact .inl hn
  · exact .inr ⟨g, cap, cur, hv, hbb, blk_below hg hb, rest⟩
theorem blk7_set {w : World} {N : Nat} {x0 x1 x2 x3 x4 x5 x6 : Value} {T : TypeId} (h : w.heap[N]? = some (.cells #[x0, x1, x2, x3, x4, x5, x6] T (0, 0))) (u : Value) : (w.setCell ⟨N, 6, none⟩ u).heap[N]? = some (.cells #[x0, x1, x2, x3, x4, x5, u] T (0, 0)) := by
  simp [World.setCell, Array.getElem?_modify, h]
/-- An object under way: its own block, its row of fields. -/
structure OutRow (w W : World) (O : Nat) (V : Value) (L : List Fld) : Prop where
  blk : W.heap[O]? = some (.cells #[.int .i64 6, .bool false, .slice none 0 0, .int .i64 0, .string ⟨#[]⟩, .slice none 0 0, V] 28 (0, 0))
  row : ∃ E : List FE, E.map FE.fld = L ∧ (∀ f ∈ E, RdV w f.cs f.v) ∧ W.ownsRow w.heap.size 53 8 V E.length (E.flatMap FE.enc)
  bel : Below w.heap.size w W
  own : w.heap.size ≤ O
theorem OutRow.stay {w W W' : World} {O : Nat} {V : Value} {L : List Fld} (h : OutRow w W O V L) (hb : Below W.heap.size W W') : OutRow w W' O V L := by
  obtain ⟨h1, ⟨E, e1, e2, e3⟩, h3, h4⟩ := h
  exact ⟨blk_below h1 hb, ⟨E, e1, e2, owns_stayF e3 hb⟩, below_trans h3 hb, h4⟩
/-- Fields in memory whose values are old. -/
def RdOw (w W : World) (oa : Option Addr) (obj : List Fld) : Prop := ∀ (i : Nat) (x : Fld), obj[i]? = some x → ∃ cs, CellsAt W oa (i * 8) (strV x.1 :: cs) ∧ x.1.length ≤ 9223372036854775807 ∧ RdV w cs x.2
/-- What has been made reads as the fields. -/
theorem OutRow.shut {w W : World} {O : Nat} {V : Value} {L : List Fld} (h : OutRow w W O V L) (_hL : L.length ≤ 9223372036854775807) : ∃ (oa : Option Addr) (oc : Nat), V = .slice oa L.length oc ∧ RdOw w W oa L ∧ L.length ≤ oc ∧ oc ≤ 9223372036854775807 := by
  obtain ⟨_, ⟨E, e1, e2, _, e3⟩, _, _⟩ := h
  have hlen : E.length = L.length := by rw [← e1]; simp
  rcases e3 with ⟨rfl, h0⟩ | ⟨g, cap, cur, rfl, _, hg, hc, hm, hs, ht⟩
  · have : L = [] := by rw [← e1, List.eq_nil_of_length_eq_zero h0]; rfl
    subst this
    exact ⟨none, 0, rfl, fun i x hx => by simp at hx, Nat.le_refl _, by omega⟩
  · refine ⟨some ⟨g, 0, none⟩, cap, by rw [hlen], ?_, by omega, by simpa [maxLen] using hm⟩
    have hR : RowF E W g cap := ⟨cur, hg, hc, hs, ht⟩
    intro i x hx
    rw [← e1, List.getElem?_map] at hx
    obtain ⟨f, hf, rfl⟩ := Option.map_eq_some_iff.1 hx
    refine ⟨f.cs, ⟨g, 0, rfl, fun j u hu => ?_⟩, f.short, e2 f (List.mem_of_getElem? hf)⟩
    rw [Nat.zero_add]
    exact hR.cell hf hu

/-- What is handed back of an object under way. -/
theorem OutRow.final {w wr : World} {O Z : Nat} {V : Value} {L : List Fld} (h : OutRow w wr O V L) (hz : wr.heap[Z]? = some (.cells #[.int .i64 0, .bool false, .slice none 0 0, .int .i64 0, .string ⟨#[]⟩, .slice none 0 0, .slice none 0 0] 28 (0, 0))) (hwZ : w.heap.size ≤ Z) (hL : L.length ≤ 9223372036854775807) :
    ∃ (oa : Option Addr) (oc : Nat), V = .slice oa L.length oc ∧ OutV w (objV L) 0 (.returned (.tuple #[.agg #[.int .i64 6, .bool false, .slice none 0 0, .int .i64 0, .string ⟨#[]⟩, .slice none 0 0, .slice oa L.length oc], .int .i64 0])) (wr.setCells Z 0 [.int .i64 6, .bool false, .slice none 0 0, .int .i64 0, .string ⟨#[]⟩, .slice none 0 0, .slice oa L.length oc]) := by
  obtain ⟨oa2, oc2, rfl, hro, hc1, hc2⟩ := h.shut hL
  have hbZ := below_setCells Z hwZ [.int .i64 6, .bool false, .slice none 0 0, .int .i64 0, .string ⟨#[]⟩, .slice none 0 0, .slice oa2 L.length oc2] 0 wr h.bel
  refine ⟨oa2, oc2, rfl, valCs 6 false none 0 0 0 [] none 0 0 oa2 L.length oc2, rfl, ?_, hbZ⟩
  refine PartsV.rd (v := objV L) (a := none) (c := 0) (aa := none) (ac := 0) (oa := oa2) (oc := oc2) ⟨rfl, (show I64 6 by unfold I64; decide), (show I64 0 by unfold I64; decide), by show (0:Nat) ≤ _; omega, ⟨Nat.le_refl _, by omega⟩, ⟨hc1, hc2⟩, ⟨Nat.le_refl _, by omega⟩, ⟨Row.nil _ _, fun x hx => by cases hx⟩, fun j y hy => by simp [objV, JV.arr] at hy, ?_⟩
  intro i x hx
  obtain ⟨cs, ⟨b, off, e1, hcs⟩, k2, k3⟩ := hro i x hx
  obtain ⟨_, ⟨E, _, _, _, e3⟩, _, _⟩ := h
  have hne : b ≠ Z := by
    rcases e3 with ⟨h, _⟩ | ⟨g2, cap, cur, h, _, hg, _⟩
    · simp only [Value.slice.injEq] at h
      rw [h.1] at e1
      cases e1
    · simp only [Value.slice.injEq] at h
      rw [h.1] at e1
      simp only [Option.some.injEq, Addr.mk.injEq] at e1
      rintro rfl
      rw [← e1.1, hg] at hz
      simp at hz
  refine ⟨cs, ⟨b, off, e1, fun jj v hv => ?_⟩, k2, k3.stay hbZ⟩
  rw [World.cell?_setCells_out Z _ _ _ _ (fun h => absurd h hne)]
  exact hcs jj v hv
theorem owns_base {w : World} {b b' : Nat} {e : TypeId} {size : Nat} {v : Value} {n : Nat} {xs : List Value} (h : w.ownsRow b e size v n xs) (hb : b' ≤ b) : w.ownsRow b' e size v n xs := by
  refine ⟨h.1, ?_⟩
  rcases h.2 with hn | ⟨g, cap, cur, hv, hbb, rest⟩
  · exact .inl hn
  · exact .inr ⟨g, cap, cur, hv, Nat.le_trans hb hbb, rest⟩

end Go.Proofs.YtgbgkodjjgjhgaaGreatDoor

namespace Go.Proofs.YtgbgkodjjgjhgaaGreatDoor
open Go.RowKit

theorem owns_succ {w : World} {base : Nat} {e : TypeId} {size : Nat} {v : Value} {n : Nat} {xs : List Value} (h : w.ownsRow base e size v (n + 1) xs) : ∃ g cap, v = .slice (some ⟨g, 0, none⟩) (n + 1) cap := by
  rcases h.2 with ⟨_, h0⟩ | ⟨g, cap, cur, hv, _⟩
  · cases h0
  · exact ⟨g, cap, hv⟩
/-- One field more. -/
theorem OutRow.more {w W W2 : World} {O : Nat} {V V' : Value} {L : List Fld} {f : FE} (hf : RdV w f.cs f.v) (h : OutRow w W O V L) {E : List FE} (e1 : E.map FE.fld = L) (e2 : ∀ f ∈ E, RdV w f.cs f.v)
    (ho : W2.ownsRow w.heap.size 53 8 V' (E.length + 1) (E.flatMap FE.enc ++ f.enc)) (hb : Below w.heap.size w W2) (hO : W2.heap[O]? = W.heap[O]?) :
    OutRow w (W2.setCell ⟨O, 6, none⟩ V') O V' (L ++ [f.fld]) := by
  have hblk : W2.heap[O]? = some (.cells #[.int .i64 6, .bool false, .slice none 0 0, .int .i64 0, .string ⟨#[]⟩, .slice none 0 0, V] 28 (0, 0)) := by rw [hO]; exact h.blk
  refine ⟨blk7_set hblk V', ⟨E ++ [f], by rw [List.map_append, e1]; rfl, ?_, ?_⟩, hb.setCell (by exact h.own) _, h.own⟩
  · intro g hg
    rcases List.mem_append.1 hg with hg | hg
    · exact e2 g hg
    · rw [List.mem_singleton.1 hg]; exact hf
  · have := owns_else ho hblk (by decide) 6 V'
    simpa using this

set_option maxRecDepth 100000 in
set_option maxHeartbeats 8000000 in
theorem without_loop (g : Bool) (a : Option Addr) (l c : Nat) (e : Int) (s : List UInt8) (aa : Option Addr) (an ac : Nat) (oa : Option Addr) (oc : Nat) (key : List UInt8) (w : World) (obj : List Fld) (hO : RdO w oa obj) (hol : obj.length ≤ 1048576) (hso : ∀ p ∈ obj, soundB p.1 = true)
    (h1 : ∀ W, Below w.heap.size w W → Calls Tryz.prog 16 #[valV 6 g a l c e s aa an ac oa obj.length oc] W fun en w' => en = .returned (.bool true) ∧ Below W.heap.size W w')
    (h2 : ∀ W, Below w.heap.size w W → Calls Tryz.prog 30 #[strV key] W fun en w' => en = .returned (.bool true) ∧ Below W.heap.size W w') :
    Calls Tryz.prog 19 #[valV 6 g a l c e s aa an ac oa obj.length oc, strV key] w (OutV w (objV (delO key obj)) 0) := by
  unfold valV strV at *
  generalize (⟨s.toArray⟩ : ByteArray) = sb at *
  obtain ⟨kb, hkb⟩ : ∃ kb : ByteArray, kb = ⟨key.toArray⟩ := ⟨_, rfl⟩
  rw [← hkb] at h2 ⊢
  replace hkb := hid hkb
  generalize hon : obj.length = on at *
  replace hon := hid hon
  replace hO := hid hO
  replace hso := hid hso
  obtain ⟨W, hW⟩ : ∃ W, W = (w.alloc (.cells #[.int .i64 6, .bool g, .slice a l c, .int .i64 e, .string sb, .slice aa an ac, .slice oa on oc] 28)).alloc (.cells #[.int .i64 0, .bool false, .slice none 0 0, .int .i64 0, .string ⟨#[]⟩, .slice none 0 0, .slice none 0 0] 28) := ⟨_, rfl⟩
  have HB := hid (show Below w.heap.size w W by rw [hW]; exact alloc_below2 _ _ _)
  have HX : Hid (BoxV W w.heap.size 6 g a l c e sb aa an ac oa on oc) := by
    rw [hW]
    exact ⟨by simp [go_sem], by simp [go_sem], by simp [go_sem], by simp [go_sem], by simp [go_sem], by simp [go_sem], by simp [go_sem]⟩
  have HZ : Hid (W.heap[w.heap.size + 1]? = some (.cells #[.int .i64 0, .bool false, .slice none 0 0, .int .i64 0, .string ⟨#[]⟩, .slice none 0 0, .slice none 0 0] 28)) := by
    rw [hW]
    exact blk_new2 w _ _
  replace hW := hid hW.symm
  replace h1 := hid h1
  replace h2 := hid h2
  go_enter Tryz.func19, Tryz.ntmps19
  go_wp2_with fail
  rw [hW.out]
  refine (h1.out _ HB.out).mono ?_
  rintro en w1 ⟨rfl, hb⟩
  have q1 := hid (below_trans HB.out hb)
  have z1 := hid (blk_below HZ.out hb)
  have x1 := hid (HX.out.stay hb)
  clear hb HB HX HZ hW
  go_wp2_with fail
  refine (h2.out _ q1.out).mono ?_
  rintro en w2 ⟨rfl, hb⟩
  have q2 := hid (below_trans q1.out hb)
  have z2 := hid (blk_below z1.out hb)
  obtain ⟨p0, p1, p2, p3, p4, p5, p6⟩ := x1.out.stay hb
  have hl := cell_lt p0
  clear hb q1 z1 x1
  have hOR : Hid (OutRow w (w2.alloc (.cells #[.int .i64 6, .bool false, .slice none 0 0, .int .i64 0, .string ⟨#[]⟩, .slice none 0 0, .slice none 0 0] 28)) w2.heap.size (.slice none 0 0) []) :=
    ⟨blk_new w2 _, ⟨[], rfl, (fun f hf => by cases hf), ⟨by simp, .inl ⟨rfl, rfl⟩⟩⟩, q2.out.alloc q2.out.size _, q2.out.size⟩
  have hZ3 := hid (blk_alloc z2.out (.cells #[.int .i64 6, .bool false, .slice none 0 0, .int .i64 0, .string ⟨#[]⟩, .slice none 0 0, .slice none 0 0] 28))
  have hZl : Hid (w.heap.size + 1 < w2.heap.size) := blk_lt z2.out
  go_wp2
  clear p0 p1 p2 p3 p4 p5 p6 hl q2 z2 h1 h2
  generalize w2.alloc (.cells #[.int .i64 6, .bool false, .slice none 0 0, .int .i64 0, .string ⟨#[]⟩, .slice none 0 0, .slice none 0 0] 28) = w3 at *
  generalize w2.heap.size = O at *
  obtain ⟨Z, hZe⟩ : ∃ Z, Z = w.heap.size + 1 := ⟨_, rfl⟩
  have hwZ : Hid (w.heap.size ≤ Z) := by rw [hZe]; show w.heap.size ≤ _; omega
  rw [← hZe] at hZ3 hZl ⊢
  clear hZe
  obtain ⟨i0, i1, i2, i3, zv, i4, i5⟩ := infoField
  replace i1 := hid i1
  replace i2 := hid i2
  replace i3 := hid i3
  replace i4 := hid i4
  replace i5 := hid i5
  go_loopw [8, 33] (fun _ v33 wr => ∃ (j : Nat) (V : Value), j ≤ on ∧ Hid (OutRow w wr O V (delO key (obj.take j))) ∧ v33 = .int .i64 j ∧ Hid (wr.heap[Z]? = some (.cells #[.int .i64 0, .bool false, .slice none 0 0, .int .i64 0, .string ⟨#[]⟩, .slice none 0 0, .slice none 0 0] 28))) (fun _ v33 _ => on - (intOf v33).toNat)
  case atStart => exact ⟨0, _, Nat.zero_le _, hid (by simpa [delO] using hOR.out), rfl, hZ3⟩
  case round =>
    obtain ⟨j, V, hj, hR, rfl, hz⟩ := hrel
    clear hOR hZ3
    by_cases hlt : j < on
    · have hlt2 : (j : Int) < (on : Int) := by omega
      have hj1 : j < obj.length := by rw [hon.out]; exact hlt
      obtain ⟨b0, off0, a0, c0, aa0, ac0, oa0, oc0, rfl, hkl, P0, C0⟩ := hO.out.at hj1
      have hsk := hso.out _ (List.getElem_mem hj1)
      unfold Cells8f strV at C0
      obtain ⟨x, hx⟩ : ∃ x, x = obj[j] := ⟨_, rfl⟩
      have htk : obj.take (j + 1) = obj.take j ++ [x] := by rw [List.take_succ_eq_append_getElem hj1, hx]
      rw [← hx] at C0 P0 hkl hsk
      clear hx
      obtain ⟨kx, x⟩ := x
      simp only at C0 P0 hkl hsk
      have hbw := hR.out.bel
      obtain ⟨s0, s1, s2, s3, s4, s5, s6, s7⟩ := C0
      replace s0 := cell_stay s0 hbw
      replace s1 := cell_stay s1 hbw
      replace s2 := cell_stay s2 hbw
      replace s3 := cell_stay s3 hbw
      replace s4 := cell_stay s4 hbw
      replace s5 := cell_stay s5 hbw
      replace s6 := cell_stay s6 hbw
      replace s7 := cell_stay s7 hbw
      clear hbw
      obtain ⟨f, hf1, hf2, hf3⟩ : ∃ f : FE, f.fld = (kx, x) ∧ RdV w f.cs f.v ∧ f.enc = strV kx :: valCs x.kind x.g a0 x.ls.length c0 x.e x.s aa0 x.arr.length ac0 oa0 x.obj.length oc0 :=
        ⟨⟨kx, x, valCs x.kind x.g a0 x.ls.length c0 x.e x.s aa0 x.arr.length ac0 oa0 x.obj.length oc0, hsk, hkl, rfl, parts_one P0.rd⟩, rfl, P0.rd, rfl⟩
      clear P0 hsk hkl
      unfold strV valCs at hf3
      have hq1 := beq_s kx key
      rw [show decide (keyC kx key = 0) = decide (kx = key) from decide_eq_decide.2 ⟨keyC_eq, fun h => by rw [h]; exact keyC_refl _⟩, ← hkb.out] at hq1
      obtain ⟨kxb, hkx⟩ : ∃ kxb : ByteArray, kxb = ⟨kx.toArray⟩ := ⟨_, rfl⟩
      rw [← hkx] at s0 hf3 hq1
      clear hkx
      have HF3 := hid hf3
      have HF2 := hid hf2
      clear hf3 hf2
      obtain ⟨⟨o0, o1, o2, o3, o4, o5, o6⟩, _⟩ := blk_seven hR.out.blk
      have ho := cell_lt o0
      have hB1 := (Below.refl wr.heap.size wr).alloc (Nat.le_refl _) (.cells #[.string kxb, .int .i64 x.kind, .bool x.g, .slice a0 x.ls.length c0, .int .i64 x.e, .string ⟨x.s.toArray⟩, .slice aa0 x.arr.length ac0, .slice oa0 x.obj.length oc0] 53)
      have hR1 := hid (hR.out.stay hB1)
      have hz1 := hid (blk_below hz.out hB1)
      clear hB1
      by_cases hkk : kx = key
      · have hq : (kxb.toList == kb.toList) = true := by rw [hq1]; exact decide_eq_true hkk
        have hdel : Hid (delO key (obj.take (j + 1)) = delO key (obj.take j)) := by
          show delO key (obj.take (j + 1)) = delO key (obj.take j)
          rw [htk]
          unfold delO
          rw [List.filter_append]
          simp [hkk]
        clear hkk hq1 htk
        go_wp2
        go_roundw
        case rel => exact ⟨j + 1, V, by omega, hid (by rw [hdel.out]; exact hR1.out), by first | rfl | go_num, hz1⟩
        case measure => simp [intOf]; omega
      · have hq : (kxb.toList == kb.toList) = false := by rw [hq1]; exact decide_eq_false hkk
        have hdel : Hid (delO key (obj.take (j + 1)) = delO key (obj.take j) ++ [f.fld]) := by
          show delO key (obj.take (j + 1)) = delO key (obj.take j) ++ [f.fld]
          rw [htk, hf1]
          unfold delO
          rw [List.filter_append]
          simp [hkk]
        have hE := hR.out.row
        obtain ⟨E, E1, E2, E3⟩ := hE
        have hEl : E.length ≤ j := by
          have h1 : E.length = (delO key (obj.take j)).length := by rw [← E1]; simp
          have h2 := List.length_filter_le (fun p : Fld => decide (p.1 ≠ key)) (obj.take j)
          have h3 : (obj.take j).length ≤ j := by simp; omega
          unfold delO at h1
          omega
        have hW4 := hid (((Below.refl wr.heap.size wr).alloc (Nat.le_refl _) (.cells #[.string kxb, .int .i64 x.kind, .bool x.g, .slice a0 x.ls.length c0, .int .i64 x.e, .string ⟨x.s.toArray⟩, .slice aa0 x.arr.length ac0, .slice oa0 x.obj.length oc0] 53)).alloc (by simp) (.cells #[.string kxb, .int .i64 x.kind, .bool x.g, .slice a0 x.ls.length c0, .int .i64 x.e, .string ⟨x.s.toArray⟩, .slice aa0 x.arr.length ac0, .slice oa0 x.obj.length oc0] 53))
        have E4 := hid (owns_stayF E3 hW4.out)
        have hnew : Hid (∀ (jj : Nat) (u : Value), ([.string kxb, .int .i64 x.kind, .bool x.g, .slice a0 x.ls.length c0, .int .i64 x.e, .string ⟨x.s.toArray⟩, .slice aa0 x.arr.length ac0, .slice oa0 x.obj.length oc0] : List Value)[jj]? = some u → ((wr.alloc (.cells #[.string kxb, .int .i64 x.kind, .bool x.g, .slice a0 x.ls.length c0, .int .i64 x.e, .string ⟨x.s.toArray⟩, .slice aa0 x.arr.length ac0, .slice oa0 x.obj.length oc0] 53)).alloc (.cells #[.string kxb, .int .i64 x.kind, .bool x.g, .slice a0 x.ls.length c0, .int .i64 x.e, .string ⟨x.s.toArray⟩, .slice aa0 x.arr.length ac0, .slice oa0 x.obj.length oc0] 53)).cell? ((⟨wr.heap.size + 1, 0, none⟩ : Addr).add jj) = some u) := by
          intro jj u hu
          rw [Addr.add_lit]
          have h := blk_new2 wr (.cells #[.string kxb, .int .i64 x.kind, .bool x.g, .slice a0 x.ls.length c0, .int .i64 x.e, .string ⟨x.s.toArray⟩, .slice aa0 x.arr.length ac0, .slice oa0 x.obj.length oc0] 53) (.cells #[.string kxb, .int .i64 x.kind, .bool x.g, .slice a0 x.ls.length c0, .int .i64 x.e, .string ⟨x.s.toArray⟩, .slice aa0 x.arr.length ac0, .slice oa0 x.obj.length oc0] 53)
          simp only [World.cell?, h, Nat.zero_add]
          simpa using hu
        have hones : Hid (∀ u ∈ ([.string kxb, .int .i64 x.kind, .bool x.g, .slice a0 x.ls.length c0, .int .i64 x.e, .string ⟨x.s.toArray⟩, .slice aa0 x.arr.length ac0, .slice oa0 x.obj.length oc0] : List Value), u.oneCell' = true) := by
          have := f.ones
          rw [HF3.out] at this
          exact this
        have HE1 := hid E1
        have HE2 := hid E2
        have hRR := hid (hR.out.stay hW4.out)
        have hz4 := hid (blk_below hz.out hW4.out)
        clear hkk hq1 htk E1 E2 E3 hR1 hz1 hf1
        go_wp2_with (at_builtin; refine wpList_append_own _ rfl _ _ _ rfl w.heap.size _ i0 zv 8 128 Tryz.underlying26 i1.out i4.out i2.out i3.out i5.out (by decide) _ E.length (E.flatMap FE.enc) rfl E4.out ⟨wr.heap.size + 1, 0, none⟩ 1 1 [.string kxb, .int .i64 x.kind, .bool x.g, .slice a0 x.ls.length c0, .int .i64 x.e, .string ⟨x.s.toArray⟩, .slice aa0 x.arr.length ac0, .slice oa0 x.obj.length oc0] rfl rfl hnew.out hones.out (by unfold maxLen; omega) (by omega) (by have := hRR.out.bel.size; omega) ?_; intro V2 w5 hown hgr _; obtain ⟨g5, cap5, rfl⟩ := owns_succ hown; have hOb := (hgr.block O (blk_lt hRR.out.blk) (owns_not E4.out hRR.out.blk (by decide))); have hZb := (hgr.block Z (blk_lt hz4.out) (owns_not E4.out hz4.out (by decide))).trans hz4.out; have hBl := hRR.out.bel.grown hgr hRR.out.bel.size (fun k hk => (E4.out.lt k hk).1); have hOb2 := hOb.trans hRR.out.blk; obtain ⟨⟨t0, t1, t2, t3, t4, t5, t6⟩, u0, u1, u2, u3, u4, u5, u6⟩ := blk_seven hOb2; replace hOb := hid hOb; replace hZb := hid hZb; replace hBl := hid hBl; replace hown := hid hown; clear hgr hOb2)
        have hfin := hid (OutRow.more HF2.out hRR.out HE1.out HE2.out (by rw [HF3.out]; exact hown.out) hBl.out hOb.out)
        have hzf : Hid ((w5.setCell ⟨O, 6, none⟩ (.slice (some ⟨g5, 0, none⟩) (E.length + 1) cap5)).heap[Z]? = some (.cells #[.int .i64 0, .bool false, .slice none 0 0, .int .i64 0, .string ⟨#[]⟩, .slice none 0 0, .slice none 0 0] 28)) := by
          show (w5.setCell ⟨O, 6, none⟩ (.slice (some ⟨g5, 0, none⟩) (E.length + 1) cap5)).heap[Z]? = _
          rw [Below.heap_setCell _ _ _ _ (show Z ≠ O by have := hZl.out; omega)]
          exact hZb.out
        go_roundw
        case rel => exact ⟨j + 1, .slice (some ⟨g5, 0, none⟩) (E.length + 1) cap5, by omega, hid (by rw [hdel.out]; exact hfin.out), by first | rfl | go_num, hzf⟩
        case measure => simp [intOf]; omega
    · obtain rfl : j = on := by omega
      have hlt2 : ¬ ((j : Nat) : Int) < (j : Int) := by omega
      have hdl : (delO key obj).length ≤ 1048576 := by
        have h2 := List.length_filter_le (fun p : Fld => decide (p.1 ≠ key)) obj
        have h3 := hon.out
        unfold delO
        omega
      have hRd : OutRow w wr O V (delO key obj) := by
        have := hR.out
        rw [List.take_of_length_le (by rw [hon.out]; exact Nat.le_refl _)] at this
        exact this
      obtain ⟨oa2, oc2, rfl, hro, hc1, hc2⟩ := hRd.shut (by omega)
      obtain ⟨⟨o0, o1, o2, o3, o4, o5, o6⟩, _⟩ := blk_seven hRd.blk
      obtain ⟨⟨r0, r1, r2, r3, r4, r5, r6⟩, s0, s1, s2, s3, s4, s5, s6⟩ := blk_seven hz.out
      have hFin : Hid (OutV w (objV (delO key obj)) 0 (.returned (.tuple #[.agg #[.int .i64 6, .bool false, .slice none 0 0, .int .i64 0, .string ⟨#[]⟩, .slice none 0 0, .slice oa2 (delO key obj).length oc2], .int .i64 0])) (wr.setCells Z 0 [.int .i64 6, .bool false, .slice none 0 0, .int .i64 0, .string ⟨#[]⟩, .slice none 0 0, .slice oa2 (delO key obj).length oc2])) := by
        have hbZ := below_setCells Z hwZ.out [.int .i64 6, .bool false, .slice none 0 0, .int .i64 0, .string ⟨#[]⟩, .slice none 0 0, .slice oa2 (delO key obj).length oc2] 0 wr hRd.bel
        refine ⟨valCs 6 false none 0 0 0 [] none 0 0 oa2 (delO key obj).length oc2, rfl, ?_, hbZ⟩
        refine PartsV.rd (v := objV (delO key obj)) (a := none) (c := 0) (aa := none) (ac := 0) (oa := oa2) (oc := oc2) ⟨rfl, (show I64 6 by unfold I64; decide), (show I64 0 by unfold I64; decide), by show (0:Nat) ≤ _; omega, ⟨Nat.le_refl _, by omega⟩, ⟨hc1, hc2⟩, ⟨Nat.le_refl _, by omega⟩, ⟨Row.nil _ _, fun x hx => by cases hx⟩, fun j y hy => by simp [objV, JV.arr] at hy, ?_⟩
        intro i x hx
        obtain ⟨cs, ⟨b, off, e1, hcs⟩, k2, k3⟩ := hro i x hx
        obtain ⟨_, ⟨E, _, _, _, e3⟩, _, _⟩ := hRd
        have hne : b ≠ Z := by
          rcases e3 with ⟨h, _⟩ | ⟨g2, cap, cur, h, _, hg, _⟩
          · simp only [Value.slice.injEq] at h
            rw [h.1] at e1
            cases e1
          · simp only [Value.slice.injEq] at h
            rw [h.1] at e1
            simp only [Option.some.injEq, Addr.mk.injEq] at e1
            rintro rfl
            have h28 := hz.out
            rw [← e1.1, hg] at h28
            simp at h28
        refine ⟨cs, ⟨b, off, e1, fun jj v hv => ?_⟩, k2, ?_⟩
        · rw [World.cell?_setCells_out Z _ _ _ _ (fun h => absurd h hne)]
          exact hcs jj v hv
        · exact k3.stay hbZ
      clear hRd hro
      go_wp2
      refine bodyPost_ret (v := .tuple #[.agg #[.int .i64 6, .bool false, .slice none 0 0, .int .i64 0, .string ⟨#[]⟩, .slice none 0 0, .slice oa2 (delO key obj).length oc2], .int .i64 0]) (by simp [results, Tryz.results19, go_sem, r0, r1, r2, r3, r4, r5, r6]) rfl ?_
      exact hFin.out

end Go.Proofs.YtgbgkodjjgjhgaaGreatDoor

namespace Go.Proofs.YtgbgkodjjgjhgaaGreatDoor
open Go.RowKit

set_option maxRecDepth 100000 in
set_option maxHeartbeats 8000000 in
theorem without_early (k : Int) (g : Bool) (a : Option Addr) (l c : Nat) (e : Int) (s : List UInt8) (aa : Option Addr) (an ac : Nat) (oa : Option Addr) (on oc : Nat) (key : List UInt8) (w : World) (m1 sd : Bool) (err : Nat)
    (h1 : ∀ W, Below w.heap.size w W → Calls Tryz.prog 16 #[valV k g a l c e s aa an ac oa on oc] W fun en w' => en = .returned (.bool m1) ∧ Below W.heap.size W w')
    (h2 : ∀ W, Below w.heap.size w W → Calls Tryz.prog 30 #[strV key] W fun en w' => en = .returned (.bool sd) ∧ Below W.heap.size W w')
    (hx : ((m1 = false ∨ sd = false) ∧ err = 1) ∨ (m1 = true ∧ sd = true ∧ k ≠ 6 ∧ k ≠ 0 ∧ err = 9) ∨ (m1 = true ∧ sd = true ∧ k = 0 ∧ err = 0)) :
    Calls Tryz.prog 19 #[valV k g a l c e s aa an ac oa on oc, strV key] w (OutV w .null err) := by
  unfold valV strV at *
  generalize (⟨s.toArray⟩ : ByteArray) = sb at *
  generalize (⟨key.toArray⟩ : ByteArray) = kb at *
  obtain ⟨W, hW⟩ : ∃ W, W = (w.alloc (.cells #[.int .i64 k, .bool g, .slice a l c, .int .i64 e, .string sb, .slice aa an ac, .slice oa on oc] 28)).alloc (.cells #[.int .i64 0, .bool false, .slice none 0 0, .int .i64 0, .string ⟨#[]⟩, .slice none 0 0, .slice none 0 0] 28) := ⟨_, rfl⟩
  have HB := hid (show Below w.heap.size w W by rw [hW]; exact alloc_below2 _ _ _)
  have HX : Hid (BoxV W w.heap.size k g a l c e sb aa an ac oa on oc) := by
    rw [hW]
    exact ⟨by simp [go_sem], by simp [go_sem], by simp [go_sem], by simp [go_sem], by simp [go_sem], by simp [go_sem], by simp [go_sem]⟩
  have HZ : Hid (W.heap[w.heap.size + 1]? = some (.cells #[.int .i64 0, .bool false, .slice none 0 0, .int .i64 0, .string ⟨#[]⟩, .slice none 0 0, .slice none 0 0] 28)) := by
    rw [hW]
    exact blk_new2 w _ _
  replace hW := hid hW.symm
  replace h1 := hid h1
  replace h2 := hid h2
  have hr1 : Hid (w.heap.size ≤ w.heap.size + 1) := Nat.le_succ _
  rcases hx with ⟨hm, rfl⟩ | ⟨rfl, rfl, hk6, hk0, rfl⟩ | ⟨rfl, rfl, rfl, rfl⟩
  · have hOut := hid fun W' (hb : Below w.heap.size w W') => outV_null (err := 1) (zs := [.int .i64 0, .bool false, .slice none 0 0, .int .i64 0, .string ⟨#[]⟩, .slice none 0 0, .slice none 0 0]) hb hr1.out
    cases m1 with
    | false =>
      clear hm
      go_enter Tryz.func19, Tryz.ntmps19
      go_wp2_with fail
      rw [hW.out]
      refine (h1.out _ HB.out).mono ?_
      rintro en w1 ⟨rfl, hb⟩
      have q1 := hid (below_trans HB.out hb)
      obtain ⟨⟨r0, r1, r2, r3, r4, r5, r6⟩, s0, s1, s2, s3, s4, s5, s6⟩ := blk_seven (blk_below HZ.out hb)
      clear hb
      go_wp2_with fail
      refine bodyPost_ret (v := .tuple #[.agg #[.int .i64 0, .bool false, .slice none 0 0, .int .i64 0, .string ⟨#[]⟩, .slice none 0 0, .slice none 0 0], .int .i64 1]) (by simp [results, Tryz.results19, go_sem, r0, r1, r2, r3, r4, r5, r6]) rfl ?_
      exact hOut.out _ q1.out
    | true =>
      obtain rfl : sd = false := by rcases hm with h | h; cases h; exact h
      clear hm
      go_enter Tryz.func19, Tryz.ntmps19
      go_wp2_with fail
      rw [hW.out]
      refine (h1.out _ HB.out).mono ?_
      rintro en w1 ⟨rfl, hb⟩
      have q1 := hid (below_trans HB.out hb)
      have z1 := hid (blk_below HZ.out hb)
      clear hb
      go_wp2_with fail
      refine (h2.out _ q1.out).mono ?_
      rintro en w2 ⟨rfl, hb⟩
      have q2 := hid (below_trans q1.out hb)
      obtain ⟨⟨r0, r1, r2, r3, r4, r5, r6⟩, s0, s1, s2, s3, s4, s5, s6⟩ := blk_seven (blk_below z1.out hb)
      clear hb
      go_wp2_with fail
      refine bodyPost_ret (v := .tuple #[.agg #[.int .i64 0, .bool false, .slice none 0 0, .int .i64 0, .string ⟨#[]⟩, .slice none 0 0, .slice none 0 0], .int .i64 1]) (by simp [results, Tryz.results19, go_sem, r0, r1, r2, r3, r4, r5, r6]) rfl ?_
      exact hOut.out _ q2.out
  · have hOut := hid fun W' (hb : Below w.heap.size w W') => outV_null (err := 9) (zs := [.int .i64 0, .bool false, .slice none 0 0, .int .i64 0, .string ⟨#[]⟩, .slice none 0 0, .slice none 0 0]) hb hr1.out
    have f6 : (k != 6) = true := by rw [bne_iff_ne]; exact hk6
    have f0 : (k == 0) = false := by rw [beq_eq_false_iff_ne]; exact hk0
    clear hk6 hk0
    go_enter Tryz.func19, Tryz.ntmps19
    go_wp2_with fail
    rw [hW.out]
    refine (h1.out _ HB.out).mono ?_
    rintro en w1 ⟨rfl, hb⟩
    have q1 := hid (below_trans HB.out hb)
    have z1 := hid (blk_below HZ.out hb)
    have x1 := hid (HX.out.stay hb)
    clear hb
    go_wp2_with fail
    refine (h2.out _ q1.out).mono ?_
    rintro en w2 ⟨rfl, hb⟩
    have q2 := hid (below_trans q1.out hb)
    obtain ⟨⟨r0, r1, r2, r3, r4, r5, r6⟩, s0, s1, s2, s3, s4, s5, s6⟩ := blk_seven (blk_below z1.out hb)
    obtain ⟨p0, p1, p2, p3, p4, p5, p6⟩ := x1.out.stay hb
    clear hb
    go_wp2_with fail
    refine bodyPost_ret (v := .tuple #[.agg #[.int .i64 0, .bool false, .slice none 0 0, .int .i64 0, .string ⟨#[]⟩, .slice none 0 0, .slice none 0 0], .int .i64 9]) (by simp [results, Tryz.results19, go_sem, r0, r1, r2, r3, r4, r5, r6]) rfl ?_
    exact hOut.out _ q2.out
  · have hOut := hid fun W' (hb : Below w.heap.size w W') => outV_null (err := 0) (zs := [.int .i64 0, .bool false, .slice none 0 0, .int .i64 0, .string ⟨#[]⟩, .slice none 0 0, .slice none 0 0]) hb hr1.out
    go_enter Tryz.func19, Tryz.ntmps19
    go_wp2_with fail
    rw [hW.out]
    refine (h1.out _ HB.out).mono ?_
    rintro en w1 ⟨rfl, hb⟩
    have q1 := hid (below_trans HB.out hb)
    have z1 := hid (blk_below HZ.out hb)
    have x1 := hid (HX.out.stay hb)
    clear hb
    go_wp2_with fail
    refine (h2.out _ q1.out).mono ?_
    rintro en w2 ⟨rfl, hb⟩
    have q2 := hid (below_trans q1.out hb)
    obtain ⟨⟨r0, r1, r2, r3, r4, r5, r6⟩, s0, s1, s2, s3, s4, s5, s6⟩ := blk_seven (blk_below z1.out hb)
    obtain ⟨p0, p1, p2, p3, p4, p5, p6⟩ := x1.out.stay hb
    clear hb
    go_wp2_with fail
    refine bodyPost_ret (v := .tuple #[.agg #[.int .i64 0, .bool false, .slice none 0 0, .int .i64 0, .string ⟨#[]⟩, .slice none 0 0, .slice none 0 0], .int .i64 0]) (by simp [results, Tryz.results19, go_sem, r0, r1, r2, r3, r4, r5, r6]) rfl ?_
    exact hOut.out _ q2.out

theorem value_Without (v : JV) (cs : List Value) (key : List UInt8) (w : World) (hkl : key.length ≤ 9223372036854775807) (sv : SmallV v) (rv : RdV w cs v) (hT : Tabs w) :
    Calls Tryz.prog 19 #[.agg cs.toArray, strV key] w (OutV w (withoutR v key).1 (withoutR v key).2) := by
  have C1 := fun W (hb : Below w.heap.size w W) => value_May v cs W (rv.stay hb) (hT.below hb)
  have C2 := fun W (hb : Below w.heap.size w W) => value_sound key W hkl (hT.below hb).1
  obtain ⟨a, c, aa, ac, oa, oc, P⟩ := rv.parts
  have e := P.cells
  subst e
  unfold withoutR
  by_cases hm : mayJ 200 v = true ∧ soundB key = true
  rotate_left
  · rw [if_pos hm]
    refine without_early v.kind v.g a v.ls.length c v.e v.s aa v.arr.length ac oa v.obj.length oc key w (mayJ 200 v) (soundB key) 1 C1 C2 (Or.inl ⟨?_, rfl⟩)
    by_cases h : mayJ 200 v = true
    · exact Or.inr (by rw [Bool.eq_false_iff]; exact fun h2 => hm ⟨h, h2⟩)
    · exact Or.inl (by rw [Bool.eq_false_iff]; exact h)
  rw [if_neg (fun h => h hm)]
  by_cases hk0 : v.kind = 0
  · rw [if_pos hk0]
    exact without_early v.kind v.g a v.ls.length c v.e v.s aa v.arr.length ac oa v.obj.length oc key w (mayJ 200 v) (soundB key) 0 C1 C2 (Or.inr (Or.inr ⟨hm.1, hm.2, hk0, rfl⟩))
  rw [if_neg hk0]
  by_cases hk6 : v.kind = 6
  rotate_left
  · rw [if_pos hk6]
    exact without_early v.kind v.g a v.ls.length c v.e v.s aa v.arr.length ac oa v.obj.length oc key w (mayJ 200 v) (soundB key) 9 C1 C2 (Or.inr (Or.inl ⟨hm.1, hm.2, hk6, hk0, rfl⟩))
  rw [if_neg (fun h => h hk6)]
  simp only [hm.1] at C1
  simp only [hm.2] at C2
  obtain ⟨⟨⟨_, _⟩, ho⟩, _⟩ := may_succ.1 hm.1
  have := without_loop v.g a v.ls.length c v.e v.s aa v.arr.length ac oa oc key w v.obj P.obj sv.obj (fun p hp => (ho p hp).1) (fun W hb => by have := C1 W hb; rw [hk6] at this; exact this) C2
  rw [← hk6] at this
  exact this

end Go.Proofs.YtgbgkodjjgjhgaaGreatDoor

namespace Go.Proofs.YtgbgkodjjgjhgaaGreatDoor
open Go.RowKit

/-- slices.Clone at whatever row of fields. -/
theorem clone_any (oa : Option Addr) (oc : Nat) (obj : List Fld) (w W : World) (h : RdO w oa obj) (hs : ∀ p ∈ obj, soundB p.1 = true) (hn : obj.length ≤ 1048576) (hb : Below w.heap.size w W) :
    Calls Tryz.prog 31 #[.slice oa obj.length oc] W fun e w' => ∃ (v' : Value) (E : List FE), e = .returned v' ∧ E.map FE.fld = obj ∧ (∀ f ∈ E, RdV w f.cs f.v) ∧ w'.ownsRow W.heap.size 53 8 v' E.length (E.flatMap FE.enc) ∧ Below W.heap.size W w' := by
  cases oa with
  | none =>
    obtain rfl := rdo_none h
    refine (AnyE.slices_Clone_nil Tryz.laysSlE041_f31 0 oc W).mono ?_
    rintro e w' ⟨rfl, rfl⟩
    exact ⟨.slice none 0 0, [], rfl, rfl, (fun f hf => by cases hf), ⟨by simp, .inl ⟨rfl, rfl⟩⟩, Below.refl _ _⟩
  | some p =>
    cases hob : obj with
    | nil =>
      obtain ⟨i0, i1, i2, i3, z, i4, i5⟩ := infoField
      have h0 := World.ownsRow_made (base := W.heap.size) (e := 53) (size := 8) W #[] 0 (Nat.le_refl _) (by unfold maxLen; omega) rfl
      have hq := fun (W : World) => Lib.run_eql_slice_nil (P := Tryz.prog) W 26 53 (some p) 0 oc 0 0 Tryz.underlying26
      have H0 := hid h0
      clear h0 h hs hn hb hob
      replace i1 := hid i1
      replace i2 := hid i2
      replace i3 := hid i3
      replace i4 := hid i4
      replace i5 := hid i5
      have hQ : Hid (∀ (v' : Value) (w' : World), w'.ownsRow W.heap.size 53 8 v' (0 + 0) ([] ++ []) → Below W.heap.size W w' → (fun e w' => ∃ (v' : Value) (E : List FE), e = .returned v' ∧ E.map FE.fld = ([] : List Fld) ∧ (∀ f ∈ E, RdV w f.cs f.v) ∧ w'.ownsRow W.heap.size 53 8 v' E.length (E.flatMap FE.enc) ∧ Below W.heap.size W w') (Ending.returned v') w') :=
        fun v' w' ho hb => ⟨v', [], rfl, rfl, (fun f hf => by cases hf), by simpa using ho, hb⟩
      generalize (fun e w' => ∃ (v' : Value) (E : List FE), e = Ending.returned v' ∧ E.map FE.fld = ([] : List Fld) ∧ (∀ f ∈ E, RdV w f.cs f.v) ∧ w'.ownsRow W.heap.size 53 8 v' E.length (E.flatMap FE.enc) ∧ Below W.heap.size W w') = Q at *
      show Calls Tryz.prog 31 #[.slice (some p) 0 oc] W Q
      go_enter Tryz.func31, Tryz.ntmps31
      go_wp2_with (at_builtin; refine wpList_append_own _ rfl _ _ _ rfl W.heap.size _ i0 z 8 128 Tryz.underlying26 i1.out i4.out i2.out i3.out i5.out (by decide) _ 0 [] rfl H0.out p 0 oc [] rfl rfl (fun j u h => by simp at h) (fun u h => by cases h) (by unfold maxLen; omega) (by omega) (by simp) ?_; intro v' w' hown hgr _)
      have hB := (((Below.refl W.heap.size W).alloc (Nat.le_refl _) (.cells #[] 53)).grown hgr (by simp) (fun k hk => by
        have hk : some W.heap.size = some k := hk
        injection hk with hk
        omega))
      have hF := hid (hQ.out v' w' hown hB)
      exact hF.out
    | cons x0 obj0 =>
      rw [← hob]
      obtain ⟨b, off, rfl⟩ : ∃ b off, p = ⟨b, off, none⟩ := by
        obtain ⟨cs, ⟨b, off, e, _⟩, _⟩ := h 0 x0 (by rw [hob]; rfl)
        injection e with e
        exact ⟨b, off, e⟩
      obtain ⟨E, e1, e2, e3⟩ := fes_of (obj := obj) (k := 0) (fun i x hx => by rw [Nat.zero_add]; exact h i x hx) hs
      simp only [Nat.zero_add] at e3
      have hlen : obj.length = E.length := by rw [← e1]; simp
      rw [hlen]
      refine (clone_fld b off oc E W (fun j f hf => (e3 j f hf).below hb) (by omega)).mono ?_
      rintro e w' ⟨q, cap, cur, rfl, k1, k2, k3, k4, k5, k6, k7⟩
      exact ⟨_, E, rfl, e1, e2, ⟨flat_len E, .inr ⟨q, cap, cur, rfl, k1, k2, k3, k4, k5, k6⟩⟩, k7⟩

end Go.Proofs.YtgbgkodjjgjhgaaGreatDoor

namespace Go.Proofs.YtgbgkodjjgjhgaaGreatDoor
open Go.RowKit

set_option maxRecDepth 100000 in
set_option maxHeartbeats 8000000 in
/-- The way where the key is not there. -/
theorem with_new (k : Int) (hk : k = 6 ∨ k = 0) (g g' : Bool) (a a' : Option Addr) (l l' c c' : Nat) (k' : Int) (e e' : Int) (s s' : List UInt8) (aa aa' : Option Addr) (an an' ac ac' : Nat) (oa oa' : Option Addr) (on on' oc oc' : Nat) (key : List UInt8) (D : Nat) (hD : D ≠ 200) (w : World) (L : List Fld) (hL : L.length ≤ 1048576) (f : FE)
    (hf2 : RdV w f.cs f.v) (hf3 : f.enc = strV key :: valCs k' g' a' l' c' e' s' aa' an' ac' oa' on' oc') (x : JV) (hf1 : f.fld = (key, x))
    (h1 : ∀ W, Below w.heap.size w W → Calls Tryz.prog 16 #[valV k g a l c e s aa an ac oa on oc] W fun en w' => en = .returned (.bool true) ∧ Below W.heap.size W w')
    (h2 : ∀ W, Below w.heap.size w W → Calls Tryz.prog 16 #[valV k' g' a' l' c' e' s' aa' an' ac' oa' on' oc'] W fun en w' => en = .returned (.bool true) ∧ Below W.heap.size W w')
    (h3 : ∀ W, Below w.heap.size w W → Calls Tryz.prog 30 #[strV key] W fun en w' => en = .returned (.bool true) ∧ Below W.heap.size W w')
    (h4 : ∀ W, Below w.heap.size w W → Calls Tryz.prog 25 #[valV k' g' a' l' c' e' s' aa' an' ac' oa' on' oc'] W fun en w' => en = .returned (.int .i64 (D : Int)) ∧ Below W.heap.size W w')
    (h5 : ∀ W, Below w.heap.size w W → Calls Tryz.prog 31 #[.slice oa on oc] W fun en w' => ∃ (V : Value) (E : List FE), en = .returned V ∧ E.map FE.fld = L ∧ (∀ f ∈ E, RdV w f.cs f.v) ∧ w'.ownsRow w.heap.size 53 8 V E.length (E.flatMap FE.enc) ∧ Below W.heap.size W w')
    (h6 : ∀ W, Below w.heap.size w W → Calls Tryz.prog 32 #[valV k g a l c e s aa an ac oa on oc, strV key] W fun en w' => en = .returned (.int .i64 (-1)) ∧ Below W.heap.size W w') :
    Calls Tryz.prog 13 #[valV k g a l c e s aa an ac oa on oc, strV key, valV k' g' a' l' c' e' s' aa' an' ac' oa' on' oc'] w (OutV w (objV (L ++ [(key, x)])) 0) := by
  unfold valV valCs strV at *
  generalize (⟨s.toArray⟩ : ByteArray) = sb at *
  generalize (⟨s'.toArray⟩ : ByteArray) = sb' at *
  generalize (⟨key.toArray⟩ : ByteArray) = kb at *
  obtain ⟨W, hW⟩ : ∃ W, W = ((w.alloc (.cells #[.int .i64 k, .bool g, .slice a l c, .int .i64 e, .string sb, .slice aa an ac, .slice oa on oc] 28)).alloc (.cells #[.int .i64 k', .bool g', .slice a' l' c', .int .i64 e', .string sb', .slice aa' an' ac', .slice oa' on' oc'] 28)).alloc (.cells #[.int .i64 0, .bool false, .slice none 0 0, .int .i64 0, .string ⟨#[]⟩, .slice none 0 0, .slice none 0 0] 28) := ⟨_, rfl⟩
  have hB := hid (show Below w.heap.size w W by rw [hW]; exact (alloc_below2 _ _ _).alloc (by simp; omega) _)
  have hX : Hid (BoxV W w.heap.size k g a l c e sb aa an ac oa on oc) := by
    rw [hW]
    exact ⟨by simp [go_sem], by simp [go_sem], by simp [go_sem], by simp [go_sem], by simp [go_sem], by simp [go_sem], by simp [go_sem]⟩
  have hY : Hid (BoxV W (w.heap.size + 1) k' g' a' l' c' e' sb' aa' an' ac' oa' on' oc') := by
    rw [hW]
    exact ⟨by simp [go_sem], by simp [go_sem], by simp [go_sem], by simp [go_sem], by simp [go_sem], by simp [go_sem], by simp [go_sem]⟩
  have hZ0 : (W.heap[w.heap.size + 1 + 1]? = some (.cells #[.int .i64 0, .bool false, .slice none 0 0, .int .i64 0, .string ⟨#[]⟩, .slice none 0 0, .slice none 0 0] 28)) := by
    rw [hW]
    have := blk_new ((w.alloc (.cells #[.int .i64 k, .bool g, .slice a l c, .int .i64 e, .string sb, .slice aa an ac, .slice oa on oc] 28)).alloc (.cells #[.int .i64 k', .bool g', .slice a' l' c', .int .i64 e', .string sb', .slice aa' an' ac', .slice oa' on' oc'] 28)) (.cells #[.int .i64 0, .bool false, .slice none 0 0, .int .i64 0, .string ⟨#[]⟩, .slice none 0 0, .slice none 0 0] 28)
    simpa [Nat.add_assoc] using this
  have hZ := hid hZ0
  clear hZ0
  replace hW := hid hW.symm
  replace h1 := hid h1
  replace h2 := hid h2
  replace h3 := hid h3
  replace h4 := hid h4
  replace h5 := hid h5
  replace h6 := hid h6
  have hkq : (k != 6 && k != 0) = false := by rcases hk with rfl | rfl <;> rfl
  have hD1 : ((D : Int) == 200) = false := by rw [beq_eq_false_iff_ne]; omega
  have hD2 : (D == 200) = false := by rw [beq_eq_false_iff_ne]; exact hD
  clear hD
  clear hkq
  obtain ⟨i0, i1, i2, i3, zv, i4, i5⟩ := infoField
  replace i1 := hid i1
  replace i2 := hid i2
  replace i3 := hid i3
  replace i4 := hid i4
  replace i5 := hid i5
  replace hf2 := hid hf2
  replace hf3 := hid hf3
  replace hf1 := hid hf1
  rcases hk with rfl | rfl
  all_goals
    go_enter Tryz.func13, Tryz.ntmps13
    go_wp2_with fail
    rw [hW.out]
    refine (h1.out _ hB.out).mono ?_
    rintro en w1 ⟨rfl, hb⟩
    replace hB := hid (below_trans hB.out hb)
    replace hX := hid (hX.out.stay hb)
    replace hY := hid (hY.out.stay hb)
    replace hZ := hid (blk_below hZ.out hb)
    obtain ⟨q0, q1, q2, q3, q4, q5, q6⟩ := hY.out
    clear hb hW
    go_wp2_with fail
    refine (h2.out _ hB.out).mono ?_
    rintro en w2 ⟨rfl, hb⟩
    replace hB := hid (below_trans hB.out hb)
    replace hX := hid (hX.out.stay hb)
    replace hY := hid (hY.out.stay hb)
    replace hZ := hid (blk_below hZ.out hb)
    clear hb q0 q1 q2 q3 q4 q5 q6
    go_wp2_with fail
    refine (h3.out _ hB.out).mono ?_
    rintro en w3 ⟨rfl, hb⟩
    replace hB := hid (below_trans hB.out hb)
    replace hX := hid (hX.out.stay hb)
    replace hY := hid (hY.out.stay hb)
    replace hZ := hid (blk_below hZ.out hb)
    obtain ⟨p0, p1, p2, p3, p4, p5, p6⟩ := hX.out
    obtain ⟨q0, q1, q2, q3, q4, q5, q6⟩ := hY.out
    clear hb
    go_wp2_with fail
    refine (h4.out _ hB.out).mono ?_
    rintro en w4 ⟨rfl, hb⟩
    replace hB := hid (below_trans hB.out hb)
    replace hX := hid (hX.out.stay hb)
    replace hY := hid (hY.out.stay hb)
    replace hZ := hid (blk_below hZ.out hb)
    clear p0 p1 p2 p3 p4 p5 p6 q0 q1 q2 q3 q4 q5 q6
    obtain ⟨p0, p1, p2, p3, p4, p5, p6⟩ := hX.out
    clear hb
    go_wp2_with fail

    refine (h5.out _ hB.out).mono ?_
    rintro en w5 ⟨V, E, rfl, E1, E2, E3, hb⟩
    have hZq : Hid (w.heap.size + 1 + 1 < w4.heap.size) := blk_lt hZ.out
    replace hB := hid (below_trans hB.out hb)
    replace hX := hid (hX.out.stay hb)
    replace hY := hid (hY.out.stay hb)
    replace hZ := hid (blk_below hZ.out hb)
    have hZ5 : Hid (w.heap.size + 1 + 1 < w5.heap.size) := blk_lt hZ.out
    clear hb p0 p1 p2 p3 p4 p5 p6
    have hEl : E.length ≤ 1048576 := by
      have : E.length = L.length := by rw [← E1]; simp
      omega
    have HE1 := hid E1
    have HE2 := hid E2
    have HE3 := hid E3
    clear E1 E2 E3
    have hshape : (∃ n c, V = .slice none n c) ∨ ∃ q n c, V = .slice (some q) n c := by
      rcases HE3.out.2 with ⟨h, _⟩ | ⟨q, cap, cur, h, _⟩
      · exact Or.inl ⟨_, _, h⟩
      · exact Or.inr ⟨_, _, _, h⟩
    obtain ⟨va, vn, vc, rfl⟩ : ∃ va vn vc, V = .slice va vn vc := by
      rcases hshape with ⟨n, c, h⟩ | ⟨q, n, c, h⟩
      · exact ⟨none, n, c, h⟩
      · exact ⟨some q, n, c, h⟩
    clear hshape
    obtain ⟨U, hU⟩ : ∃ U, U = w5.alloc (.cells #[.int .i64 6, .bool false, .slice none 0 0, .int .i64 0, .string ⟨#[]⟩, .slice none 0 0, .slice va vn vc] 28) := ⟨_, rfl⟩
    have hbU : Below w5.heap.size w5 U := by rw [hU]; exact (Below.refl _ _).alloc (Nat.le_refl _) _
    have hOR0 : OutRow w U w5.heap.size (.slice va vn vc) L := ⟨by rw [hU]; exact blk_new w5 _, ⟨E, HE1.out, HE2.out, owns_stayF HE3.out hbU⟩, below_trans hB.out hbU, hB.out.size⟩
    obtain ⟨p0, p1, p2, p3, p4, p5, p6⟩ := hX.out
    have hl5 := cell_lt p0
    have hOR := hid hOR0
    have hbU2 := hid hbU
    replace hU := hid hU.symm
    clear hOR0 hbU HE1 HE2 HE3
    go_wp2_with fail
    rw [hU.out]
    refine (h6.out _ (below_trans hB.out hbU2.out)).mono ?_
    rintro en w6 ⟨rfl, hb⟩
    have hb56 := hid (below_trans hbU2.out hb)
    have hR6 := hid (hOR.out.stay hb)
    have hY6 := hid (hY.out.stay hb56.out)
    have hZ6 := hid (blk_below hZ.out hb56.out)
    clear hb hOR hX hY hZ p0 p1 p2 p3 p4 p5 p6 hl5 hbU2 hU h1 h2 h3 h4 h5 h6 hb56 hB
    obtain ⟨O, hO⟩ : ∃ O, O = w5.heap.size := ⟨_, rfl⟩
    rw [← hO] at hR6 hZ5 ⊢
    clear hO
    obtain ⟨Z, hZZ⟩ : ∃ Z, Z = w.heap.size + 1 + 1 := ⟨_, rfl⟩
    rw [← hZZ] at hZ6 hZ5 ⊢
    have hwZ : Hid (w.heap.size ≤ Z) := by rw [hZZ]; show w.heap.size ≤ _; omega
    clear hZZ hZq
    obtain ⟨E', F1, F2, F3⟩ := hR6.out.row
    have hEl' : E'.length ≤ 1048576 := by
      have : E'.length = L.length := by rw [← F1]; simp
      omega
    have HF1 := hid F1
    have HF2 := hid F2
    obtain ⟨⟨o0, o1, o2, o3, o4, o5, o6⟩, _⟩ := blk_seven hR6.out.blk
    obtain ⟨x0, x1, x2, x3, x4, x5, x6⟩ := hY6.out
    have hW7 := hid ((Below.refl w6.heap.size w6).alloc (Nat.le_refl _) (.cells #[.string kb, .int .i64 k', .bool g', .slice a' l' c', .int .i64 e', .string sb', .slice aa' an' ac', .slice oa' on' oc'] 53))
    have E4 := hid (owns_stayF F3 hW7.out)
    have hnew : Hid (∀ (jj : Nat) (u : Value), ([.string kb, .int .i64 k', .bool g', .slice a' l' c', .int .i64 e', .string sb', .slice aa' an' ac', .slice oa' on' oc'] : List Value)[jj]? = some u → (w6.alloc (.cells #[.string kb, .int .i64 k', .bool g', .slice a' l' c', .int .i64 e', .string sb', .slice aa' an' ac', .slice oa' on' oc'] 53)).cell? ((⟨w6.heap.size, 0, none⟩ : Addr).add jj) = some u) := by
      intro jj u hu
      rw [Addr.add_lit]
      have h := blk_new w6 (.cells #[.string kb, .int .i64 k', .bool g', .slice a' l' c', .int .i64 e', .string sb', .slice aa' an' ac', .slice oa' on' oc'] 53)
      simp only [World.cell?, h, Nat.zero_add]
      simpa using hu
    have hones : Hid (∀ u ∈ ([.string kb, .int .i64 k', .bool g', .slice a' l' c', .int .i64 e', .string sb', .slice aa' an' ac', .slice oa' on' oc'] : List Value), u.oneCell' = true) := by
      have := f.ones
      rw [hf3.out] at this
      exact this
    have hRR := hid (hR6.out.stay hW7.out)
    have hz4 := hid (blk_below hZ6.out hW7.out)
    clear F1 F2 F3 hR6 hZ6
    go_wp2_with (at_builtin; refine wpList_append_own _ rfl _ _ _ rfl w.heap.size _ i0 zv 8 128 Tryz.underlying26 i1.out i4.out i2.out i3.out i5.out (by decide) _ E'.length (E'.flatMap FE.enc) rfl E4.out ⟨w6.heap.size, 0, none⟩ 1 1 [.string kb, .int .i64 k', .bool g', .slice a' l' c', .int .i64 e', .string sb', .slice aa' an' ac', .slice oa' on' oc'] rfl rfl hnew.out hones.out (by unfold maxLen; omega) (by omega) (by have := hRR.out.bel.size; omega) ?_; intro V2 w7 hown hgr _; obtain ⟨g5, cap5, rfl⟩ := owns_succ hown; have hOb := (hgr.block O (blk_lt hRR.out.blk) (owns_not E4.out hRR.out.blk (by decide))); have hZb := (hgr.block Z (blk_lt hz4.out) (owns_not E4.out hz4.out (by decide))).trans hz4.out; have hBl := hRR.out.bel.grown hgr hRR.out.bel.size (fun k hk => (E4.out.lt k hk).1); have hfin := hid (OutRow.more hf2.out hRR.out HF1.out HF2.out (by rw [hf3.out]; exact hown) hBl hOb); have hOb2 := hOb.trans hRR.out.blk; obtain ⟨⟨t0, t1, t2, t3, t4, t5, t6⟩, u0, u1, u2, u3, u4, u5, u6⟩ := blk_seven hOb2; obtain ⟨⟨r0, r1, r2, r3, r4, r5, r6⟩, s0, s1, s2, s3, s4, s5, s6⟩ := blk_seven hZb; have hZb2 := hid hZb; have n1 : ¬ Z = O := (by have := hZ5.out; omega); have n2 : ¬ O = Z := (by have := hZ5.out; omega); clear hgr hOb2 hOb hZb hBl hown)
    have hzf : (w7.setCell ⟨O, 6, none⟩ (.slice (some ⟨g5, 0, none⟩) (E'.length + 1) cap5)).heap[Z]? = some (.cells #[.int .i64 0, .bool false, .slice none 0 0, .int .i64 0, .string ⟨#[]⟩, .slice none 0 0, .slice none 0 0] 28 (0, 0)) := by
      rw [Below.heap_setCell _ _ _ _ (show Z ≠ O from n1)]
      exact hZb2.out
    have hLl : (L ++ [f.fld]).length ≤ 9223372036854775807 := by simp; omega
    obtain ⟨oa9, oc9, hV9, hO9⟩ := hfin.out.final hzf hwZ.out hLl
    rw [hf1.out] at hO9 hV9
    simp only [Value.slice.injEq] at hV9
    obtain ⟨v1, v2, v3⟩ := hV9
    subst v1 v3
    refine bodyPost_ret (v := .tuple #[.agg #[.int .i64 6, .bool false, .slice none 0 0, .int .i64 0, .string ⟨#[]⟩, .slice none 0 0, .slice (some ⟨g5, 0, none⟩) (E'.length + 1) cap5], .int .i64 0]) (by simp [results, Tryz.results13, go_sem, r0, r1, r2, r3, r4, r5, r6]) rfl ?_
    rw [← v2] at hO9
    exact hO9

end Go.Proofs.YtgbgkodjjgjhgaaGreatDoor

namespace Go.Proofs.YtgbgkodjjgjhgaaGreatDoor
open Go.RowKit

set_option maxRecDepth 100000 in
set_option maxHeartbeats 8000000 in
/-- The refusals. -/
theorem with_early (k : Int) (g g' : Bool) (a a' : Option Addr) (l l' c c' : Nat) (k' : Int) (e e' : Int) (s s' : List UInt8) (aa aa' : Option Addr) (an an' ac ac' : Nat) (oa oa' : Option Addr) (on on' oc oc' : Nat) (key : List UInt8) (D : Nat) (w : World) (m1 m2 sd : Bool) (err : Nat)
    (h1 : ∀ W, Below w.heap.size w W → Calls Tryz.prog 16 #[valV k g a l c e s aa an ac oa on oc] W fun en w' => en = .returned (.bool m1) ∧ Below W.heap.size W w')
    (h2 : ∀ W, Below w.heap.size w W → Calls Tryz.prog 16 #[valV k' g' a' l' c' e' s' aa' an' ac' oa' on' oc'] W fun en w' => en = .returned (.bool m2) ∧ Below W.heap.size W w')
    (h3 : ∀ W, Below w.heap.size w W → Calls Tryz.prog 30 #[strV key] W fun en w' => en = .returned (.bool sd) ∧ Below W.heap.size W w')
    (h4 : ∀ W, Below w.heap.size w W → Calls Tryz.prog 25 #[valV k' g' a' l' c' e' s' aa' an' ac' oa' on' oc'] W fun en w' => en = .returned (.int .i64 (D : Int)) ∧ Below W.heap.size W w')
    (hx : (m1 = false ∧ err = 1) ∨ (m1 = true ∧ m2 = false ∧ err = 1) ∨ (m1 = true ∧ m2 = true ∧ sd = false ∧ err = 1) ∨ (m1 = true ∧ m2 = true ∧ sd = true ∧ k ≠ 6 ∧ k ≠ 0 ∧ err = 9) ∨ (m1 = true ∧ m2 = true ∧ sd = true ∧ (k = 6 ∨ k = 0) ∧ D = 200 ∧ err = 6)) :
    Calls Tryz.prog 13 #[valV k g a l c e s aa an ac oa on oc, strV key, valV k' g' a' l' c' e' s' aa' an' ac' oa' on' oc'] w (OutV w .null err) := by
  unfold valV strV at *
  generalize (⟨s.toArray⟩ : ByteArray) = sb at *
  generalize (⟨s'.toArray⟩ : ByteArray) = sb' at *
  generalize (⟨key.toArray⟩ : ByteArray) = kb at *
  obtain ⟨W, hW⟩ : ∃ W, W = ((w.alloc (.cells #[.int .i64 k, .bool g, .slice a l c, .int .i64 e, .string sb, .slice aa an ac, .slice oa on oc] 28)).alloc (.cells #[.int .i64 k', .bool g', .slice a' l' c', .int .i64 e', .string sb', .slice aa' an' ac', .slice oa' on' oc'] 28)).alloc (.cells #[.int .i64 0, .bool false, .slice none 0 0, .int .i64 0, .string ⟨#[]⟩, .slice none 0 0, .slice none 0 0] 28) := ⟨_, rfl⟩
  have hB := hid (show Below w.heap.size w W by rw [hW]; exact (alloc_below2 _ _ _).alloc (by simp; omega) _)
  have hX : Hid (BoxV W w.heap.size k g a l c e sb aa an ac oa on oc) := by
    rw [hW]
    exact ⟨by simp [go_sem], by simp [go_sem], by simp [go_sem], by simp [go_sem], by simp [go_sem], by simp [go_sem], by simp [go_sem]⟩
  have hY : Hid (BoxV W (w.heap.size + 1) k' g' a' l' c' e' sb' aa' an' ac' oa' on' oc') := by
    rw [hW]
    exact ⟨by simp [go_sem], by simp [go_sem], by simp [go_sem], by simp [go_sem], by simp [go_sem], by simp [go_sem], by simp [go_sem]⟩
  have hZ0 : (W.heap[w.heap.size + 1 + 1]? = some (.cells #[.int .i64 0, .bool false, .slice none 0 0, .int .i64 0, .string ⟨#[]⟩, .slice none 0 0, .slice none 0 0] 28)) := by
    rw [hW]
    have := blk_new ((w.alloc (.cells #[.int .i64 k, .bool g, .slice a l c, .int .i64 e, .string sb, .slice aa an ac, .slice oa on oc] 28)).alloc (.cells #[.int .i64 k', .bool g', .slice a' l' c', .int .i64 e', .string sb', .slice aa' an' ac', .slice oa' on' oc'] 28)) (.cells #[.int .i64 0, .bool false, .slice none 0 0, .int .i64 0, .string ⟨#[]⟩, .slice none 0 0, .slice none 0 0] 28)
    simpa [Nat.add_assoc] using this
  have hZ := hid hZ0
  clear hZ0
  replace hW := hid hW.symm
  replace h1 := hid h1
  replace h2 := hid h2
  replace h3 := hid h3
  replace h4 := hid h4
  have hZw : Hid (w.heap.size ≤ w.heap.size + 1 + 1) := by show _ ≤ _; omega
  rcases hx with ⟨rfl, rfl⟩ | ⟨rfl, rfl, rfl⟩ | ⟨rfl, rfl, rfl, rfl⟩ | ⟨rfl, rfl, rfl, hk6, hk0, rfl⟩ | ⟨rfl, rfl, rfl, hk, rfl, rfl⟩
  · go_enter Tryz.func13, Tryz.ntmps13
    go_wp2_with fail
    rw [hW.out]
    refine (h1.out _ hB.out).mono ?_
    rintro en w1 ⟨rfl, hb⟩
    replace hB := hid (below_trans hB.out hb)
    replace hX := hid (hX.out.stay hb)
    replace hY := hid (hY.out.stay hb)
    replace hZ := hid (blk_below hZ.out hb)
    clear hb
    obtain ⟨p0, p1, p2, p3, p4, p5, p6⟩ := hX.out
    obtain ⟨q0, q1, q2, q3, q4, q5, q6⟩ := hY.out
    clear hW
    obtain ⟨⟨r0, r1, r2, r3, r4, r5, r6⟩, s0, s1, s2, s3, s4, s5, s6⟩ := blk_seven hZ.out
    go_wp2_with fail
    refine bodyPost_ret (v := .tuple #[.agg #[.int .i64 0, .bool false, .slice none 0 0, .int .i64 0, .string ⟨#[]⟩, .slice none 0 0, .slice none 0 0], .int .i64 1]) (by simp [results, Tryz.results13, go_sem, r0, r1, r2, r3, r4, r5, r6]) rfl ?_
    exact outV_null (err := 1) (zs := [.int .i64 0, .bool false, .slice none 0 0, .int .i64 0, .string ⟨#[]⟩, .slice none 0 0, .slice none 0 0]) hB.out hZw.out
  · go_enter Tryz.func13, Tryz.ntmps13
    go_wp2_with fail
    rw [hW.out]
    refine (h1.out _ hB.out).mono ?_
    rintro en w1 ⟨rfl, hb⟩
    replace hB := hid (below_trans hB.out hb)
    replace hX := hid (hX.out.stay hb)
    replace hY := hid (hY.out.stay hb)
    replace hZ := hid (blk_below hZ.out hb)
    clear hb
    obtain ⟨p0, p1, p2, p3, p4, p5, p6⟩ := hX.out
    obtain ⟨q0, q1, q2, q3, q4, q5, q6⟩ := hY.out
    go_wp2_with fail
    refine (h2.out _ hB.out).mono ?_
    rintro en w1 ⟨rfl, hb⟩
    replace hB := hid (below_trans hB.out hb)
    replace hX := hid (hX.out.stay hb)
    replace hY := hid (hY.out.stay hb)
    replace hZ := hid (blk_below hZ.out hb)
    clear hb
    clear p0 p1 p2 p3 p4 p5 p6 q0 q1 q2 q3 q4 q5 q6
    obtain ⟨p0, p1, p2, p3, p4, p5, p6⟩ := hX.out
    obtain ⟨q0, q1, q2, q3, q4, q5, q6⟩ := hY.out
    clear hW
    obtain ⟨⟨r0, r1, r2, r3, r4, r5, r6⟩, s0, s1, s2, s3, s4, s5, s6⟩ := blk_seven hZ.out
    go_wp2_with fail
    refine bodyPost_ret (v := .tuple #[.agg #[.int .i64 0, .bool false, .slice none 0 0, .int .i64 0, .string ⟨#[]⟩, .slice none 0 0, .slice none 0 0], .int .i64 1]) (by simp [results, Tryz.results13, go_sem, r0, r1, r2, r3, r4, r5, r6]) rfl ?_
    exact outV_null (err := 1) (zs := [.int .i64 0, .bool false, .slice none 0 0, .int .i64 0, .string ⟨#[]⟩, .slice none 0 0, .slice none 0 0]) hB.out hZw.out
  · go_enter Tryz.func13, Tryz.ntmps13
    go_wp2_with fail
    rw [hW.out]
    refine (h1.out _ hB.out).mono ?_
    rintro en w1 ⟨rfl, hb⟩
    replace hB := hid (below_trans hB.out hb)
    replace hX := hid (hX.out.stay hb)
    replace hY := hid (hY.out.stay hb)
    replace hZ := hid (blk_below hZ.out hb)
    clear hb
    obtain ⟨p0, p1, p2, p3, p4, p5, p6⟩ := hX.out
    obtain ⟨q0, q1, q2, q3, q4, q5, q6⟩ := hY.out
    go_wp2_with fail
    refine (h2.out _ hB.out).mono ?_
    rintro en w1 ⟨rfl, hb⟩
    replace hB := hid (below_trans hB.out hb)
    replace hX := hid (hX.out.stay hb)
    replace hY := hid (hY.out.stay hb)
    replace hZ := hid (blk_below hZ.out hb)
    clear hb
    clear p0 p1 p2 p3 p4 p5 p6 q0 q1 q2 q3 q4 q5 q6
    obtain ⟨p0, p1, p2, p3, p4, p5, p6⟩ := hX.out
    obtain ⟨q0, q1, q2, q3, q4, q5, q6⟩ := hY.out
    go_wp2_with fail
    refine (h3.out _ hB.out).mono ?_
    rintro en w1 ⟨rfl, hb⟩
    replace hB := hid (below_trans hB.out hb)
    replace hX := hid (hX.out.stay hb)
    replace hY := hid (hY.out.stay hb)
    replace hZ := hid (blk_below hZ.out hb)
    clear hb
    clear p0 p1 p2 p3 p4 p5 p6 q0 q1 q2 q3 q4 q5 q6
    obtain ⟨p0, p1, p2, p3, p4, p5, p6⟩ := hX.out
    obtain ⟨q0, q1, q2, q3, q4, q5, q6⟩ := hY.out
    clear hW
    obtain ⟨⟨r0, r1, r2, r3, r4, r5, r6⟩, s0, s1, s2, s3, s4, s5, s6⟩ := blk_seven hZ.out
    go_wp2_with fail
    refine bodyPost_ret (v := .tuple #[.agg #[.int .i64 0, .bool false, .slice none 0 0, .int .i64 0, .string ⟨#[]⟩, .slice none 0 0, .slice none 0 0], .int .i64 1]) (by simp [results, Tryz.results13, go_sem, r0, r1, r2, r3, r4, r5, r6]) rfl ?_
    exact outV_null (err := 1) (zs := [.int .i64 0, .bool false, .slice none 0 0, .int .i64 0, .string ⟨#[]⟩, .slice none 0 0, .slice none 0 0]) hB.out hZw.out
  · have f6 : (k != 6) = true := by rw [bne_iff_ne]; exact hk6
    have f0 : (k != 0) = true := by rw [bne_iff_ne]; exact hk0
    clear hk6 hk0
    go_enter Tryz.func13, Tryz.ntmps13
    go_wp2_with fail
    rw [hW.out]
    refine (h1.out _ hB.out).mono ?_
    rintro en w1 ⟨rfl, hb⟩
    replace hB := hid (below_trans hB.out hb)
    replace hX := hid (hX.out.stay hb)
    replace hY := hid (hY.out.stay hb)
    replace hZ := hid (blk_below hZ.out hb)
    clear hb
    obtain ⟨p0, p1, p2, p3, p4, p5, p6⟩ := hX.out
    obtain ⟨q0, q1, q2, q3, q4, q5, q6⟩ := hY.out
    go_wp2_with fail
    refine (h2.out _ hB.out).mono ?_
    rintro en w1 ⟨rfl, hb⟩
    replace hB := hid (below_trans hB.out hb)
    replace hX := hid (hX.out.stay hb)
    replace hY := hid (hY.out.stay hb)
    replace hZ := hid (blk_below hZ.out hb)
    clear hb
    clear p0 p1 p2 p3 p4 p5 p6 q0 q1 q2 q3 q4 q5 q6
    obtain ⟨p0, p1, p2, p3, p4, p5, p6⟩ := hX.out
    obtain ⟨q0, q1, q2, q3, q4, q5, q6⟩ := hY.out
    go_wp2_with fail
    refine (h3.out _ hB.out).mono ?_
    rintro en w1 ⟨rfl, hb⟩
    replace hB := hid (below_trans hB.out hb)
    replace hX := hid (hX.out.stay hb)
    replace hY := hid (hY.out.stay hb)
    replace hZ := hid (blk_below hZ.out hb)
    clear hb
    clear p0 p1 p2 p3 p4 p5 p6 q0 q1 q2 q3 q4 q5 q6
    obtain ⟨p0, p1, p2, p3, p4, p5, p6⟩ := hX.out
    obtain ⟨q0, q1, q2, q3, q4, q5, q6⟩ := hY.out
    clear hW
    obtain ⟨⟨r0, r1, r2, r3, r4, r5, r6⟩, s0, s1, s2, s3, s4, s5, s6⟩ := blk_seven hZ.out
    go_wp2_with fail
    refine bodyPost_ret (v := .tuple #[.agg #[.int .i64 0, .bool false, .slice none 0 0, .int .i64 0, .string ⟨#[]⟩, .slice none 0 0, .slice none 0 0], .int .i64 9]) (by simp [results, Tryz.results13, go_sem, r0, r1, r2, r3, r4, r5, r6]) rfl ?_
    exact outV_null (err := 9) (zs := [.int .i64 0, .bool false, .slice none 0 0, .int .i64 0, .string ⟨#[]⟩, .slice none 0 0, .slice none 0 0]) hB.out hZw.out
  · rcases hk with rfl | rfl
    all_goals
      go_enter Tryz.func13, Tryz.ntmps13
      go_wp2_with fail
      rw [hW.out]
      refine (h1.out _ hB.out).mono ?_
      rintro en w1 ⟨rfl, hb⟩
      replace hB := hid (below_trans hB.out hb)
      replace hX := hid (hX.out.stay hb)
      replace hY := hid (hY.out.stay hb)
      replace hZ := hid (blk_below hZ.out hb)
      clear hb
      obtain ⟨p0, p1, p2, p3, p4, p5, p6⟩ := hX.out
      obtain ⟨q0, q1, q2, q3, q4, q5, q6⟩ := hY.out
      go_wp2_with fail
      refine (h2.out _ hB.out).mono ?_
      rintro en w1 ⟨rfl, hb⟩
      replace hB := hid (below_trans hB.out hb)
      replace hX := hid (hX.out.stay hb)
      replace hY := hid (hY.out.stay hb)
      replace hZ := hid (blk_below hZ.out hb)
      clear hb
      clear p0 p1 p2 p3 p4 p5 p6 q0 q1 q2 q3 q4 q5 q6
      obtain ⟨p0, p1, p2, p3, p4, p5, p6⟩ := hX.out
      obtain ⟨q0, q1, q2, q3, q4, q5, q6⟩ := hY.out
      go_wp2_with fail
      refine (h3.out _ hB.out).mono ?_
      rintro en w1 ⟨rfl, hb⟩
      replace hB := hid (below_trans hB.out hb)
      replace hX := hid (hX.out.stay hb)
      replace hY := hid (hY.out.stay hb)
      replace hZ := hid (blk_below hZ.out hb)
      clear hb
      clear p0 p1 p2 p3 p4 p5 p6 q0 q1 q2 q3 q4 q5 q6
      obtain ⟨p0, p1, p2, p3, p4, p5, p6⟩ := hX.out
      obtain ⟨q0, q1, q2, q3, q4, q5, q6⟩ := hY.out
      go_wp2_with fail
      refine (h4.out _ hB.out).mono ?_
      rintro en w1 ⟨rfl, hb⟩
      replace hB := hid (below_trans hB.out hb)
      replace hX := hid (hX.out.stay hb)
      replace hY := hid (hY.out.stay hb)
      replace hZ := hid (blk_below hZ.out hb)
      clear hb
      clear p0 p1 p2 p3 p4 p5 p6 q0 q1 q2 q3 q4 q5 q6
      obtain ⟨p0, p1, p2, p3, p4, p5, p6⟩ := hX.out
      obtain ⟨q0, q1, q2, q3, q4, q5, q6⟩ := hY.out
      clear hW
      obtain ⟨⟨r0, r1, r2, r3, r4, r5, r6⟩, s0, s1, s2, s3, s4, s5, s6⟩ := blk_seven hZ.out
      go_wp2_with fail
      refine bodyPost_ret (v := .tuple #[.agg #[.int .i64 0, .bool false, .slice none 0 0, .int .i64 0, .string ⟨#[]⟩, .slice none 0 0, .slice none 0 0], .int .i64 6]) (by simp [results, Tryz.results13, go_sem, r0, r1, r2, r3, r4, r5, r6]) rfl ?_
      exact outV_null (err := 6) (zs := [.int .i64 0, .bool false, .slice none 0 0, .int .i64 0, .string ⟨#[]⟩, .slice none 0 0, .slice none 0 0]) hB.out hZw.out

theorem value_With (v x : JV) (cs cx : List Value) (key : List UInt8) (w : World) (hkl : key.length ≤ 9223372036854775807) (sv : SmallV v) (rv : RdV w cs v) (rx : RdV w cx x) (hT : Tabs w) :
    Calls Tryz.prog 13 #[.agg cs.toArray, strV key, .agg cx.toArray] w (OutV w (withR v key x).1 (withR v key x).2) := by
  have C1 := fun W (hb : Below w.heap.size w W) => value_May v cs W (rv.stay hb) (hT.below hb)
  have C2 := fun W (hb : Below w.heap.size w W) => value_May x cx W (rx.stay hb) (hT.below hb)
  have C3 := fun W (hb : Below w.heap.size w W) => value_sound key W hkl (hT.below hb).1
  have C4 := fun W (hb : Below w.heap.size w W) => value_Depth x cx W (rx.stay hb)
  have C6 := fun W (hb : Below w.heap.size w W) => value_place v cs key W sv (rv.stay hb)
  have rv0 := rv
  have rx0 := rx
  obtain ⟨a, c, aa, ac, oa, oc, P⟩ := rv.parts
  have e := P.cells
  subst e
  obtain ⟨k', g', a', ln', c', e', s', aa', an', ac', oa', on', oc', rfl⟩ := rx.seven
  have early := fun err hx => with_early v.kind v.g g' a a' v.ls.length ln' c c' k' v.e e' v.s s' aa aa' v.arr.length an' ac ac' oa oa' v.obj.length on' oc oc' key (depthJ 200 x) w (mayJ 200 v) (mayJ 200 x) (soundB key) err C1 C2 C3 C4 hx
  unfold withR
  by_cases hm : mayJ 200 v = true ∧ mayJ 200 x = true ∧ soundB key = true
  rotate_left
  · rw [if_pos hm]
    refine early 1 ?_
    by_cases h1 : mayJ 200 v = true
    · by_cases h2 : mayJ 200 x = true
      · exact Or.inr (Or.inr (Or.inl ⟨h1, h2, by rw [Bool.eq_false_iff]; exact fun h3 => hm ⟨h1, h2, h3⟩, rfl⟩))
      · exact Or.inr (Or.inl ⟨h1, by rw [Bool.eq_false_iff]; exact h2, rfl⟩)
    · exact Or.inl ⟨by rw [Bool.eq_false_iff]; exact h1, rfl⟩
  rw [if_neg (fun h => h hm)]
  by_cases hk : v.kind ≠ 6 ∧ v.kind ≠ 0
  · rw [if_pos hk]
    exact early 9 (Or.inr (Or.inr (Or.inr (Or.inl ⟨hm.1, hm.2.1, hm.2.2, hk.1, hk.2, rfl⟩))))
  rw [if_neg hk]
  have hk2 : v.kind = 6 ∨ v.kind = 0 := by omega
  by_cases hd : depthJ 200 x = 200
  · rw [if_pos hd]
    exact early 6 (Or.inr (Or.inr (Or.inr (Or.inr ⟨hm.1, hm.2.1, hm.2.2, hk2, hd, rfl⟩))))
  rw [if_neg hd]
  obtain ⟨⟨⟨_, _⟩, ho⟩, hnd⟩ := may_succ.1 hm.1
  rcases idxO_spec key v.obj 0 with ⟨e1, e2, e3⟩ | ⟨i, hi, e1, e2, e3, e4⟩
  · have hset : setO key x v.obj = v.obj ++ [(key, x)] := by unfold setO; rw [if_neg e3]
    rw [hset]
    simp only [hm.1] at C1
    simp only [hm.2.1] at C2
    simp only [hm.2.2] at C3
    simp only [e1] at C6
    exact with_new v.kind hk2 v.g g' a a' v.ls.length ln' c c' k' v.e e' v.s s' aa aa' v.arr.length an' ac ac' oa oa' v.obj.length on' oc oc' key (depthJ 200 x) hd w v.obj sv.obj ⟨key, x, _, hm.2.2, hkl, rfl, parts_one rx0⟩ rx0 rfl x rfl C1 C2 C3 C4
      (fun W hb => (clone_any oa oc v.obj w W P.obj (fun p hp => (ho p hp).1) sv.obj hb).mono fun en w' ⟨V, E, h1, h2, h3, h4, h5⟩ => ⟨V, E, h1, h2, h3, owns_base h4 hb.size, h5⟩) C6
  · have h6 : v.kind = 6 := by
      rcases hk2 with h | h
      · exact h
      · have := base_obj (may_base hm.1) (by omega)
        rw [this] at hi
        simp at hi
    have hset : setO key x v.obj = v.obj.set i ((v.obj[i]).1, x) := by
      unfold setO
      rw [if_pos e4, e2]
      exact setO_at hnd hi e2
    rw [hset]
    exact value_With_found v x _ _ key i w hm.1 hm.2.1 hm.2.2 hkl h6 hd (by rw [e1]; simp) hi sv rv0 rx0 hT

end Go.Proofs.YtgbgkodjjgjhgaaGreatDoor

namespace Go.Proofs.YtgbgkodjjgjhgaaGreatDoor
open Go.RowKit

open Classical in
noncomputable def eqB (v u : JV) : Bool := decide (v = u)
theorem eqB_true {v u : JV} (h : v = u) : eqB v u = true := by unfold eqB; exact @decide_eq_true _ (Classical.propDecidable _) h
theorem eqB_false {v u : JV} (h : v ≠ u) : eqB v u = false := by unfold eqB; exact @decide_eq_false _ (Classical.propDecidable _) h
theorem eqB_iff {v u : JV} : eqB v u = true ↔ v = u := by unfold eqB; exact @decide_eq_true_iff _ (Classical.propDecidable _)
def SameC (v : JV) : Prop := ∀ (u : JV) (cs ct : List Value) (w : World), RdV w cs v → RdV w ct u → Calls Tryz.prog 34 #[.agg cs.toArray, .agg ct.toArray] w fun en w' => en = .returned (.bool (eqB v u)) ∧ Below w.heap.size w w'
theorem keep16 {w W' w1 : World} {n0 o0 n1 o1 n2 o2 n3 o3 n4 o4 n5 o5 n6 o6 n7 o7 n8 o8 n9 o9 n10 o10 n11 o11 n12 o12 n13 o13 n14 o14 n15 o15 : Nat} {x0 x1 x2 x3 x4 x5 x6 x7 x8 x9 x10 x11 x12 x13 x14 x15 : Value} (h : W'.cell? ⟨n0, o0, none⟩ = some x0 ∧ W'.cell? ⟨n1, o1, none⟩ = some x1 ∧ W'.cell? ⟨n2, o2, none⟩ = some x2 ∧ W'.cell? ⟨n3, o3, none⟩ = some x3 ∧ W'.cell? ⟨n4, o4, none⟩ = some x4 ∧ W'.cell? ⟨n5, o5, none⟩ = some x5 ∧ W'.cell? ⟨n6, o6, none⟩ = some x6 ∧ W'.cell? ⟨n7, o7, none⟩ = some x7 ∧ W'.cell? ⟨n8, o8, none⟩ = some x8 ∧ W'.cell? ⟨n9, o9, none⟩ = some x9 ∧ W'.cell? ⟨n10, o10, none⟩ = some x10 ∧ W'.cell? ⟨n11, o11, none⟩ = some x11 ∧ W'.cell? ⟨n12, o12, none⟩ = some x12 ∧ W'.cell? ⟨n13, o13, none⟩ = some x13 ∧ W'.cell? ⟨n14, o14, none⟩ = some x14 ∧ W'.cell? ⟨n15, o15, none⟩ = some x15 ∧ Below w.heap.size w W') (hb : Below W'.heap.size W' w1) : w1.cell? ⟨n0, o0, none⟩ = some x0 ∧ w1.cell? ⟨n1, o1, none⟩ = some x1 ∧ w1.cell? ⟨n2, o2, none⟩ = some x2 ∧ w1.cell? ⟨n3, o3, none⟩ = some x3 ∧ w1.cell? ⟨n4, o4, none⟩ = some x4 ∧ w1.cell? ⟨n5, o5, none⟩ = some x5 ∧ w1.cell? ⟨n6, o6, none⟩ = some x6 ∧ w1.cell? ⟨n7, o7, none⟩ = some x7 ∧ w1.cell? ⟨n8, o8, none⟩ = some x8 ∧ w1.cell? ⟨n9, o9, none⟩ = some x9 ∧ w1.cell? ⟨n10, o10, none⟩ = some x10 ∧ w1.cell? ⟨n11, o11, none⟩ = some x11 ∧ w1.cell? ⟨n12, o12, none⟩ = some x12 ∧ w1.cell? ⟨n13, o13, none⟩ = some x13 ∧ w1.cell? ⟨n14, o14, none⟩ = some x14 ∧ w1.cell? ⟨n15, o15, none⟩ = some x15 ∧ Below w.heap.size w w1 := by
  obtain ⟨h0, h1, h2, h3, h4, h5, h6, h7, h8, h9, h10, h11, h12, h13, h14, h15, hz⟩ := h
  exact ⟨cell_stay h0 hb, cell_stay h1 hb, cell_stay h2 hb, cell_stay h3 hb, cell_stay h4 hb, cell_stay h5 hb, cell_stay h6 hb, cell_stay h7 hb, cell_stay h8 hb, cell_stay h9 hb, cell_stay h10 hb, cell_stay h11 hb, cell_stay h12 hb, cell_stay h13 hb, cell_stay h14 hb, cell_stay h15 hb, below_trans hz hb⟩
theorem keep18 {w W' w1 : World} {n0 o0 n1 o1 n2 o2 n3 o3 n4 o4 n5 o5 n6 o6 n7 o7 n8 o8 n9 o9 n10 o10 n11 o11 n12 o12 n13 o13 n14 o14 n15 o15 n16 o16 n17 o17 : Nat} {x0 x1 x2 x3 x4 x5 x6 x7 x8 x9 x10 x11 x12 x13 x14 x15 x16 x17 : Value} (h : W'.cell? ⟨n0, o0, none⟩ = some x0 ∧ W'.cell? ⟨n1, o1, none⟩ = some x1 ∧ W'.cell? ⟨n2, o2, none⟩ = some x2 ∧ W'.cell? ⟨n3, o3, none⟩ = some x3 ∧ W'.cell? ⟨n4, o4, none⟩ = some x4 ∧ W'.cell? ⟨n5, o5, none⟩ = some x5 ∧ W'.cell? ⟨n6, o6, none⟩ = some x6 ∧ W'.cell? ⟨n7, o7, none⟩ = some x7 ∧ W'.cell? ⟨n8, o8, none⟩ = some x8 ∧ W'.cell? ⟨n9, o9, none⟩ = some x9 ∧ W'.cell? ⟨n10, o10, none⟩ = some x10 ∧ W'.cell? ⟨n11, o11, none⟩ = some x11 ∧ W'.cell? ⟨n12, o12, none⟩ = some x12 ∧ W'.cell? ⟨n13, o13, none⟩ = some x13 ∧ W'.cell? ⟨n14, o14, none⟩ = some x14 ∧ W'.cell? ⟨n15, o15, none⟩ = some x15 ∧ W'.cell? ⟨n16, o16, none⟩ = some x16 ∧ W'.cell? ⟨n17, o17, none⟩ = some x17 ∧ Below w.heap.size w W') (hb : Below W'.heap.size W' w1) : w1.cell? ⟨n0, o0, none⟩ = some x0 ∧ w1.cell? ⟨n1, o1, none⟩ = some x1 ∧ w1.cell? ⟨n2, o2, none⟩ = some x2 ∧ w1.cell? ⟨n3, o3, none⟩ = some x3 ∧ w1.cell? ⟨n4, o4, none⟩ = some x4 ∧ w1.cell? ⟨n5, o5, none⟩ = some x5 ∧ w1.cell? ⟨n6, o6, none⟩ = some x6 ∧ w1.cell? ⟨n7, o7, none⟩ = some x7 ∧ w1.cell? ⟨n8, o8, none⟩ = some x8 ∧ w1.cell? ⟨n9, o9, none⟩ = some x9 ∧ w1.cell? ⟨n10, o10, none⟩ = some x10 ∧ w1.cell? ⟨n11, o11, none⟩ = some x11 ∧ w1.cell? ⟨n12, o12, none⟩ = some x12 ∧ w1.cell? ⟨n13, o13, none⟩ = some x13 ∧ w1.cell? ⟨n14, o14, none⟩ = some x14 ∧ w1.cell? ⟨n15, o15, none⟩ = some x15 ∧ w1.cell? ⟨n16, o16, none⟩ = some x16 ∧ w1.cell? ⟨n17, o17, none⟩ = some x17 ∧ Below w.heap.size w w1 := by
  obtain ⟨h0, h1, h2, h3, h4, h5, h6, h7, h8, h9, h10, h11, h12, h13, h14, h15, h16, h17, hz⟩ := h
  exact ⟨cell_stay h0 hb, cell_stay h1 hb, cell_stay h2 hb, cell_stay h3 hb, cell_stay h4 hb, cell_stay h5 hb, cell_stay h6 hb, cell_stay h7 hb, cell_stay h8 hb, cell_stay h9 hb, cell_stay h10 hb, cell_stay h11 hb, cell_stay h12 hb, cell_stay h13 hb, cell_stay h14 hb, cell_stay h15 hb, cell_stay h16 hb, cell_stay h17 hb, below_trans hz hb⟩

theorem str_ne {s t : List UInt8} (h : s ≠ t) : ((⟨s.toArray⟩ : ByteArray).toList == (⟨t.toArray⟩ : ByteArray).toList) = false := by
  rw [ByteArray.toList_eq, ByteArray.toList_eq, beq_eq_false_iff_ne]
  exact h
theorem arr_ext {α : Type} {l m : List α} (h : l.length = m.length) (hh : ∀ i (h1 : i < l.length) (h2 : i < m.length), l[i] = m[i]) : l = m := List.ext_getElem h (fun i h1 h2 => hh i h1 h2)

set_option maxRecDepth 100000 in
set_option maxHeartbeats 8000000 in
theorem same_walk (v u : JV) (IHa : ∀ x ∈ v.arr, SameC x) (IHo : ∀ p ∈ v.obj, SameC p.2) (a a' : Option Addr) (c c' : Nat) (aa aa' : Option Addr) (ac ac' : Nat) (oa oa' : Option Addr) (oc oc' : Nat) (w : World)
    (P : PartsV w (valCs v.kind v.g a v.ls.length c v.e v.s aa v.arr.length ac oa v.obj.length oc) v a c aa ac oa oc) (P' : PartsV w (valCs u.kind u.g a' u.ls.length c' u.e u.s aa' u.arr.length ac' oa' u.obj.length oc') u a' c' aa' ac' oa' oc') :
    Calls Tryz.prog 34 #[valV v.kind v.g a v.ls.length c v.e v.s aa v.arr.length ac oa v.obj.length oc, valV u.kind u.g a' u.ls.length c' u.e u.s aa' u.arr.length ac' oa' u.obj.length oc'] w fun en w' => en = .returned (.bool (eqB v u)) ∧ Below w.heap.size w w' := by
  obtain ⟨R, hR⟩ : ∃ R, R = eqB v u := ⟨_, rfl⟩
  rw [← hR]
  have hF : v ≠ u → R = false := fun h => by rw [hR]; exact eqB_false h
  have hT : v = u → R = true := fun h => by rw [hR]; exact eqB_true h
  have hN := fun W (hb : Below w.heap.size w W) => ref2_Same v.g u.g a a' c c' v.e u.e v.ls u.ls W (P.u.below hb) (P'.u.below hb) (by have := P.c; omega)
  have hA := hid P.arr
  have hA' := hid P'.arr
  have hO := hid P.obj
  have hO' := hid P'.obj
  have hal : v.arr.length ≤ 9223372036854775807 := by have := P.ac; omega
  have hol : v.obj.length ≤ 9223372036854775807 := by have := P.oc; omega
  clear P P' hR
  obtain ⟨nb, hnb⟩ : ∃ nb, nb = decide (v.g = u.g ∧ v.e = u.e ∧ v.ls = u.ls) := ⟨_, rfl⟩
  rw [← hnb] at hN
  have hnT : nb = true → v.g = u.g ∧ v.e = u.e ∧ v.ls = u.ls := fun h => of_decide_eq_true (hnb.symm.trans h)
  have hnF : nb = false → v ≠ u := fun h e => of_decide_eq_false (hnb.symm.trans h) (by rw [e]; exact ⟨rfl, rfl, rfl⟩)
  clear hnb
  replace hnT := hid hnT
  replace hnF := hid hnF
  replace IHa := hid IHa
  replace IHo := hid IHo
  replace hN := hid hN
  replace hF := hid hF
  replace hT := hid hT
  obtain ⟨k, g, ls, e, s, arr, obj⟩ := v
  obtain ⟨k', g', ls', e', s', arr', obj'⟩ := u
  simp only [JV.kind, JV.g, JV.ls, JV.e, JV.s, JV.arr, JV.obj] at *
  unfold valV strV
  by_cases h1 : k = k'
  rotate_left
  · obtain rfl : R = false := hF.out (fun h => h1 (congrArg JV.kind h))
    have q1 : (k == k') = false := by rw [beq_eq_false_iff_ne]; exact h1
    have q2 : (k != k') = true := by rw [bne, q1]; rfl
    clear h1
    go_enter Tryz.func34, Tryz.ntmps34
    go_wp2_with fail
    go_ret
    exact ⟨rfl, ((Below.refl _ _).alloc (Nat.le_refl _) _).alloc (by simp) _⟩
  subst h1
  by_cases h2 : s = s'
  rotate_left
  · obtain rfl : R = false := hF.out (fun h => h2 (congrArg JV.s h))
    have q := str_ne h2
    generalize (⟨s.toArray⟩ : ByteArray) = sb at *
    generalize (⟨s'.toArray⟩ : ByteArray) = sb' at *
    clear h2
    go_enter Tryz.func34, Tryz.ntmps34
    go_wp2_with fail
    go_ret
    exact ⟨rfl, ((Below.refl _ _).alloc (Nat.le_refl _) _).alloc (by simp) _⟩
  subst h2
  generalize (⟨s.toArray⟩ : ByteArray) = sb at *
  have qs : (sb.toList == sb.toList) = true := by simp
  by_cases h3 : arr.length = arr'.length
  rotate_left
  · obtain rfl : R = false := hF.out (fun h => h3 (congrArg (fun v => (JV.arr v).length) h))
    generalize arr.length = an at *
    generalize arr'.length = an' at *
    have q1 : (an == an') = false := by rw [beq_eq_false_iff_ne]; exact h3
    have q2 : ((an : Int) == (an' : Int)) = false := by rw [beq_eq_false_iff_ne]; omega
    clear h3
    go_enter Tryz.func34, Tryz.ntmps34
    go_wp2_with fail
    go_ret
    exact ⟨rfl, ((Below.refl _ _).alloc (Nat.le_refl _) _).alloc (by simp) _⟩
  by_cases h4 : obj.length = obj'.length
  rotate_left
  · obtain rfl : R = false := hF.out (fun h => h4 (congrArg (fun v => (JV.obj v).length) h))
    rw [← h3]
    generalize arr.length = an at *
    generalize obj.length = on at *
    generalize obj'.length = on' at *
    have q1 : (on == on') = false := by rw [beq_eq_false_iff_ne]; exact h4
    have q2 : ((on : Int) == (on' : Int)) = false := by rw [beq_eq_false_iff_ne]; omega
    clear h4 h3
    go_enter Tryz.func34, Tryz.ntmps34
    go_wp2_with fail
    go_ret
    exact ⟨rfl, ((Below.refl _ _).alloc (Nat.le_refl _) _).alloc (by simp) _⟩
  rw [← h3, ← h4]
  have H3 := hid h3
  have H4 := hid h4
  generalize ls.length = ln at *
  generalize ls'.length = ln' at *
  generalize hal' : arr.length = an at *
  generalize hol' : obj.length = on at *
  replace hal' := hid hal'
  replace hol' := hid hol'
  replace h3 := hid h3
  replace h4 := hid h4
  clear H3 H4
  obtain ⟨W, hW⟩ : ∃ W, W = (w.alloc (.cells #[.int .i64 k, .bool g, .slice a ln c, .int .i64 e, .string sb, .slice aa an ac, .slice oa on oc] 28)).alloc (.cells #[.int .i64 k, .bool g', .slice a' ln' c', .int .i64 e', .string sb, .slice aa' an ac', .slice oa' on oc'] 28) := ⟨_, rfl⟩
  have HB := hid (show Below w.heap.size w W by rw [hW]; exact ((Below.refl _ _).alloc (Nat.le_refl _) _).alloc (by simp) _)
  have HX : Hid (BoxV W w.heap.size k g a ln c e sb aa an ac oa on oc) := by
    rw [hW]
    exact ⟨by simp [go_sem], by simp [go_sem], by simp [go_sem], by simp [go_sem], by simp [go_sem], by simp [go_sem], by simp [go_sem]⟩
  have HY : Hid (BoxV W (w.heap.size + 1) k g' a' ln' c' e' sb aa' an ac' oa' on oc') := by
    rw [hW]
    exact ⟨by simp [go_sem], by simp [go_sem], by simp [go_sem], by simp [go_sem], by simp [go_sem], by simp [go_sem], by simp [go_sem]⟩
  replace hW := hid hW.symm
  go_enter Tryz.func34, Tryz.ntmps34
  go_wp2_with fail
  rw [hW.out]
  cases nb with
  | false =>
    obtain rfl : R = false := hF.out (hnF.out rfl)
    refine (hN.out _ HB.out).mono ?_
    rintro en w1 ⟨rfl, hb⟩
    have q := hid (below_trans HB.out hb)
    clear hb
    go_wp2_with fail
    go_ret
    exact ⟨rfl, q.out⟩
  | true =>
    have hnum := hid (hnT.out rfl)
    clear hnT hnF
    refine (hN.out _ HB.out).mono ?_
    rintro en w1 ⟨rfl, hb⟩
    replace HB := hid (below_trans HB.out hb)
    replace HX := hid (HX.out.stay hb)
    replace HY := hid (HY.out.stay hb)
    clear hb hW hN qs
    obtain ⟨B, hBB⟩ : ∃ B, B = w.heap.size := ⟨_, rfl⟩
    obtain ⟨B', hBB'⟩ : ∃ B', B' = w.heap.size + 1 := ⟨_, rfl⟩
    rw [← hBB'] at HY ⊢
    rw [← hBB] at HX ⊢
    clear hBB hBB'
    go_wp2
    go_loopw [5] (fun v5 wr => ∃ k1 : Nat, k1 ≤ an ∧ Hid (arr.take k1 = arr'.take k1) ∧ v5 = .int .i64 k1 ∧ Below w.heap.size w wr ∧ BoxV wr B k g a ln c e sb aa an ac oa on oc ∧ BoxV wr B' k g' a' ln' c' e' sb aa' an ac' oa' on oc') (fun v5 _ => an - (intOf v5).toNat)
    case atStart => exact ⟨0, Nat.zero_le _, hid (by simp), rfl, HB.out, HX.out, HY.out⟩
    case round =>
      obtain ⟨k1, hk, hM, rfl, hb, hx, hy⟩ := hrel
      clear HB HX HY
      obtain ⟨x0, x1, x2, x3, x4, x5, x6⟩ := hx
      obtain ⟨y0, y1, y2, y3, y4, y5, y6⟩ := hy
      by_cases hlt : k1 < an
      · have hlt2 : (k1 : Int) < (an : Int) := by omega
        have hk1 : k1 < arr.length := by rw [hal'.out]; exact hlt
        have hk2 : k1 < arr'.length := by rw [← h3.out]; exact hlt
        obtain ⟨b1, f1, a1, c1, aa1, ac1, oa1, oc1, rfl, P1, C1⟩ := (hA.out.below hb).at hk1
        obtain ⟨b2, f2, a2, c2, aa2, ac2, oa2, oc2, rfl, P2, C2⟩ := (hA'.out.below hb).at hk2
        have rx := hid P1.rd
        have ry := hid P2.rd
        clear P1 P2
        unfold Cells7 strV at C1 C2
        obtain ⟨x, hx⟩ : ∃ x, x = arr[k1] := ⟨_, rfl⟩
        obtain ⟨y, hy⟩ : ∃ y, y = arr'[k1] := ⟨_, rfl⟩
        rw [← hx] at C1 rx
        rw [← hy] at C2 ry
        have HXX := hid hx
        have HYY := hid hy
        clear hx hy
        obtain ⟨p0, p1, p2, p3, p4, p5, p6⟩ := C1
        obtain ⟨q0, q1, q2, q3, q4, q5, q6⟩ := C2
        have hxm := hid (show x ∈ arr by rw [HXX.out]; exact List.getElem_mem hk1)
        obtain ⟨r, hr⟩ : ∃ r, r = eqB x y := ⟨_, rfl⟩
        have C : Hid (∀ W, (W.cell? ⟨B, 5, none⟩ = some (.slice (some ⟨b1, f1, none⟩) an ac) ∧ W.cell? ⟨B', 5, none⟩ = some (.slice (some ⟨b2, f2, none⟩) an ac') ∧ W.cell? ⟨b1, f1 + k1 * 7, none⟩ = some (.int .i64 x.kind) ∧ W.cell? ⟨b1, f1 + k1 * 7 + 1, none⟩ = some (.bool x.g) ∧ W.cell? ⟨b1, f1 + k1 * 7 + 2, none⟩ = some (.slice a1 x.ls.length c1) ∧ W.cell? ⟨b1, f1 + k1 * 7 + 3, none⟩ = some (.int .i64 x.e) ∧ W.cell? ⟨b1, f1 + k1 * 7 + 4, none⟩ = some (.string ⟨x.s.toArray⟩) ∧ W.cell? ⟨b1, f1 + k1 * 7 + 5, none⟩ = some (.slice aa1 x.arr.length ac1) ∧ W.cell? ⟨b1, f1 + k1 * 7 + 6, none⟩ = some (.slice oa1 x.obj.length oc1) ∧ W.cell? ⟨b2, f2 + k1 * 7, none⟩ = some (.int .i64 y.kind) ∧ W.cell? ⟨b2, f2 + k1 * 7 + 1, none⟩ = some (.bool y.g) ∧ W.cell? ⟨b2, f2 + k1 * 7 + 2, none⟩ = some (.slice a2 y.ls.length c2) ∧ W.cell? ⟨b2, f2 + k1 * 7 + 3, none⟩ = some (.int .i64 y.e) ∧ W.cell? ⟨b2, f2 + k1 * 7 + 4, none⟩ = some (.string ⟨y.s.toArray⟩) ∧ W.cell? ⟨b2, f2 + k1 * 7 + 5, none⟩ = some (.slice aa2 y.arr.length ac2) ∧ W.cell? ⟨b2, f2 + k1 * 7 + 6, none⟩ = some (.slice oa2 y.obj.length oc2) ∧ Below wr.heap.size wr W) → Calls Tryz.prog 34 #[.agg #[.int .i64 x.kind, .bool x.g, .slice a1 x.ls.length c1, .int .i64 x.e, .string ⟨x.s.toArray⟩, .slice aa1 x.arr.length ac1, .slice oa1 x.obj.length oc1], .agg #[.int .i64 y.kind, .bool y.g, .slice a2 y.ls.length c2, .int .i64 y.e, .string ⟨y.s.toArray⟩, .slice aa2 y.arr.length ac2, .slice oa2 y.obj.length oc2]] W fun en w' => en = .returned (.bool r) ∧ Below W.heap.size W w') := by
          intro W h
          have hb1 := h.2.2.2.2.2.2.2.2.2.2.2.2.2.2.2.2
          rw [hr]
          exact IHa.out x hxm.out y _ _ W (rx.out.stay hb1) (ry.out.stay hb1)
        replace hr := hid hr
        go_upto_region 8 with fail
        go_cut [61] from 43 to 61 (fun v61 w' => v61 = .bool (!r) ∧ Below wr.heap.size wr w')
        case first =>
          go_region_held3 (fun W => W.cell? ⟨B, 5, none⟩ = some (.slice (some ⟨b1, f1, none⟩) an ac) ∧ W.cell? ⟨B', 5, none⟩ = some (.slice (some ⟨b2, f2, none⟩) an ac') ∧ W.cell? ⟨b1, f1 + k1 * 7, none⟩ = some (.int .i64 x.kind) ∧ W.cell? ⟨b1, f1 + k1 * 7 + 1, none⟩ = some (.bool x.g) ∧ W.cell? ⟨b1, f1 + k1 * 7 + 2, none⟩ = some (.slice a1 x.ls.length c1) ∧ W.cell? ⟨b1, f1 + k1 * 7 + 3, none⟩ = some (.int .i64 x.e) ∧ W.cell? ⟨b1, f1 + k1 * 7 + 4, none⟩ = some (.string ⟨x.s.toArray⟩) ∧ W.cell? ⟨b1, f1 + k1 * 7 + 5, none⟩ = some (.slice aa1 x.arr.length ac1) ∧ W.cell? ⟨b1, f1 + k1 * 7 + 6, none⟩ = some (.slice oa1 x.obj.length oc1) ∧ W.cell? ⟨b2, f2 + k1 * 7, none⟩ = some (.int .i64 y.kind) ∧ W.cell? ⟨b2, f2 + k1 * 7 + 1, none⟩ = some (.bool y.g) ∧ W.cell? ⟨b2, f2 + k1 * 7 + 2, none⟩ = some (.slice a2 y.ls.length c2) ∧ W.cell? ⟨b2, f2 + k1 * 7 + 3, none⟩ = some (.int .i64 y.e) ∧ W.cell? ⟨b2, f2 + k1 * 7 + 4, none⟩ = some (.string ⟨y.s.toArray⟩) ∧ W.cell? ⟨b2, f2 + k1 * 7 + 5, none⟩ = some (.slice aa2 y.arr.length ac2) ∧ W.cell? ⟨b2, f2 + k1 * 7 + 6, none⟩ = some (.slice oa2 y.obj.length oc2) ∧ Below wr.heap.size wr W) (first | (exact ⟨x5, y5, p0, p1, p2, p3, p4, p5, p6, q0, q1, q2, q3, q4, q5, q6, (Below.refl _ _).drew⟩) | (exact keep16 (by assumption) (by assumption)) | assumption) ((go_at_call 34; (with_reducible refine (C.out _ ?_).mono ?_); assumption; rintro e3 w3 ⟨rfl, hb3⟩))
          all_goals
            rename_i hHeld
            have hH := hHeld.2.2.2.2.2.2.2.2.2.2.2.2.2.2.2.2
            clear hHeld
            cases r <;>
            (go_wp2_with fail
             go_meet
             case rel => exact ⟨rfl, hH⟩)
        case rest =>
          obtain ⟨rfl, hbw⟩ := hcut
          have HBw := hid (below_trans hb hbw)
          have HXw : Hid (BoxV wc B k g a ln c e sb (some ⟨b1, f1, none⟩) an ac oa on oc) := BoxV.stay ⟨x0, x1, x2, x3, x4, x5, x6⟩ hbw
          have HYw : Hid (BoxV wc B' k g' a' ln' c' e' sb (some ⟨b2, f2, none⟩) an ac' oa' on oc') := BoxV.stay ⟨y0, y1, y2, y3, y4, y5, y6⟩ hbw
          clear hb hbw x0 x1 x2 x3 x4 x5 x6 y0 y1 y2 y3 y4 y5 y6 p0 p1 p2 p3 p4 p5 p6 q0 q1 q2 q3 q4 q5 q6 C rx ry
          cases r with
          | false =>
            obtain rfl : R = false := hF.out (fun h => by
              have h1 : arr = arr' := congrArg JV.arr h
              have h2 : x = y := by rw [HXX.out, HYY.out]; simp only [h1]
              have h3 := hr.out
              rw [eqB_true h2] at h3
              cases h3)
            go_wp2_with fail
            go_ret
            exact ⟨rfl, HBw.out⟩
          | true =>
            have hxy : Hid (x = y) := eqB_iff.1 hr.out.symm
            go_wp2
            go_roundw
            case rel => exact ⟨k1 + 1, by omega, hid (by rw [List.take_succ_eq_append_getElem hk1, List.take_succ_eq_append_getElem hk2, hM.out, ← HXX.out, ← HYY.out, hxy.out]), by first | rfl | go_num, HBw.out, HXw.out, HYw.out⟩
            case measure => simp [intOf]; omega
      · obtain rfl : k1 = an := by omega
        have hlt2 : ¬ ((k1 : Nat) : Int) < (k1 : Int) := by omega
        have hArr : Hid (arr = arr') := by
          have := hM.out
          rw [List.take_of_length_le (by rw [hal'.out]; exact Nat.le_refl _), List.take_of_length_le (by rw [← h3.out]; exact Nat.le_refl _)] at this
          exact this
        clear hM
        have HB := hid hb
        have HX : Hid (BoxV wr B k g a ln c e sb aa k1 ac oa on oc) := ⟨x0, x1, x2, x3, x4, x5, x6⟩
        have HY : Hid (BoxV wr B' k g' a' ln' c' e' sb aa' k1 ac' oa' on oc') := ⟨y0, y1, y2, y3, y4, y5, y6⟩
        clear hb
        go_wp2
        clear x0 x1 x2 x3 x4 x5 x6 y0 y1 y2 y3 y4 y5 y6
        go_loopw [6] (fun v6 wr => ∃ j : Nat, j ≤ on ∧ Hid (obj.take j = obj'.take j) ∧ v6 = .int .i64 j ∧ Below w.heap.size w wr ∧ BoxV wr B k g a ln c e sb aa k1 ac oa on oc ∧ BoxV wr B' k g' a' ln' c' e' sb aa' k1 ac' oa' on oc') (fun v6 _ => on - (intOf v6).toNat)
        case atStart => exact ⟨0, Nat.zero_le _, hid (by simp), rfl, HB.out, HX.out, HY.out⟩
        case round =>
          obtain ⟨j, hj, hM2, rfl, hb, hx, hy⟩ := hrel
          clear HB HX HY
          obtain ⟨x0, x1, x2, x3, x4, x5, x6⟩ := hx
          obtain ⟨y0, y1, y2, y3, y4, y5, y6⟩ := hy
          by_cases hlt : j < on
          · have hlt3 : (j : Int) < (on : Int) := by omega
            have hk1 : j < obj.length := by rw [hol'.out]; exact hlt
            have hk2 : j < obj'.length := by rw [← h4.out]; exact hlt
            obtain ⟨b1, f1, a1, c1, aa1, ac1, oa1, oc1, rfl, _, P1, C1⟩ := (hO.out.below hb).at hk1
            obtain ⟨b2, f2, a2, c2, aa2, ac2, oa2, oc2, rfl, _, P2, C2⟩ := (hO'.out.below hb).at hk2
            have rx := hid P1.rd
            have ry := hid P2.rd
            clear P1 P2
            unfold Cells8f strV at C1 C2
            obtain ⟨x, hx⟩ : ∃ x, x = obj[j] := ⟨_, rfl⟩
            obtain ⟨y, hy⟩ : ∃ y, y = obj'[j] := ⟨_, rfl⟩
            rw [← hx] at C1 rx
            rw [← hy] at C2 ry
            have HXX := hid hx
            have HYY := hid hy
            clear hx hy
            have hxm := hid (show x ∈ obj by rw [HXX.out]; exact List.getElem_mem hk1)
            obtain ⟨kx, x⟩ := x
            obtain ⟨ky, y⟩ := y
            simp only at C1 C2 rx ry
            obtain ⟨p0, p1, p2, p3, p4, p5, p6, p7⟩ := C1
            obtain ⟨q0, q1, q2, q3, q4, q5, q6, q7⟩ := C2
            by_cases hkk : kx = ky
            · subst hkk
              generalize (⟨kx.toArray⟩ : ByteArray) = kb at *
              obtain ⟨r, hr⟩ : ∃ r, r = eqB x y := ⟨_, rfl⟩
              have C : Hid (∀ W, (W.cell? ⟨B, 6, none⟩ = some (.slice (some ⟨b1, f1, none⟩) on oc) ∧ W.cell? ⟨B', 6, none⟩ = some (.slice (some ⟨b2, f2, none⟩) on oc') ∧ W.cell? ⟨b1, f1 + j * 8, none⟩ = some (.string kb) ∧ W.cell? ⟨b1, f1 + j * 8 + 1, none⟩ = some (.int .i64 x.kind) ∧ W.cell? ⟨b1, f1 + j * 8 + 2, none⟩ = some (.bool x.g) ∧ W.cell? ⟨b1, f1 + j * 8 + 3, none⟩ = some (.slice a1 x.ls.length c1) ∧ W.cell? ⟨b1, f1 + j * 8 + 4, none⟩ = some (.int .i64 x.e) ∧ W.cell? ⟨b1, f1 + j * 8 + 5, none⟩ = some (.string ⟨x.s.toArray⟩) ∧ W.cell? ⟨b1, f1 + j * 8 + 6, none⟩ = some (.slice aa1 x.arr.length ac1) ∧ W.cell? ⟨b1, f1 + j * 8 + 7, none⟩ = some (.slice oa1 x.obj.length oc1) ∧ W.cell? ⟨b2, f2 + j * 8, none⟩ = some (.string kb) ∧ W.cell? ⟨b2, f2 + j * 8 + 1, none⟩ = some (.int .i64 y.kind) ∧ W.cell? ⟨b2, f2 + j * 8 + 2, none⟩ = some (.bool y.g) ∧ W.cell? ⟨b2, f2 + j * 8 + 3, none⟩ = some (.slice a2 y.ls.length c2) ∧ W.cell? ⟨b2, f2 + j * 8 + 4, none⟩ = some (.int .i64 y.e) ∧ W.cell? ⟨b2, f2 + j * 8 + 5, none⟩ = some (.string ⟨y.s.toArray⟩) ∧ W.cell? ⟨b2, f2 + j * 8 + 6, none⟩ = some (.slice aa2 y.arr.length ac2) ∧ W.cell? ⟨b2, f2 + j * 8 + 7, none⟩ = some (.slice oa2 y.obj.length oc2) ∧ Below wr.heap.size wr W) → Calls Tryz.prog 34 #[.agg #[.int .i64 x.kind, .bool x.g, .slice a1 x.ls.length c1, .int .i64 x.e, .string ⟨x.s.toArray⟩, .slice aa1 x.arr.length ac1, .slice oa1 x.obj.length oc1], .agg #[.int .i64 y.kind, .bool y.g, .slice a2 y.ls.length c2, .int .i64 y.e, .string ⟨y.s.toArray⟩, .slice aa2 y.arr.length ac2, .slice oa2 y.obj.length oc2]] W fun en w' => en = .returned (.bool r) ∧ Below W.heap.size W w') := by
                intro W h
                have hb1 := h.2.2.2.2.2.2.2.2.2.2.2.2.2.2.2.2.2.2
                rw [hr]
                exact IHo.out _ hxm.out y _ _ W (rx.out.stay hb1) (ry.out.stay hb1)
              replace hr := hid hr
              have qk : (kb.toList == kb.toList) = true := by simp
              go_upto_region 13 with fail
              go_cut [97] from 62 to 97 (fun v97 w' => v97 = .bool (!r) ∧ Below wr.heap.size wr w')
              case first =>
                go_region_held3 (fun W => W.cell? ⟨B, 6, none⟩ = some (.slice (some ⟨b1, f1, none⟩) on oc) ∧ W.cell? ⟨B', 6, none⟩ = some (.slice (some ⟨b2, f2, none⟩) on oc') ∧ W.cell? ⟨b1, f1 + j * 8, none⟩ = some (.string kb) ∧ W.cell? ⟨b1, f1 + j * 8 + 1, none⟩ = some (.int .i64 x.kind) ∧ W.cell? ⟨b1, f1 + j * 8 + 2, none⟩ = some (.bool x.g) ∧ W.cell? ⟨b1, f1 + j * 8 + 3, none⟩ = some (.slice a1 x.ls.length c1) ∧ W.cell? ⟨b1, f1 + j * 8 + 4, none⟩ = some (.int .i64 x.e) ∧ W.cell? ⟨b1, f1 + j * 8 + 5, none⟩ = some (.string ⟨x.s.toArray⟩) ∧ W.cell? ⟨b1, f1 + j * 8 + 6, none⟩ = some (.slice aa1 x.arr.length ac1) ∧ W.cell? ⟨b1, f1 + j * 8 + 7, none⟩ = some (.slice oa1 x.obj.length oc1) ∧ W.cell? ⟨b2, f2 + j * 8, none⟩ = some (.string kb) ∧ W.cell? ⟨b2, f2 + j * 8 + 1, none⟩ = some (.int .i64 y.kind) ∧ W.cell? ⟨b2, f2 + j * 8 + 2, none⟩ = some (.bool y.g) ∧ W.cell? ⟨b2, f2 + j * 8 + 3, none⟩ = some (.slice a2 y.ls.length c2) ∧ W.cell? ⟨b2, f2 + j * 8 + 4, none⟩ = some (.int .i64 y.e) ∧ W.cell? ⟨b2, f2 + j * 8 + 5, none⟩ = some (.string ⟨y.s.toArray⟩) ∧ W.cell? ⟨b2, f2 + j * 8 + 6, none⟩ = some (.slice aa2 y.arr.length ac2) ∧ W.cell? ⟨b2, f2 + j * 8 + 7, none⟩ = some (.slice oa2 y.obj.length oc2) ∧ Below wr.heap.size wr W) (first | (exact ⟨x6, y6, p0, p1, p2, p3, p4, p5, p6, p7, q0, q1, q2, q3, q4, q5, q6, q7, (Below.refl _ _).drew⟩) | (exact keep18 (by assumption) (by assumption)) | assumption) ((go_at_call 34; (with_reducible refine (C.out _ ?_).mono ?_); assumption; rintro e3 w3 ⟨rfl, hb3⟩))
                all_goals
                  rename_i hHeld
                  have hH := hHeld.2.2.2.2.2.2.2.2.2.2.2.2.2.2.2.2.2.2
                  clear hHeld
                  cases r <;>
                  (go_wp2_with fail
                   go_meet
                   case rel => exact ⟨rfl, hH⟩)
              case rest =>
                obtain ⟨rfl, hbw⟩ := hcut
                have HBw := hid (below_trans hb hbw)
                have HXw : Hid (BoxV wc B k g a ln c e sb aa k1 ac (some ⟨b1, f1, none⟩) on oc) := BoxV.stay ⟨x0, x1, x2, x3, x4, x5, x6⟩ hbw
                have HYw : Hid (BoxV wc B' k g' a' ln' c' e' sb aa' k1 ac' (some ⟨b2, f2, none⟩) on oc') := BoxV.stay ⟨y0, y1, y2, y3, y4, y5, y6⟩ hbw
                clear hb hbw x0 x1 x2 x3 x4 x5 x6 y0 y1 y2 y3 y4 y5 y6 p0 p1 p2 p3 p4 p5 p6 p7 q0 q1 q2 q3 q4 q5 q6 q7 C rx ry qk
                cases r with
                | false =>
                  obtain rfl : R = false := hF.out (fun h => by
                    have h1 : obj = obj' := congrArg JV.obj h
                    have h2 : (kx, x) = (kx, y) := by rw [HXX.out, HYY.out]; simp only [h1]
                    have h3 := hr.out
                    rw [eqB_true (Prod.mk.inj h2).2] at h3
                    cases h3)
                  go_wp2_with fail
                  go_ret
                  exact ⟨rfl, HBw.out⟩
                | true =>
                  have hxy : Hid (x = y) := eqB_iff.1 hr.out.symm
                  go_wp2
                  go_roundw
                  case rel => exact ⟨j + 1, by omega, hid (by rw [List.take_succ_eq_append_getElem hk1, List.take_succ_eq_append_getElem hk2, hM2.out, ← HXX.out, ← HYY.out, hxy.out]), by first | rfl | go_num, HBw.out, HXw.out, HYw.out⟩
                  case measure => simp [intOf]; omega
            · obtain rfl : R = false := hF.out (fun h => by
                have h1 : obj = obj' := congrArg JV.obj h
                have h2 : (kx, x) = (ky, y) := by rw [HXX.out, HYY.out]; simp only [h1]
                exact hkk (Prod.mk.inj h2).1)
              have qk := str_ne hkk
              generalize (⟨kx.toArray⟩ : ByteArray) = kb at *
              generalize (⟨ky.toArray⟩ : ByteArray) = kb' at *
              clear hkk
              go_upto_region 13 with fail
              first | go_quiet (fail) | fail
              all_goals
                go_wp2_with fail
                go_ret
                exact ⟨rfl, by first | exact below_drewN hb _ | exact hb⟩
          · obtain rfl : j = on := by omega
            have hlt3 : ¬ ((j : Nat) : Int) < (j : Int) := by omega
            obtain rfl : R = true := hT.out (by
              have h5 := hM2.out
              rw [List.take_of_length_le (by rw [hol'.out]; exact Nat.le_refl _), List.take_of_length_le (by rw [← h4.out]; exact Nat.le_refl _)] at h5
              have h6 := hnum.out
              obtain ⟨h7, h8, h9⟩ := h6
              have h10 := hArr.out
              subst h5 h7 h8 h9 h10
              rfl)
            go_wp2
            go_ret
            exact ⟨rfl, hb⟩

theorem same_all : ∀ (n : Nat) (v : JV), SizeOf.sizeOf v ≤ n → SameC v
  | 0, v, h => by
    obtain ⟨k, g, ls, e, s, arr, obj⟩ := v
    simp at h
  | n + 1, v, h => fun u cs ct w rv ru => by
    obtain ⟨a, c, aa, ac, oa, oc, P⟩ := rv.parts
    obtain ⟨a', c', aa', ac', oa', oc', P'⟩ := ru.parts
    have e1 := P.cells
    have e2 := P'.cells
    subst e1 e2
    refine same_walk v u (fun x hx => same_all n x ?_) (fun p hp => same_all n p.2 ?_) a a' c c' aa aa' ac ac' oa oa' oc oc' w P P'
    · obtain ⟨k, g, ls, e, s, arr, obj⟩ := v
      have h1 := List.sizeOf_lt_of_mem hx
      simp only [JV.arr] at h1
      simp at h
      omega
    · obtain ⟨k, g, ls, e, s, arr, obj⟩ := v
      have h1 := List.sizeOf_lt_of_mem hp
      simp only [JV.obj] at h1
      obtain ⟨kp, p⟩ := p
      simp at h h1
      show SizeOf.sizeOf p ≤ n
      omega
theorem ref10_Same (v : JV) : SameC v := same_all _ v (Nat.le_refl _)

end Go.Proofs.YtgbgkodjjgjhgaaGreatDoor
