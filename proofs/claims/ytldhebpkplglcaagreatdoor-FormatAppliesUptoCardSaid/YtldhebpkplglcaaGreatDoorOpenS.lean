/- An argument that is a value, opened to a tree whose size is told (printed by tools/gen_opens.py). -/
import Derived.Test.YtldhebpkplglcaaGreatDoorMo
import Derived.Test.YtldhebpkplglcaaGreatDoorJLen
namespace Go.Proofs.YtldhebpkplglcaaGreatDoor
open Go.RowKit Go.ChangeShapes Go.WideShapes Go.ChangeAt Go.Joins

theorem bulk_sum {H α : Type} (g : α → Nat) : ∀ (es : List (DataW H)) (l : List α), (∀ (i : Nat) (v : α), l[i]? = some v → ∃ y, es[i]? = some y ∧ g v ≤ Rows.uptoBulk y) → (l.map g).sum ≤ Rows.uptoBulkAll es
  | es, [], _ => Nat.zero_le _
  | [], v :: l, h => by
    obtain ⟨y, h1, _⟩ := h 0 v rfl
    cases h1
  | e :: es, v :: l, h => by
    obtain ⟨y, h1, h2⟩ := h 0 v rfl
    obtain rfl : e = y := by simpa using h1
    have := bulk_sum g es l (fun i u hu => by
      obtain ⟨y, h3, h4⟩ := h (i + 1) u (by simpa using hu)
      exact ⟨y, by simpa using h3, h4⟩)
    rw [List.map_cons, List.sum_cons, Rows.uptoBulkAll]
    omega

section
variable {H : Type} {enc : TypeId × Value → H}
theorem open_valueS (W : World) : ∀ (fuel : Nat) (cs : List Value) (x : DataW H × List MemPlace), DataW.trod enc Tryz.prog W 0 (fun _ => true) true fuel 28 cs = some x → ∃ v : JV, RdV W cs v ∧ (Rows.uptoBulk x.1 ≤ 1048576 → SmallV v ∧ v.obj.length + 1 ≤ 1048576) ∧ ∀ f, sizJ f v + 1 ≤ Rows.uptoBulk x.1 := by
  intro fuel
  induction fuel using Nat.strongRecOn with
  | _ fuel IH =>
    intro cs x h
    obtain ⟨xs, n, rfl, rfl, hl, hxl, hg⟩ := DataW.trod_struct Tryz.underlying28 h
    rw [cellsVal] at hl
    obtain ⟨c0, c1, c2, c3, c4, c5, c6, rfl⟩ := seven_of hl
    obtain ⟨y0, y1, y2, y3, y4, rfl⟩ := five_parts hxl
    have g0 : DataW.trod enc Tryz.prog W 0 (fun _ => true) true n 3 (([c0, c1, c2, c3, c4, c5, c6].drop 0).take (Tryz.prog.cellsOf 3)) = some y0 := hg 0 _ rfl
    rw [cellsInt] at g0
    replace g0 : DataW.trod enc Tryz.prog W 0 (fun _ => true) true n 3 [c0] = some y0 := g0
    have g1 : DataW.trod enc Tryz.prog W 0 (fun _ => true) true n 24 (([c0, c1, c2, c3, c4, c5, c6].drop 1).take (Tryz.prog.cellsOf 24)) = some y1 := hg 1 _ rfl
    rw [cellsDec] at g1
    replace g1 : DataW.trod enc Tryz.prog W 0 (fun _ => true) true n 24 [c1, c2, c3] = some y1 := g1
    have g2 : DataW.trod enc Tryz.prog W 0 (fun _ => true) true n 9 (([c0, c1, c2, c3, c4, c5, c6].drop 4).take (Tryz.prog.cellsOf 9)) = some y2 := hg 2 _ rfl
    rw [cellsStr] at g2
    replace g2 : DataW.trod enc Tryz.prog W 0 (fun _ => true) true n 9 [c4] = some y2 := g2
    have g3 : DataW.trod enc Tryz.prog W 0 (fun _ => true) true n 25 (([c0, c1, c2, c3, c4, c5, c6].drop 5).take (Tryz.prog.cellsOf 25)) = some y3 := hg 3 _ rfl
    rw [cellsVals] at g3
    replace g3 : DataW.trod enc Tryz.prog W 0 (fun _ => true) true n 25 [c5] = some y3 := g3
    have g4 : DataW.trod enc Tryz.prog W 0 (fun _ => true) true n 26 (([c0, c1, c2, c3, c4, c5, c6].drop 6).take (Tryz.prog.cellsOf 26)) = some y4 := hg 4 _ rfl
    rw [cellsFlds] at g4
    replace g4 : DataW.trod enc Tryz.prog W 0 (fun _ => true) true n 26 [c6] = some y4 := g4
    obtain ⟨k, e0, _, hw0⟩ := DataW.trod_int Tryz.underlying3 g0
    obtain ⟨s, e4, ey2, hs⟩ := DataW.trod_string Tryz.underlying9 g2
    obtain ⟨zs, n1, rfl, ey1, hl1, hxl1, hg1⟩ := DataW.trod_struct Tryz.underlying24 g1
    obtain ⟨z0, z1, z2, rfl⟩ := three_parts hxl1
    have d0 : DataW.trod enc Tryz.prog W 0 (fun _ => true) true n1 4 (([c1, c2, c3].drop 0).take (Tryz.prog.cellsOf 4)) = some z0 := hg1 0 _ rfl
    rw [cellsBool] at d0
    replace d0 : DataW.trod enc Tryz.prog W 0 (fun _ => true) true n1 4 [c1] = some z0 := d0
    have d1 : DataW.trod enc Tryz.prog W 0 (fun _ => true) true n1 22 (([c1, c2, c3].drop 1).take (Tryz.prog.cellsOf 22)) = some z1 := hg1 1 _ rfl
    rw [cellsU32s] at d1
    replace d1 : DataW.trod enc Tryz.prog W 0 (fun _ => true) true n1 22 [c2] = some z1 := d1
    have d2 : DataW.trod enc Tryz.prog W 0 (fun _ => true) true n1 3 (([c1, c2, c3].drop 2).take (Tryz.prog.cellsOf 3)) = some z2 := hg1 2 _ rfl
    rw [cellsInt] at d2
    replace d2 : DataW.trod enc Tryz.prog W 0 (fun _ => true) true n1 3 [c3] = some z2 := d2
    obtain ⟨gg, eb, _⟩ := DataW.trod_bool Tryz.underlying4 d0
    obtain ⟨a, cap, ls, rfl, hU, hlc, hcm⟩ := open_u32s d1
    obtain ⟨ee, e3, _, hw3⟩ := DataW.trod_int Tryz.underlying3 d2
    simp only [List.cons.injEq, and_true] at e0 e4 eb e3
    subst e0 e4 eb e3
    clear g0 g1 g2 d0 d1 d2 hg1 hg hl hl1 hxl hxl1
    have hA : ∃ (aa : Option Addr) (arr : List JV) (ac : Nat), c5 = .slice aa arr.length ac ∧ RdA W aa arr ∧ arr.length ≤ ac ∧ ac ≤ maxLen ∧ (Rows.uptoBulk y3.1 ≤ 1048576 → arr.length ≤ 1048576 ∧ ∀ x ∈ arr, SmallV x) ∧ ∀ f, (arr.map fun x => sizJ f x + 1).sum ≤ Rows.uptoBulk y3.1 := by
      rcases DataW.trod_slice Tryz.underlying25 g3 with ⟨e1, _⟩ | ⟨p, len, c, elems, rest, n2, hn2, e1, ey, hb, hlc, hcm, hel, hE, _, _⟩
      · simp only [List.cons.injEq, and_true] at e1
        subst e1
        exact ⟨none, [], 0, rfl, (fun i x hx => by simp at hx), Nat.le_refl _, Nat.zero_le _, fun _ => ⟨Nat.zero_le _, fun x hx => by cases hx⟩, fun f => Nat.zero_le _⟩
      · simp only [List.cons.injEq, and_true] at e1
        subst e1
        rw [cellsVal] at hE
        obtain ⟨arr, hal, harr⟩ := list_choose (P := fun i (y : DataW H × List MemPlace) (v : JV) => ∃ cs, W.cells? 0 (p.add (i * 7)) 7 = some cs ∧ RdV W cs v ∧ (Rows.uptoBulk y.1 ≤ 1048576 → SmallV v) ∧ ∀ f, sizJ f v + 1 ≤ Rows.uptoBulk y.1) elems (fun i y hy => by
          have hi := (List.getElem?_eq_some_iff.1 hy).1
          have := hE i (by omega)
          rw [hy] at this
          obtain ⟨cs, h1, h2⟩ := Option.bind_eq_some_iff.1 this
          obtain ⟨v, v1, v2, v3⟩ := IH n2 (by omega) cs y h2
          exact ⟨v, cs, h1, v1, (fun hk => (v2 hk).1), v3⟩)
        have hlen : len = arr.length := by omega
        subst hlen
        refine ⟨some p, arr, c, rfl, ?_, hlc, hcm, ?_, ?_⟩
        · intro i x hx
          obtain ⟨y, _, cs, h1, h2, _⟩ := harr i x hx
          have hi := (List.getElem?_eq_some_iff.1 hx).1
          have h0s : p.spot = none := by
            obtain ⟨y', _, cs', h1', _⟩ := harr 0 _ (List.getElem?_eq_getElem (by omega))
            exact spot_of (n := 6) h1'
          exact ⟨cs, cells_place h1 h0s, h2⟩
        · intro hk
          rw [ey] at hk
          dsimp only at hk
          have hbs := bulk_slice (es := elems.map (·.1)) (sp := rest.map (·.1))
          refine ⟨by have := hbs.1; simp at this; omega, fun x hx => ?_⟩
          obtain ⟨i, hi⟩ := List.getElem?_of_mem hx
          obtain ⟨y, hy, cs, _, _, h3, _⟩ := harr i x hi
          have := hbs.2 y.1 (List.mem_map_of_mem (List.mem_of_getElem? hy))
          exact h3 (by omega)
        · intro f
          rw [ey]
          dsimp only
          have := bulk_sum (fun x => sizJ f x + 1) (elems.map (·.1)) arr (fun i v hv => by
            obtain ⟨y, hy, cs, _, _, _, h4⟩ := harr i v hv
            exact ⟨y.1, by rw [List.getElem?_map, hy]; rfl, h4 f⟩)
          simp only [Rows.uptoBulk]
          omega
    have hO : ∃ (oa : Option Addr) (obj : List Fld) (oc : Nat), c6 = .slice oa obj.length oc ∧ RdO W oa obj ∧ obj.length ≤ oc ∧ oc ≤ maxLen ∧ (Rows.uptoBulk y4.1 ≤ 1048576 → obj.length + 1 ≤ 1048576 ∧ ∀ p ∈ obj, p.1.length ≤ 1048576 ∧ SmallV p.2) ∧ ∀ f, (obj.map fun x => x.1.length + 1 + sizJ f x.2).sum ≤ Rows.uptoBulk y4.1 := by
      rcases DataW.trod_slice Tryz.underlying26 g4 with ⟨e1, _⟩ | ⟨p, len, c, elems, rest, n2, hn2, e1, ey, hb, hlc, hcm, hel, hE, _, _⟩
      · simp only [List.cons.injEq, and_true] at e1
        subst e1
        exact ⟨none, [], 0, rfl, (fun i x hx => by simp at hx), Nat.le_refl _, Nat.zero_le _, fun _ => ⟨by simp, fun x hx => by cases hx⟩, fun f => Nat.zero_le _⟩
      · simp only [List.cons.injEq, and_true] at e1
        subst e1
        rw [cellsFld] at hE
        obtain ⟨obj, hal, harr⟩ := list_choose (P := fun i (y : DataW H × List MemPlace) (f : Fld) => ∃ cs, W.cells? 0 (p.add (i * 8)) 8 = some (strV f.1 :: cs) ∧ f.1.length ≤ 9223372036854775807 ∧ RdV W cs f.2 ∧ (Rows.uptoBulk y.1 ≤ 1048576 → f.1.length ≤ 1048576 ∧ SmallV f.2) ∧ ∀ g, f.1.length + 1 + sizJ g f.2 ≤ Rows.uptoBulk y.1) elems (fun i y hy => by
          have hi := (List.getElem?_eq_some_iff.1 hy).1
          have := hE i (by omega)
          rw [hy] at this
          obtain ⟨cs, h1, h2⟩ := Option.bind_eq_some_iff.1 this
          obtain ⟨ws, n3, hn3, ew, hlw, hxw, hgw⟩ := DataW.trod_struct Tryz.underlying100 h2
          rw [cellsFld] at hlw
          obtain ⟨w0, w1, rfl⟩ := two_parts hxw
          obtain ⟨q0, q1, q2, q3, q4, q5, q6, q7, rfl⟩ := eight_parts hlw
          have f0 : DataW.trod enc Tryz.prog W 0 (fun _ => true) true n3 9 (([q0, q1, q2, q3, q4, q5, q6, q7].drop 0).take (Tryz.prog.cellsOf 9)) = some w0 := hgw 0 _ rfl
          rw [cellsStr] at f0
          replace f0 : DataW.trod enc Tryz.prog W 0 (fun _ => true) true n3 9 [q0] = some w0 := f0
          have f1 : DataW.trod enc Tryz.prog W 0 (fun _ => true) true n3 28 (([q0, q1, q2, q3, q4, q5, q6, q7].drop 1).take (Tryz.prog.cellsOf 28)) = some w1 := hgw 1 _ rfl
          rw [cellsVal] at f1
          replace f1 : DataW.trod enc Tryz.prog W 0 (fun _ => true) true n3 28 [q1, q2, q3, q4, q5, q6, q7] = some w1 := f1
          obtain ⟨ks, ek, eyk, hks⟩ := DataW.trod_string Tryz.underlying9 f0
          obtain ⟨v, v1, v2, v3⟩ := IH n3 (by omega) _ w1 f1
          simp only [List.cons.injEq, and_true] at ek
          subst ek
          refine ⟨(ks.data.toList, v), [q1, q2, q3, q4, q5, q6, q7], by rw [h1]; rfl, str_len hks, v1, ?_, ?_⟩
          rotate_left
          · intro g
            rw [ew]
            dsimp only
            have := v3 g
            have hk1 := bulk_str eyk
            simp only [Rows.uptoBulk, Rows.uptoBulkAll, List.map_cons, List.map_nil]
            show ks.data.toList.length + 1 + sizJ g v ≤ _
            omega
          intro hk
          rw [ew] at hk
          dsimp only at hk
          have b0 := bulk_agg (parts := [w0, w1].map (·.1)) (d := w0.1) (by simp)
          have b1 := bulk_agg (parts := [w0, w1].map (·.1)) (d := w1.1) (by simp)
          refine ⟨?_, (v2 (by omega)).1⟩
          have b2 := bulk_str eyk
          show ks.data.toList.length ≤ 1048576
          omega)
        have hlen : len = obj.length := by omega
        subst hlen
        refine ⟨some p, obj, c, rfl, ?_, hlc, hcm, ?_, ?_⟩
        · intro i x hx
          obtain ⟨y, _, cs, h1, h2, h3, _⟩ := harr i x hx
          have hi := (List.getElem?_eq_some_iff.1 hx).1
          have h0s : p.spot = none := by
            obtain ⟨y', _, cs', h1', _⟩ := harr 0 _ (List.getElem?_eq_getElem (by omega))
            exact spot_of (n := 7) h1'
          exact ⟨cs, cells_place h1 h0s, h2, h3⟩
        · intro hk
          rw [ey] at hk
          dsimp only at hk
          have hbs := bulk_slice (es := elems.map (·.1)) (sp := rest.map (·.1))
          refine ⟨by have := hbs.1; simp at this; omega, fun x hx => ?_⟩
          obtain ⟨i, hi⟩ := List.getElem?_of_mem hx
          obtain ⟨y, hy, cs, _, _, _, h3, _⟩ := harr i x hi
          have := hbs.2 y.1 (List.mem_map_of_mem (List.mem_of_getElem? hy))
          exact h3 (by omega)
        · intro f
          rw [ey]
          dsimp only
          have := bulk_sum (fun x : Fld => x.1.length + 1 + sizJ f x.2) (elems.map (·.1)) obj (fun i v hv => by
            obtain ⟨y, hy, cs, _, _, _, _, h4⟩ := harr i v hv
            exact ⟨y.1, by rw [List.getElem?_map, hy]; rfl, h4 f⟩)
          simp only [Rows.uptoBulk]
          omega
    obtain ⟨aa, arr, ac, rfl, rA, hac, hacm, bA, nA⟩ := hA
    obtain ⟨oa, obj, oc, rfl, rO, hoc, hocm, bO, nO⟩ := hO
    have hmx : maxLen = 9223372036854775807 := rfl
    refine ⟨.mk k gg ls ee s.data.toList arr obj, PartsV.rd (a := a) (c := cap) (aa := aa) (ac := ac) (oa := oa) (oc := oc) ⟨rfl, i64_of hw0, i64_of hw3, str_len hs, ⟨hac, by omega⟩, ⟨hoc, by omega⟩, ⟨hlc, by omega⟩, hU, rA, rO⟩, fun hk => ?_, fun f => ?_⟩
    rotate_left
    · have h3 := nA (f - 1)
      have h4 := nO (f - 1)
      have h5 := bulk_str ey2
      cases f with
      | zero =>
        have h5 := bulk_str ey2
        dsimp only
        rw [show sizJ 0 (.mk k gg ls ee s.data.toList arr obj) = 1 + s.data.toList.length from rfl]
        simp only [Rows.uptoBulk, Rows.uptoBulkAll, List.map_cons, List.map_nil]
        omega
      | succ f =>
        rw [show f + 1 - 1 = f by omega] at h3 h4
        dsimp only
        rw [show sizJ (f + 1) (.mk k gg ls ee s.data.toList arr obj) = 1 + s.data.toList.length + (arr.map fun x => sizJ f x + 1).sum + (obj.map fun x => x.1.length + 1 + sizJ f x.2).sum from rfl]
        simp only [Rows.uptoBulk, Rows.uptoBulkAll, List.map_cons, List.map_nil]
        omega
    dsimp only at hk
    have b2 := bulk_agg (parts := [y0, y1, y2, y3, y4].map (·.1)) (d := y2.1) (by simp)
    have b3 := bulk_agg (parts := [y0, y1, y2, y3, y4].map (·.1)) (d := y3.1) (by simp)
    have b4 := bulk_agg (parts := [y0, y1, y2, y3, y4].map (·.1)) (d := y4.1) (by simp)
    have cA := bA (by omega)
    have cO := bO (by omega)
    refine ⟨.mk _ cA.1 (Nat.le_of_succ_le cO.1) ?_ cA.2 (fun p hp => (cO.2 p hp).1) (fun p hp => (cO.2 p hp).2), cO.1⟩
    have b5 := bulk_str ey2
    show s.data.toList.length ≤ 1048576
    omega

set_option maxRecDepth 100000 in
theorem open_valueArgS {r : Reach} {b0 : Nat} {W : World} {v : Value} {d : DataW H} {p : List MemPlace} (hv : Value.okWide Tryz.prog W r b0 28 v) (h : DataW.Trod enc Tryz.prog W 0 (fun _ => true) true 28 v d p) :
    ∃ (cs : List Value) (x : JV), v = .agg cs.toArray ∧ RdV W cs x ∧ (Rows.uptoBulk d ≤ 1048576 → SmallV x ∧ sizJ 200 x ≤ 1048576) := by
  obtain ⟨cs, rfl, _⟩ := okWide_struct Tryz.underlying28 hv
  obtain ⟨fuel, hf⟩ := h
  obtain ⟨x, h1, h2, h3⟩ := open_valueS W fuel cs.toList (d, p) hf
  exact ⟨cs.toList, x, by simp, h1, fun hk => ⟨(h2 hk).1, by have := h3 200; dsimp only at this; omega⟩⟩
end

end Go.Proofs.YtldhebpkplglcaaGreatDoor
