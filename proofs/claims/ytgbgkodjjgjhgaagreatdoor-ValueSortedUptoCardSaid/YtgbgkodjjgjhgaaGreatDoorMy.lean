/- Rows of values: their cells in one line; a copy of a row; what a sorted row tells. value.Sort. value.Sort, lorgnetteref11.Sort: are they all values that may be? Then the sorted row. The document's answer: values sorted. lorgnetteref11.Sort. -/
import Derived.Test.YtgbgkodjjgjhgaaGreatDoorMx
import Derived.Test.YtgbgkodjjgjhgaaGreatDoorMu
import Derived.Test.YtgbgkodjjgjhgaaGreatDoorMq
import Derived.Test.YtgbgkodjjgjhgaaGreatDoorMv
namespace Go.Proofs.YtgbgkodjjgjhgaaGreatDoor
open Go.RowKit Go.Sort

section
variable {w0 : World}
theorem vflat_len : ∀ E : List (VE w0), (E.flatMap VE.cs).length = E.length * 7
  | [] => rfl
  | f :: E => by rw [List.flatMap_cons, List.length_append, vflat_len E, f.rd.len, List.length_cons]; omega
theorem vflat_at : ∀ (E : List (VE w0)) (i c : Nat) (f : VE w0), E[i]? = some f → c < 7 → (E.flatMap VE.cs)[i * 7 + c]? = f.cs[c]?
  | [], i, c, f, h, _ => by simp at h
  | g :: E, 0, c, f, h, hc => by
    simp at h
    subst h
    rw [List.flatMap_cons, Nat.zero_mul, Nat.zero_add, List.getElem?_append_left (by rw [g.rd.len]; exact hc)]
  | g :: E, i + 1, c, f, h, hc => by
    rw [List.flatMap_cons, List.getElem?_append_right (by rw [g.rd.len]; omega), g.rd.len, show (i + 1) * 7 + c - 7 = i * 7 + c by omega]
    exact vflat_at E i c f (by simpa using h) hc
theorem vflat_ones (E : List (VE w0)) : ∀ u ∈ E.flatMap VE.cs, u.oneCell' = true := by
  intro u hu
  obtain ⟨f, _, hf⟩ := List.mem_flatMap.1 hu
  exact parts_one f.rd u hf
theorem flat_split7 {n : Nat} (j : Nat) (h : j < n * 7) : ∃ i c, i < n ∧ c < 7 ∧ j = i * 7 + c := ⟨j / 7, j % 7, by omega, by omega, by omega⟩
/-- A row's cells, from what is known of each item. -/
theorem vflat_cells {w : World} {b off : Nat} {E : List (VE w0)} (h : ∀ (i : Nat) (e : VE w0), E[i]? = some e → CellsAt w (some ⟨b, off, none⟩) (i * 7) e.cs) (j : Nat) (u : Value) (hj : (E.flatMap VE.cs)[j]? = some u) : w.cell? ⟨b, off + j, none⟩ = some u := by
  have hlt := (List.getElem?_eq_some_iff.1 hj).1
  rw [vflat_len] at hlt
  obtain ⟨i, cc, hi, hc, rfl⟩ := flat_split7 j hlt
  have hf := List.getElem?_eq_getElem hi
  rw [vflat_at E i cc _ hf hc] at hj
  obtain ⟨b', off', e, hcs⟩ := h i _ hf
  simp only [Option.some.injEq, Addr.mk.injEq] at e
  have := hcs cc u hj
  rw [← e.1, ← e.2.1, Nat.add_assoc] at this
  exact this
theorem infoVal : ∃ i0, Tryz.prog.info? 28 = some i0 ∧ i0.size = 7 ∧ i0.bytes = 112 ∧ ∃ z, i0.zero = some z ∧ z.cells.size = 7 := by
  have h : (Tryz.prog.info? 28).map (fun i => (i.size, i.bytes, i.zero.map (·.cells.size))) = some (7, 112, some 7) := by kernel_rfl
  obtain ⟨i, h1, h2⟩ := Option.map_eq_some_iff.1 h
  simp only [Prod.mk.injEq] at h2
  obtain ⟨z, h3, h4⟩ := Option.map_eq_some_iff.1 h2.2.2
  exact ⟨i, h1, h2.1, h2.2.1, z, h3, h4⟩
theorem ves_of {w : World} {a : Option Addr} : ∀ {l : List JV} {k : Nat}, (∀ (i : Nat) (x : JV), l[i]? = some x → ∃ cs, CellsAt w a ((k + i) * 7) cs ∧ RdV w cs x) → (∀ x ∈ l, mayJ 200 x = true) → (∀ x ∈ l, SmallV x) →
    ∃ E : List (VE w), E.map VE.v = l ∧ ∀ (i : Nat) (e : VE w), E[i]? = some e → CellsAt w a ((k + i) * 7) e.cs
  | [], _, _, _, _ => ⟨[], rfl, fun i f h => by simp at h⟩
  | x :: l, k, h, hm, hs => by
    obtain ⟨cs, h1, h3⟩ := h 0 x rfl
    obtain ⟨E, e1, e3⟩ := ves_of (k := k + 1) (fun i y hy => by
      have := h (i + 1) y (by simpa using hy)
      rw [show k + 1 + i = k + (i + 1) by omega]
      exact this) (fun p hp => hm p (List.mem_cons_of_mem _ hp)) (fun p hp => hs p (List.mem_cons_of_mem _ hp))
    refine ⟨⟨cs, x, h3, hm x (by simp), hs x (by simp)⟩ :: E, by rw [List.map_cons, e1], ?_⟩
    intro i f hf
    cases i with
    | zero =>
      simp at hf
      rw [← hf]
      exact h1
    | succ i =>
      have := e3 i f (by simpa using hf)
      rw [show k + 1 + i = k + (i + 1) by omega] at this
      exact this
theorem rda_none {w : World} {l : List JV} (h : RdA w none l) : l = [] := by
  cases l with
  | nil => rfl
  | cons x l =>
    obtain ⟨cs, ⟨b, off, e, _⟩, _⟩ := h 0 x rfl
    cases e
/-- A sorted row, told as values. -/
theorem HoldV.rda {g off : Nat} {T : List (VT w0)} {W : World} (h : HoldV g off T W) : RdA W (some ⟨g, off, none⟩) (T.map fun p => p.1.v) := by
  intro i x hx
  rw [List.getElem?_map] at hx
  obtain ⟨p, hp, rfl⟩ := Option.map_eq_some_iff.1 hx
  obtain ⟨x0, x1, x2, x3, x4, x5, x6, e⟩ := seven_of (encT_len p)
  have hc := h.cells hp e
  refine ⟨p.1.cs, ⟨g, off, rfl, fun j v hv => ?_⟩, p.1.rd.stay h.2.1⟩
  have hj : j < 7 := by have := (List.getElem?_eq_some_iff.1 hv).1; rw [p.1.rd.len] at this; exact this
  rw [show p.1.cs = [x0, x1, x2, x3, x4, x5, x6] from e] at hv
  match j, hj, hv with
  | 0, _, hv => simp at hv; rw [← hv]; exact hc.1
  | 1, _, hv => simp at hv; rw [← hv]; exact hc.2.1
  | 2, _, hv => simp at hv; rw [← hv]; exact hc.2.2.1
  | 3, _, hv => simp at hv; rw [← hv]; exact hc.2.2.2.1
  | 4, _, hv => simp at hv; rw [← hv]; exact hc.2.2.2.2.1
  | 5, _, hv => simp at hv; rw [← hv]; exact hc.2.2.2.2.2.1
  | 6, _, hv => simp at hv; rw [← hv]; exact hc.2.2.2.2.2.2
theorem withI_get (E : List (VE w0)) (i : Nat) : (withI E)[i]? = (E[i]?).map fun e => (e, i) := by
  unfold withI
  rw [List.getElem?_zipIdx]
  simp
theorem holdsT_of {w : World} {g cap : Nat} {cur : Array Value} {E : List (VE w0)} (h : w.heap[g]? = some (.cells cur 28 (0, 0))) (hcap : E.length ≤ cap) (hsz : cur.size = cap * 7) (ht : cur.toList.take (E.length * 7) = E.flatMap VE.cs) : HoldsK (encT (w0 := w0)) 7 w g 0 (withI E).toArray := by
  have hlen : (withI E).length = E.length := by unfold withI; simp
  intro j hj
  have hj7 : j < E.length * 7 := by rw [size_flatK, List.size_toArray, hlen] at hj; exact hj
  obtain ⟨i, c, hi, hc, rfl⟩ := flat_split7 j hj7
  have hin : i * 7 + c < cur.size := by rw [hsz]; omega
  have e1 : cur[i * 7 + c]? = (E.flatMap VE.cs)[i * 7 + c]? := by
    rw [← ht, List.getElem?_take_of_lt hj7, Array.getElem?_toList]
  have hf := List.getElem?_eq_getElem hi
  rw [vflat_at E i c _ hf hc] at e1
  have hl : c < (E[i].cs).length := by rw [E[i].rd.len]; exact hc
  rw [List.getElem?_eq_getElem hl] at e1
  refine ⟨?_, ?_⟩
  · rw [get_flatK _ _ _ _ (by rw [List.size_toArray, hlen]; exact hj7), show (i * 7 + c) / 7 = i by omega, show (i * 7 + c) % 7 = c by omega]
    have e2 : ((withI E).toArray)[i]! = (E[i], i) := by
      have := withI_get E i
      rw [hf] at this
      simp [this]
    rw [e2]
    have e3 : (encT (E[i], i))[c]! = (E[i].cs)[c] := by show (E[i].cs)[c]! = _; simp [hl]
    rw [e3]
    simp only [World.cell?, h, Nat.zero_add]
    simpa using e1
  · simp [World.frozen?, h]
end

theorem insG_map {α β : Type} {c : β → β → Int} (f : α → β) (x : α) : ∀ l : List α, (insG (fun a b => c (f a) (f b)) x l).map f = insG c (f x) (l.map f)
  | [] => rfl
  | y :: l => by
    simp only [insG, List.map_cons]
    split
    · rfl
    · rw [List.map_cons, insG_map f x l]
theorem sortS_map {α β : Type} {c : β → β → Int} (f : α → β) (l : List α) : (sortS (fun a b => c (f a) (f b)) l).map f = sortS c (l.map f) := by
  have key : ∀ (n : Nat) (l : List α), l.length = n → (sortS (fun a b => c (f a) (f b)) l).map f = sortS c (l.map f) := by
    intro n
    induction n with
    | zero =>
      intro l hl
      obtain rfl := List.length_eq_zero_iff.1 hl
      rfl
    | succ n ih =>
      intro l hl
      have hne : l ≠ [] := by intro e; rw [e] at hl; cases hl
      rw [← List.dropLast_concat_getLast hne, sortS_step, insG_map, ih _ (by simp; omega), List.map_append]
      exact (sortS_step _ _).symm
  exact key _ l rfl
/-- What Sort tells. -/
def sortR (l : List JV) : List JV × Nat := if (∀ x ∈ l, mayJ 200 x = true) then (sortS (orderJ 201) l, 0) else ([], 1)
def OutSo (w : World) (r : List JV × Nat) (e : Ending) (w' : World) : Prop := ∃ (a : Option Addr) (c : Nat), e = .returned (.tuple #[.slice a r.1.length c, .int .i64 r.2]) ∧ RdA w' a r.1 ∧ r.1.length ≤ c ∧ c ≤ 9223372036854775807 ∧ Below w.heap.size w w'

end Go.Proofs.YtgbgkodjjgjhgaaGreatDoor

namespace Go.Proofs.YtgbgkodjjgjhgaaGreatDoor
open Go.RowKit Go.Sort

theorem clone_val {w0 : World} (b off c : Nat) (E : List (VE w0)) (w : World) (hE : ∀ (i : Nat) (e : VE w0), E[i]? = some e → CellsAt w (some ⟨b, off, none⟩) (i * 7) e.cs) (hn : E.length ≤ 1048576) :
    Calls Tryz.prog 37 #[.slice (some ⟨b, off, none⟩) E.length c] w fun e w' => ∃ g cap cur, e = .returned (.slice (some ⟨g, 0, none⟩) E.length cap) ∧ w.heap.size ≤ g ∧
      w'.heap[g]? = some (.cells cur 28 (0, 0)) ∧ E.length ≤ cap ∧ cap ≤ maxLen ∧ cur.size = cap * 7 ∧ cur.toList.take (E.length * 7) = E.flatMap VE.cs ∧ Below w.heap.size w w' := by
  obtain ⟨i0, h1, h2, h3, z, h4, h5⟩ := infoVal
  refine (AnyE.slices_Clone Tryz.laysSlE041_f37 i0 z 7 112 h1 h4 h2 h3 h5 (by decide) Tryz.sizeOf28 b off E.length c (E.flatMap VE.cs) w (vflat_len E) (by unfold maxLen; omega) (by omega) (vflat_cells hE) (vflat_ones E)).mono ?_
  rintro e w' ⟨v', rfl, ⟨_, ho⟩, hne, hb⟩
  rcases ho with ⟨rfl, _⟩ | ⟨g, cap, cur, rfl, hg, hcur, hcap, hm, hsz, ht⟩
  · exact absurd rfl hne
  · exact ⟨g, cap, cur, rfl, hg, hcur, hcap, hm, hsz, ht, hb⟩
theorem clone_val0 (p : Addr) (c : Nat) (w : World) :
    Calls Tryz.prog 37 #[.slice (some p) 0 c] w fun e w' => ∃ (q : Option Addr) (c' : Nat), e = .returned (.slice q 0 c') ∧ c' ≤ 9223372036854775807 ∧ Below w.heap.size w w' := by
  obtain ⟨i0, i1, i2, i3, z, i4, i5⟩ := infoVal
  have h0 := World.ownsRow_made (base := w.heap.size) (e := 28) (size := 7) w #[] 0 (Nat.le_refl _) (by unfold maxLen; omega) rfl
  have hq := fun (W : World) => Lib.run_eql_slice_nil (P := Tryz.prog) W 25 28 (some p) 0 c 0 0 Tryz.underlying25
  have H0 := hid h0
  clear h0
  replace i1 := hid i1
  replace i2 := hid i2
  replace i3 := hid i3
  replace i4 := hid i4
  replace i5 := hid i5
  go_enter Tryz.func37, Tryz.ntmps37
  go_wp2_with (at_builtin; refine wpList_append_own _ rfl _ _ _ rfl w.heap.size _ i0 z 7 112 Tryz.underlying25 i1.out i4.out i2.out i3.out i5.out (by decide) _ 0 [] rfl H0.out p 0 c [] rfl rfl (fun j u h => by simp at h) (fun u h => by cases h) (by unfold maxLen; omega) (by omega) (by simp) ?_; intro v' w' hown hgr _)
  have hB := hid (((Below.refl w.heap.size w).alloc (Nat.le_refl _) (.cells #[] 28)).grown hgr (by simp) (fun k hk => by
    have hk : some w.heap.size = some k := hk
    injection hk with hk
    omega))
  clear hgr
  obtain ⟨_, ho⟩ := hown
  rcases ho with ⟨rfl, _⟩ | ⟨g, cap, cur, rfl, _, _, _, hm, _⟩
  · go_ret
    exact ⟨none, 0, rfl, by omega, hB.out⟩
  · have hm2 := hid (show cap ≤ 9223372036854775807 by unfold maxLen at hm; exact hm)
    clear hm
    go_ret
    exact ⟨some ⟨g, 0, none⟩, cap, rfl, hm2.out, hB.out⟩

/-- The walk at an empty row. -/
theorem stable_none (q : Option Addr) (c : Nat) (f : Value) (w : World) : Calls Tryz.prog 38 #[.slice q 0 c, f] w fun e w' => e = .returned (.tuple #[]) ∧ w' = w := by
  have hI := hid (fun (W : World) => show Calls Tryz.prog 80 #[.slice q 0 c, .int .i64 0, .int .i64 0, f] W fun e w' => e = .returned (.tuple #[]) ∧ w' = W from by
    go_enter Tryz.func80, Tryz.ntmps80
    go_upto_region 1 with fail
    go_loopw [8] (fun v8 wr => v8 = .int .i64 1 ∧ wr = W) (fun _ _ => 0)
    case atStart => exact ⟨rfl, rfl⟩
    case round =>
      obtain ⟨rfl, rfl⟩ := hrel
      go_wp2_with fail
      go_end0
      exact ⟨rfl, rfl⟩)
  have hS := hid (fun (W : World) => show Calls Tryz.prog 60 #[.slice q 0 c, .int .i64 0, f] W fun e w' => e = .returned (.tuple #[]) ∧ w' = W from by
    go_enter Tryz.func60, Tryz.ntmps60
    go_upto_region 2 with fail
    go_loopw [7, 8] (fun v7 v8 wr => v7 = .int .i64 0 ∧ v8 = .int .i64 20 ∧ wr = W) (fun _ _ _ => 0)
    case atStart => exact ⟨rfl, rfl, rfl⟩
    case round =>
      obtain ⟨rfl, rfl, rfl⟩ := hrel
      go_wp2_with fail
      refine (hI.out _).mono ?_
      rintro en w1 ⟨rfl, hw1⟩
      rw [hw1]
      clear hw1 w1
      go_upto_region 7 with fail
      go_loopw [6, 7, 8, 9] (fun v6 _ _ _ w2 => v6 = .int .i64 20 ∧ w2 = wr) (fun _ _ _ _ _ => 0)
      case atStart => exact ⟨rfl, rfl⟩
      case round =>
        obtain ⟨rfl, rfl⟩ := hrel
        go_wp2_with fail
        go_end0
        exact ⟨rfl, rfl⟩)
  go_enter Tryz.func38, Tryz.ntmps38
  go_wp2_with fail
  refine (hS.out _).mono ?_
  rintro en w1 ⟨rfl, hw1⟩
  rw [hw1]
  clear hw1 w1
  go_wp2_with fail
  go_end0
  exact ⟨rfl, rfl⟩

theorem stableFunc_val {w0 : World} (hT : Tabs w0) (gb off cap : Nat) (E : List (VE w0)) (w : World) (hLs : E.length ≤ 1048576) (h : HoldV gb off (withI E) w) :
    Calls Tryz.prog 38 #[.slice (some ⟨gb, off, none⟩) E.length cap, .func (.func 27) #[] #[]] w fun e w' => e = .returned (.tuple #[]) ∧ RdA w' (some ⟨gb, off, none⟩) (sortS (orderJ 201) (E.map VE.v)) ∧ Below w0.heap.size w0 w' := by
  have hC : CmpC w0 27 := fun p q W hb => value_order_n 200 p.1.v q.1.v p.1.cs q.1.cs W p.1.may q.1.may p.1.sm q.1.sm (p.1.rd.stay hb) (q.1.rd.stay hb) (hT.below hb)
  have C := hid ((stable_walk 27 (run_callFunc Tryz.func27 (by kernel_rfl) (by kernel_rfl)) hC gb off cap (withI E) E.length w (by unfold withI; simp) hLs (withI_rise E) h).mono (by
    rintro e w' ⟨k1, T, k2, k3, k4⟩
    have e1 := sortS_of (ord_ve (w0 := w0)) (l := E) (fun _ _ => trivial) k3 k2
    have e2 : T.map (fun p => p.1.v) = sortS (orderJ 201) (E.map VE.v) := by
      rw [← sortS_map VE.v E]
      show _ = (sortS veC E).map VE.v
      rw [← e1, List.map_map]
      rfl
    have k5 := k4.rda
    rw [e2] at k5
    exact ⟨k1, k5, k4.2.1⟩ : ∀ e w', _ → e = Ending.returned (.tuple #[]) ∧ RdA w' (some ⟨gb, off, none⟩) (sortS (orderJ 201) (E.map VE.v)) ∧ Below w0.heap.size w0 w'))
  clear h hC hT
  generalize sortS (orderJ 201) (E.map VE.v) = R at *
  generalize E.length = L at *
  go_enter Tryz.func38, Tryz.ntmps38
  go_wp2_with fail
  refine C.out.mono ?_
  rintro en w1 ⟨rfl, h1, h2⟩
  have h12 := hid (And.intro h1 h2)
  clear h1 h2
  go_wp2_with fail
  go_end0
  exact ⟨rfl, h12.out.1, h12.out.2⟩

/-- Clone, then sort: what comes of a row. -/
theorem clone_row (l : List JV) (a : Option Addr) (c : Nat) (w W : World) (hl : RdA w a l) (hn : l.length ≤ 1048576) (hm : ∀ x ∈ l, mayJ 200 x = true) (sm : ∀ x ∈ l, SmallV x) (hb : Below w.heap.size w W) (hT : Tabs w) :
    Calls Tryz.prog 37 #[.slice a l.length c] W fun e w' => ∃ (q : Option Addr) (c' : Nat), e = .returned (.slice q l.length c') ∧ l.length ≤ c' ∧ c' ≤ 9223372036854775807 ∧ Below w.heap.size w w' ∧
      Calls Tryz.prog 38 #[.slice q l.length c', .func (.func 27) #[] #[]] w' fun e w2 => e = .returned (.tuple #[]) ∧ RdA w2 q (sortS (orderJ 201) l) ∧ Below w.heap.size w w2 := by
  have nilR : ∀ (q : Option Addr) (c' : Nat) (w' : World), Below w.heap.size w w' → Calls Tryz.prog 38 #[.slice q 0 c', .func (.func 27) #[] #[]] w' fun e w2 => e = .returned (.tuple #[]) ∧ RdA w2 q (sortS (orderJ 201) []) ∧ Below w.heap.size w w2 := fun q c' w' hb' =>
    (stable_none q c' _ w').mono (by
      rintro e w2 ⟨rfl, rfl⟩
      exact ⟨rfl, fun i x hx => by simp [sortS, sortI, withI] at hx, hb'⟩)
  cases a with
  | none =>
    obtain rfl := rda_none hl
    refine (AnyE.slices_Clone_nil Tryz.laysSlE041_f37 0 c W).mono ?_
    rintro e w' ⟨rfl, rfl⟩
    exact ⟨none, 0, rfl, Nat.le_refl _, by omega, hb, nilR none 0 _ hb⟩
  | some p =>
    cases hlc : l with
    | nil =>
      refine (clone_val0 p c W).mono ?_
      rintro e w' ⟨q, c', rfl, h1, h2⟩
      exact ⟨q, c', rfl, Nat.zero_le _, h1, below_trans hb h2, nilR q c' w' (below_trans hb h2)⟩
    | cons y l' =>
      rw [← hlc]
      obtain ⟨_, ⟨b, off, e, _⟩, _⟩ := hl 0 y (by rw [hlc]; rfl)
      injection e with e
      subst e
      obtain ⟨E, e1, e2⟩ := ves_of (k := 0) (fun i x hx => by rw [Nat.zero_add]; exact hl i x hx) hm sm
      have e3 : l.length = E.length := by rw [← e1, List.length_map]
      rw [e3]
      refine (clone_val b off c E W (fun i e he => by have := e2 i e he; rw [Nat.zero_add] at this; exact this.below hb) (by omega)).mono ?_
      rintro e w' ⟨g, cap, cur, rfl, hg, hcur, hcap, hmx, hsz, ht, hb'⟩
      have hbw := below_trans hb hb'
      have hH : HoldV g 0 (withI E) w' := ⟨holdsT_of hcur hcap hsz ht, hbw, Nat.le_trans hb.size hg, (Array.getElem?_eq_some_iff.1 hcur).1⟩
      refine ⟨some ⟨g, 0, none⟩, cap, rfl, hcap, by unfold maxLen at hmx; exact hmx, hbw, ?_⟩
      have := stableFunc_val hT g 0 cap E w' (by omega) hH
      rw [e1] at this
      exact this

end Go.Proofs.YtgbgkodjjgjhgaaGreatDoor

namespace Go.Proofs.YtgbgkodjjgjhgaaGreatDoor
open Go.RowKit Go.Sort

theorem sortR_yes {l : List JV} (h : ∀ x ∈ l, mayJ 200 x = true) : sortR l = (sortS (orderJ 201) l, 0) := if_pos h
theorem sortR_no {l : List JV} (h : ¬ ∀ x ∈ l, mayJ 200 x = true) : sortR l = ([], 1) := if_neg h

set_option maxRecDepth 100000 in
set_option maxHeartbeats 6400000 in
theorem value_Sort (l : List JV) (a : Option Addr) (c : Nat) (w : World) (hl : RdA w a l) (hn : l.length ≤ 1048576) (sm : ∀ x ∈ l, SmallV x) (hT : Tabs w) :
    Calls Tryz.prog 21 #[.slice a l.length c] w (OutSo w (sortR l)) := by
  have hM := hid fun (x : JV) (cs : List Value) (W : World) (hb : Below w.heap.size w W) (r : RdV W cs x) => value_May x cs W r (hT.below hb)
  have hCl := hid fun (W : World) (hb : Below w.heap.size w W) (hm : ∀ x ∈ l, mayJ 200 x = true) => clone_row l a c w W hl hn hm sm hb hT
  obtain ⟨n, hnd⟩ : ∃ n, n = l.length := ⟨_, rfl⟩
  have hnB := hid hnd
  rw [← hnd] at hCl hn ⊢
  have hLd := hid hl
  obtain ⟨Q, hQ⟩ : ∃ Q : Ending → World → Prop, Q = OutSo w (sortR l) := ⟨_, rfl⟩
  have hno := hid (show (¬ ∀ x ∈ l, mayJ 200 x = true) → ∀ w', Below w.heap.size w w' → Q (.returned (.tuple #[.slice none 0 0, .int .i64 1])) w' from fun h w' hb => by
    rw [hQ, sortR_no h]
    exact ⟨none, 0, rfl, fun i x hx => by simp at hx, Nat.le_refl _, by omega, hb⟩)
  have hyes := hid (show (∀ x ∈ l, mayJ 200 x = true) → ∀ (q : Option Addr) (c' : Nat) w', n ≤ c' → c' ≤ 9223372036854775807 → RdA w' q (sortS (orderJ 201) l) → Below w.heap.size w w' → Q (.returned (.tuple #[.slice q n c', .int .i64 0])) w' from fun h q c' w' h1 h2 h3 h4 => by
    rw [hQ, sortR_yes h]
    have e : (sortS (orderJ 201) l).length = n := by rw [(sortS_perm l).length_eq, hnd]
    exact ⟨q, c', by rw [show (sortS (orderJ 201) l, 0).1.length = n from e]; rfl, h3, by rw [show (sortS (orderJ 201) l, 0).1.length = n from e]; exact h1, h2, h4⟩)
  rw [← hQ]
  clear hQ hl hT sm hnd
  go_enter Tryz.func21, Tryz.ntmps21
  go_upto_region 2 with fail
  go_loopw [5, 9] (fun _ v9 wr => ∃ k : Nat, k ≤ n ∧ v9 = .int .i64 k ∧ Hid (∀ x ∈ l.take k, mayJ 200 x = true) ∧ Hid (Below w.heap.size w wr)) (fun _ v9 _ => n - (intOf v9).toNat)
  case atStart => exact ⟨0, Nat.zero_le _, rfl, hid (by simp), hid (Below.refl _ _)⟩
  case round =>
    obtain ⟨k, hk, rfl, hA, hb⟩ := hrel
    by_cases hlt : k < n
    · have hlt2 : (k : Int) < (n : Int) := by omega
      have hk1 : k < l.length := by have := hnB.out; omega
      obtain ⟨b, off, a1, c1, aa1, ac1, oa1, oc1, rfl, P1, C1⟩ := (hLd.out.below hb.out).at hk1
      have rd := P1.rd
      clear P1
      unfold Cells7 strV at C1
      obtain ⟨x, hx⟩ : ∃ x, x = l[k] := ⟨_, rfl⟩
      rw [← hx] at C1 rd
      have hM2 := hid (fun W' (hb' : Below wr.heap.size wr W') => hM.out x _ W' (below_trans hb.out hb') (rd.stay hb'))
      unfold valCs strV at hM2
      obtain ⟨C10, C11, C12, C13, C14, C15, C16⟩ := C1
      generalize (⟨x.s.toArray⟩ : ByteArray) = sb at hM2 C14
      have hl1 := cell_lt C10
      obtain ⟨d, hd⟩ : ∃ d, d = mayJ 200 x := ⟨_, rfl⟩
      rw [← hd] at hM2
      have hxd := hid (And.intro hx hd)
      have hst := hid (show l.take (k + 1) = l.take k ++ [x] by rw [List.take_succ_eq_append_getElem hk1, hx])
      clear hx hd rd
      cases d with
      | true =>
        have hA2 : Hid (∀ y ∈ l.take (k + 1), mayJ 200 y = true) := by
          intro y hy
          rw [hst.out] at hy
          rcases List.mem_append.1 hy with h | h
          · exact hA.out y h
          · rw [List.mem_singleton.1 h]; exact hxd.out.2.symm
        clear hA hst hxd hno hyes hCl
        go_wp2_with fail
        refine (hM2.out _ ((Below.refl _ _).alloc (Nat.le_refl _) _)).mono ?_
        rintro en w1 ⟨rfl, hb1⟩
        have hb2 := hid (below_trans hb.out (below_trans ((Below.refl _ _).alloc (Nat.le_refl _) _) hb1))
        clear hb1 C10 C11 C12 C13 C14 C15 C16
        go_wp2_with fail
        go_roundw
        case rel => exact ⟨k + 1, by omega, by go_num, hA2, hb2⟩
        case measure => simp [intOf]; omega
      | false =>
        have hnot : ¬ ∀ y ∈ l, mayJ 200 y = true := by
          intro h
          have := h x (by rw [hxd.out.1]; exact List.getElem_mem hk1)
          rw [← hxd.out.2] at this
          cases this
        have hR := hid (hno.out hnot)
        clear hA hst hxd hno hyes hCl hnot
        go_wp2_with fail
        refine (hM2.out _ ((Below.refl _ _).alloc (Nat.le_refl _) _)).mono ?_
        rintro en w1 ⟨rfl, hb1⟩
        have hb2 := hid (below_trans hb.out (below_trans ((Below.refl _ _).alloc (Nat.le_refl _) _) hb1))
        clear hb1 C10 C11 C12 C13 C14 C15 C16
        go_wp2_with fail
        exact hR.out _ hb2.out
    · obtain rfl : k = n := by omega
      have hlt2 : ¬ (k : Int) < (k : Int) := by omega
      have hall : ∀ x ∈ l, mayJ 200 x = true := by
        have := hA.out
        rw [List.take_of_length_le (by have := hnB.out; omega)] at this
        exact this
      have C := hid (hCl.out wr hb.out hall)
      have hY := hid (hyes.out hall)
      clear hA hall hCl hyes hno hM hLd
      go_wp2_with fail
      refine C.out.mono ?_
      rintro en w1 ⟨q, c', rfl, h1, h2, _, h4⟩
      have hC4 := hid h4
      have h12 := hid (And.intro h1 h2)
      clear h1 h2 h4 C
      go_wp2_with fail
      refine hC4.out.mono ?_
      rintro en w2 ⟨rfl, h5, h6⟩
      have hF := hid (hY.out q c' w2 h12.out.1 h12.out.2 h5 h6)
      clear h5 h6
      go_wp2_with fail
      exact hF.out

end Go.Proofs.YtgbgkodjjgjhgaaGreatDoor

namespace Go.Proofs.YtgbgkodjjgjhgaaGreatDoor
open Go.RowKit Go.Sort

theorem keepB14 {w W' w1 : World} {ga gb o0 o1 o2 o3 o4 o5 o6 o7 o8 o9 o10 o11 o12 o13 : Nat} {x0 x1 x2 x3 x4 x5 x6 x7 x8 x9 x10 x11 x12 x13 : Value} (h : W'.cell? ⟨ga, o0, none⟩ = some x0 ∧ W'.cell? ⟨ga, o1, none⟩ = some x1 ∧ W'.cell? ⟨ga, o2, none⟩ = some x2 ∧ W'.cell? ⟨ga, o3, none⟩ = some x3 ∧ W'.cell? ⟨ga, o4, none⟩ = some x4 ∧ W'.cell? ⟨ga, o5, none⟩ = some x5 ∧ W'.cell? ⟨ga, o6, none⟩ = some x6 ∧ W'.cell? ⟨gb, o7, none⟩ = some x7 ∧ W'.cell? ⟨gb, o8, none⟩ = some x8 ∧ W'.cell? ⟨gb, o9, none⟩ = some x9 ∧ W'.cell? ⟨gb, o10, none⟩ = some x10 ∧ W'.cell? ⟨gb, o11, none⟩ = some x11 ∧ W'.cell? ⟨gb, o12, none⟩ = some x12 ∧ W'.cell? ⟨gb, o13, none⟩ = some x13 ∧ Below w.heap.size w W') (hb : Below W'.heap.size W' w1) :
    w1.cell? ⟨ga, o0, none⟩ = some x0 ∧ w1.cell? ⟨ga, o1, none⟩ = some x1 ∧ w1.cell? ⟨ga, o2, none⟩ = some x2 ∧ w1.cell? ⟨ga, o3, none⟩ = some x3 ∧ w1.cell? ⟨ga, o4, none⟩ = some x4 ∧ w1.cell? ⟨ga, o5, none⟩ = some x5 ∧ w1.cell? ⟨ga, o6, none⟩ = some x6 ∧ w1.cell? ⟨gb, o7, none⟩ = some x7 ∧ w1.cell? ⟨gb, o8, none⟩ = some x8 ∧ w1.cell? ⟨gb, o9, none⟩ = some x9 ∧ w1.cell? ⟨gb, o10, none⟩ = some x10 ∧ w1.cell? ⟨gb, o11, none⟩ = some x11 ∧ w1.cell? ⟨gb, o12, none⟩ = some x12 ∧ w1.cell? ⟨gb, o13, none⟩ = some x13 ∧ Below w.heap.size w w1 := by
  obtain ⟨h0, h1, h2, h3, h4, h5, h6, h7, h8, h9, h10, h11, h12, h13, hz⟩ := h
  exact ⟨cell_stay h0 hb, cell_stay h1 hb, cell_stay h2 hb, cell_stay h3 hb, cell_stay h4 hb, cell_stay h5 hb, cell_stay h6 hb, cell_stay h7 hb, cell_stay h8 hb, cell_stay h9 hb, cell_stay h10 hb, cell_stay h11 hb, cell_stay h12 hb, cell_stay h13 hb, below_trans hz hb⟩

theorem owns7_cap {w : World} {base : Nat} {e : TypeId} {a : Option Addr} {n cap m : Nat} {xs : List Value} (h : w.ownsRow base e 7 (.slice a n cap) m xs) : m ≤ cap ∧ cap ≤ 9223372036854775807 := by
  rcases h.2 with ⟨e1, rfl⟩ | ⟨g, cap', cur, e1, hb, hg, hn, hmx, hs, ht⟩
  · injection e1 with e1 e2 e3; subst e3; simp
  · injection e1 with e1 e2 e3; subst e1 e3; unfold maxLen at hmx; omega
theorem owns7_row {w : World} {base : Nat} {e : TypeId} {v : Value} {n : Nat} {xs : List Value} (h : w.ownsRow base e 7 v n xs) : ∃ a cap, v = .slice a n cap ∧ Row w a xs ∧ xs.length = n * 7 := by
  have hl : xs.length = n * 7 := h.1
  rcases h.2 with ⟨rfl, rfl⟩ | ⟨g, cap, cur, rfl, hb, hg, hn, hm, hs, ht⟩
  · obtain rfl : xs = [] := List.length_eq_zero_iff.1 (by omega)
    exact ⟨none, 0, rfl, Row.nil _ _, rfl⟩
  · refine ⟨_, _, rfl, fun j x hx => ⟨g, 0, rfl, ?_⟩, hl⟩
    have hj : j < n * 7 := by
      have := (List.getElem?_eq_some_iff.1 hx).1; omega
    rw [Nat.zero_add, h.cellAt j hj, hx]
/-- Cells of a row's item. -/
theorem row_item {w0 W : World} {a : Option Addr} {K : List (VE w0)} (h : Row W a (K.flatMap VE.cs)) {i : Nat} {e : VE w0} (he : K[i]? = some e) {x0 x1 x2 x3 x4 x5 x6 : Value} (ex : e.cs = [x0, x1, x2, x3, x4, x5, x6]) :
    ∃ b off, a = some ⟨b, off, none⟩ ∧ W.cell? ⟨b, off + i * 7, none⟩ = some x0 ∧ W.cell? ⟨b, off + i * 7 + 1, none⟩ = some x1 ∧ W.cell? ⟨b, off + i * 7 + 2, none⟩ = some x2 ∧ W.cell? ⟨b, off + i * 7 + 3, none⟩ = some x3 ∧ W.cell? ⟨b, off + i * 7 + 4, none⟩ = some x4 ∧ W.cell? ⟨b, off + i * 7 + 5, none⟩ = some x5 ∧ W.cell? ⟨b, off + i * 7 + 6, none⟩ = some x6 := by
  have g : ∀ c v, c < 7 → e.cs[c]? = some v → ∃ b off, a = some ⟨b, off, none⟩ ∧ W.cell? ⟨b, off + i * 7 + c, none⟩ = some v := by
    intro c v hc hv
    obtain ⟨b, off, e1, h1⟩ := h (i * 7 + c) v (by rw [vflat_at K i c e he hc]; exact hv)
    exact ⟨b, off, e1, by rw [Nat.add_assoc]; exact h1⟩
  rw [ex] at g
  obtain ⟨b, off, rfl, h0⟩ := g 0 x0 (by decide) rfl
  have k : ∀ c v, c < 7 → [x0, x1, x2, x3, x4, x5, x6][c]? = some v → W.cell? ⟨b, off + i * 7 + c, none⟩ = some v := by
    intro c v hc hv
    obtain ⟨b', off', e1, h1⟩ := g c v hc hv
    injection e1 with e1
    injection e1 with e2 e3
    rw [e2, e3]
    exact h1
  exact ⟨b, off, rfl, h0, k 1 _ (by decide) rfl, k 2 _ (by decide) rfl, k 3 _ (by decide) rfl, k 4 _ (by decide) rfl, k 5 _ (by decide) rfl, k 6 _ (by decide) rfl⟩
theorem row_rda {w0 W : World} {a : Option Addr} {K : List (VE w0)} (h : Row W a (K.flatMap VE.cs)) (hb : Below w0.heap.size w0 W) : RdA W a (K.map VE.v) := by
  intro i x hx
  rw [List.getElem?_map] at hx
  obtain ⟨e, he, rfl⟩ := Option.map_eq_some_iff.1 hx
  refine ⟨e.cs, ?_, e.rd.stay hb⟩
  obtain ⟨b, off, e1, _⟩ := h (i * 7 + 0) (e.cs[0]'(by rw [e.rd.len]; decide)) (by rw [vflat_at K i 0 e he (by decide)]; exact List.getElem?_eq_getElem _)
  refine ⟨b, off, e1, fun j v hv => ?_⟩
  have hj : j < 7 := by have := (List.getElem?_eq_some_iff.1 hv).1; rw [e.rd.len] at this; exact this
  obtain ⟨b', off', e2, h2⟩ := h (i * 7 + j) v (by rw [vflat_at K i j e he hj]; exact hv)
  rw [e1] at e2
  injection e2 with e2
  injection e2 with e3 e4
  rw [e3, e4, Nat.add_assoc]
  exact h2
theorem vflat_take {w0 : World} : ∀ (K : List (VE w0)) (k : Nat), (K.take k).flatMap VE.cs = (K.flatMap VE.cs).take (k * 7)
  | [], k => by simp
  | e :: K, 0 => by simp
  | e :: K, k + 1 => by
    rw [List.take_succ_cons, List.flatMap_cons, List.flatMap_cons, vflat_take K k, List.take_append, e.rd.len, List.take_of_length_le (show e.cs.length ≤ (k + 1) * 7 by rw [e.rd.len]; omega), show (k + 1) * 7 - 7 = k * 7 by omega]
theorem vflat_drop {w0 : World} : ∀ (K : List (VE w0)) (k : Nat), (K.drop k).flatMap VE.cs = (K.flatMap VE.cs).drop (k * 7)
  | [], k => by simp
  | e :: K, 0 => by simp
  | e :: K, k + 1 => by
    rw [List.drop_succ_cons, List.flatMap_cons, vflat_drop K k, List.drop_append, e.rd.len, List.drop_of_length_le (show e.cs.length ≤ (k + 1) * 7 by rw [e.rd.len]; omega), show (k + 1) * 7 - 7 = k * 7 by omega, List.nil_append]

set_option maxRecDepth 100000 in
set_option maxHeartbeats 12000000 in
theorem sorted_walk {w0 : World} (a : Option Addr) (oc : Nat) (E : List (VE w0)) (W : World) (hB : Below w0.heap.size w0 W) (hE : ∀ (i : Nat) (e : VE w0), E[i]? = some e → CellsAt W a (i * 7) e.cs) (hol : E.length ≤ 1048576) :
    Calls Tryz.prog 39 #[.slice a E.length oc] W fun en w' => ∃ a' cap, en = .returned (.slice a' E.length cap) ∧ w'.ownsRow W.heap.size 28 7 (.slice a' E.length cap) E.length ((sortS veC E).flatMap VE.cs) ∧ Below W.heap.size W w' := by
  generalize hon : E.length = on at *
  replace hon := hid hon
  have hEs := hid hE
  have hBw := hid hB
  clear hE hB
  obtain ⟨i0, i1, i2, i3, zv, i4, i5⟩ := infoVal
  replace i1 := hid i1
  replace i2 := hid i2
  replace i3 := hid i3
  replace i4 := hid i4
  replace i5 := hid i5
  go_enter Tryz.func39, Tryz.ntmps39
  go_upto_region 3 with fail
  go_loopw [3, 4] (fun v3 v4 wr => ∃ (j : Nat) (a3 : Option Addr) (c3 : Nat), j ≤ on ∧ v3 = .slice a3 j c3 ∧ v4 = .int .i64 j ∧ Hid (wr.ownsRow W.heap.size 28 7 (.slice a3 j c3) j ((sortS veC (E.take j)).flatMap VE.cs)) ∧ Hid (Below W.heap.size W wr)) (fun _ v4 _ => on - (intOf v4).toNat)
  case atStart => exact ⟨0, none, 0, Nat.zero_le _, rfl, rfl, hid (World.ownsRow_nil _ _ _ _), hid (Below.refl _ _)⟩
  case round =>
    obtain ⟨j, a3, c3, hj, rfl, rfl, hown, hb⟩ := hrel
    by_cases hlt : j < on
    · have hlt2 : (j : Int) < (on : Int) := by omega
      have hj1 : j < E.length := by rw [hon.out]; exact hlt
      obtain ⟨y, hyy⟩ : ∃ y, y = E[j] := ⟨_, rfl⟩
      have hyE : E[j]? = some y := by rw [hyy]; exact List.getElem?_eq_getElem hj1
      have htk : Hid (E.take (j + 1) = E.take j ++ [y]) := by show _ = _; rw [List.take_succ_eq_append_getElem hj1, hyy]
      obtain ⟨k1, q1, a1, n1, z1, w1, s1, aa1, an1, ac1, oa1, on1, oc1, ex⟩ := y.rd.seven
      unfold valCs strV at ex
      generalize (⟨s1.toArray⟩ : ByteArray) = sb1 at ex
      obtain ⟨b0, off0, rfl, hcs⟩ := hEs.out j y hyE
      rw [ex] at hcs
      have hyX := hid ex
      have s0 := cell_stay (hcs 0 _ rfl) hb.out
      have s1' := cell_stay (hcs 1 _ rfl) hb.out
      have s2 := cell_stay (hcs 2 _ rfl) hb.out
      have s3 := cell_stay (hcs 3 _ rfl) hb.out
      have s4 := cell_stay (hcs 4 _ rfl) hb.out
      have s5 := cell_stay (hcs 5 _ rfl) hb.out
      have s6 := cell_stay (hcs 6 _ rfl) hb.out
      rw [Nat.add_zero] at s0
      clear hcs hyy hyE ex
      obtain ⟨K, hK⟩ : ∃ K, K = sortS veC (E.take j) := ⟨_, rfl⟩
      have hKl : K.length = j := by rw [hK, (sortS_perm _).length_eq, List.length_take]; omega
      have hKn := hid (show sortS veC (E.take (j + 1)) = insG veC y K by rw [htk.out, sortS_step, hK])
      have hKp := hid (show K.Pairwise fun a b => veC a b ≤ 0 by rw [hK]; exact sortS_le ord_ve (fun _ _ => trivial))
      rw [← hK] at hown
      clear hK htk
      replace hKl := hid hKl
      have hsz : Hid (W.heap.size ≤ wr.heap.size) := hb.out.size
      have hc3 := owns7_cap hown.out
      have hrow : Hid (Row wr a3 (K.flatMap VE.cs)) := by
        obtain ⟨a', cap', e1, hr, _⟩ := owns7_row hown.out
        injection e1 with e1 e2 e3; subst e1; exact hr
      go_upto_block 2 with fail
      go_cut [5] from 7 to 48 (fun v5 w' => ∃ k : Nat, k ≤ j ∧ v5 = .int .i64 k ∧ Hid (insG veC y K = K.take k ++ y :: K.drop k) ∧ Hid (Below wr.heap.size wr w'))
      case first =>
        go_wp2_with fail
        go_loopw [5] (fun v5 w' => ∃ k : Nat, k ≤ j ∧ v5 = .int .i64 k ∧ Hid (∀ (i : Nat) u, k ≤ i → K[i]? = some u → veC y u < 0) ∧ Hid (Below wr.heap.size wr w')) (fun v5 _ => (intOf v5).toNat)
        case atStart => exact ⟨j, Nat.le_refl _, rfl, hid (fun i u hi hy => absurd (List.getElem?_eq_some_iff.1 hy).1 (by have := hKl.out; omega)), hid (Below.refl _ _)⟩
        case round =>
          obtain ⟨k, hk, rfl, hI, hb2⟩ := hrel
          by_cases hk0 : k = 0
          · subst hk0
            have h00 : ¬ (0 : Int) < ((0 : Nat) : Int) := by omega
            have hfin := hid (ins_done ord_ve (l := K) (x := y) (k := 0) trivial (fun _ _ => trivial) hKp.out (Nat.zero_le _) hI.out (Or.inl rfl))
            clear s0 s1' s2 s3 s4 s5 s6
            go_wp2_with fail
            go_quiet (fail)
            all_goals
              go_wp2_with fail
              go_meet
              case rel => exact ⟨0, Nat.zero_le _, rfl, hfin, hid (by first | exact hb2.out | exact below_drewN hb2.out _)⟩
          · have hk1 : k - 1 < K.length := by have := hKl.out; omega
            have hpos : (0 : Int) < (k : Int) := by omega
            have hposN : 0 < k := by omega
            obtain ⟨u, hu⟩ : ∃ u, u = K[k - 1] := ⟨_, rfl⟩
            have hu2 := hid (show K[k - 1]? = some u by rw [hu]; exact List.getElem?_eq_getElem hk1)
            obtain ⟨k2, q2, a2, n2, z2, w2, s2', aa2, an2, ac2, oa2, on2, oc2, ey⟩ := u.rd.seven
            unfold valCs strV at ey
            generalize (⟨s2'.toArray⟩ : ByteArray) = sb2 at ey
            obtain ⟨gb, goff, rfl, d0, d1, d2, d3, d4, d5, d6⟩ := row_item (hrow.out.below hb2.out) hu2.out ey
            have c0 := cell_stay s0 hb2.out
            have c1 := cell_stay s1' hb2.out
            have c2 := cell_stay s2 hb2.out
            have c3 := cell_stay s3 hb2.out
            have c4 := cell_stay s4 hb2.out
            have c5 := cell_stay s5 hb2.out
            have c6 := cell_stay s6 hb2.out
            have hBz := below_trans (hBw.out.trans (hb.out.mono hBw.out.size)) hb2.out
            have hCm := hid (fun W' (hb' : Below wr.heap.size wr W') => ref11_Order 200 y.v u.v y.cs u.cs W' y.may u.may y.sm u.sm (y.rd.stay (below_trans hBz hb')) (u.rd.stay (below_trans hBz hb')))
            rw [hyX.out, ey] at hCm
            obtain ⟨R, hR⟩ : ∃ R, R = orderJ (200 + 1) y.v u.v := ⟨_, rfl⟩
            rw [← hR] at hCm
            have hR2 : Hid (R = veC y u) := hid hR
            have hw1 : IntKind.i64.wrap ((k : Int) - 1) = ((k - 1 : Nat) : Int) := by rw [IntWalk.i64_in _ (by omega)]; omega
            have hk2 : ((k - 1 : Nat) : Int) < (j : Int) := by omega
            have hk3 : k - 1 < j := by omega
            clear s0 s1' s2 s3 s4 s5 s6 hu hk1 hrow ey hR hBz
            by_cases hneg : R < 0
            · have hI2 : Hid (∀ (i : Nat) z, k - 1 ≤ i → K[i]? = some z → veC y z < 0) := by
                intro i z hi hz
                by_cases e : i = k - 1
                · rw [e, hu2.out] at hz
                  injection hz with hz
                  rw [← hz, ← hR2.out]
                  exact hneg
                · exact hI.out i z (by omega) hz
              clear hI hu2 hR2 hKp hKn
              go_wp2_with fail
              first | go_region_held3 (fun W' => W'.cell? ⟨b0, off0 + j * 7, none⟩ = some (.int .i64 k1) ∧ W'.cell? ⟨b0, off0 + j * 7 + 1, none⟩ = some (.bool q1) ∧ W'.cell? ⟨b0, off0 + j * 7 + 2, none⟩ = some (.slice a1 n1 z1) ∧ W'.cell? ⟨b0, off0 + j * 7 + 3, none⟩ = some (.int .i64 w1) ∧ W'.cell? ⟨b0, off0 + j * 7 + 4, none⟩ = some (.string sb1) ∧ W'.cell? ⟨b0, off0 + j * 7 + 5, none⟩ = some (.slice aa1 an1 ac1) ∧ W'.cell? ⟨b0, off0 + j * 7 + 6, none⟩ = some (.slice oa1 on1 oc1) ∧ W'.cell? ⟨gb, goff + (k - 1) * 7, none⟩ = some (.int .i64 k2) ∧ W'.cell? ⟨gb, goff + (k - 1) * 7 + 1, none⟩ = some (.bool q2) ∧ W'.cell? ⟨gb, goff + (k - 1) * 7 + 2, none⟩ = some (.slice a2 n2 z2) ∧ W'.cell? ⟨gb, goff + (k - 1) * 7 + 3, none⟩ = some (.int .i64 w2) ∧ W'.cell? ⟨gb, goff + (k - 1) * 7 + 4, none⟩ = some (.string sb2) ∧ W'.cell? ⟨gb, goff + (k - 1) * 7 + 5, none⟩ = some (.slice aa2 an2 ac2) ∧ W'.cell? ⟨gb, goff + (k - 1) * 7 + 6, none⟩ = some (.slice oa2 on2 oc2) ∧ Below wr.heap.size wr W') (first | (exact ⟨c0, c1, c2, c3, c4, c5, c6, d0, d1, d2, d3, d4, d5, d6, (Below.refl _ _).drew⟩) | (exact keepB14 (by assumption) (by assumption)) | assumption) ((go_at_call 29; (with_reducible refine (hCm.out _ ?_).mono ?_); (simp only [*]); rintro e3 w3 ⟨rfl, hb3⟩)) | fail
              all_goals
                rename_i hHeld
                have hH := hid (below_trans hb2.out (hHeld.2.2.2.2.2.2.2.2.2.2.2.2.2.2))
                clear hHeld c0 c1 c2 c3 c4 c5 c6 d0 d1 d2 d3 d4 d5 d6
                go_wp2_with fail
                go_roundw
                case rel => exact ⟨k - 1, by omega, by go_num, hI2, hH⟩
                case measure => simp [intOf]; omega
            · have hfin := hid (ins_done ord_ve (l := K) (x := y) (k := k) trivial (fun _ _ => trivial) hKp.out (by have := hKl.out; omega) hI.out (Or.inr ⟨u, hu2.out, by rw [← hR2.out]; exact hneg⟩))
              clear hI hu2 hR2 hKp hKn
              go_wp2_with fail
              first | go_region_held3 (fun W' => W'.cell? ⟨b0, off0 + j * 7, none⟩ = some (.int .i64 k1) ∧ W'.cell? ⟨b0, off0 + j * 7 + 1, none⟩ = some (.bool q1) ∧ W'.cell? ⟨b0, off0 + j * 7 + 2, none⟩ = some (.slice a1 n1 z1) ∧ W'.cell? ⟨b0, off0 + j * 7 + 3, none⟩ = some (.int .i64 w1) ∧ W'.cell? ⟨b0, off0 + j * 7 + 4, none⟩ = some (.string sb1) ∧ W'.cell? ⟨b0, off0 + j * 7 + 5, none⟩ = some (.slice aa1 an1 ac1) ∧ W'.cell? ⟨b0, off0 + j * 7 + 6, none⟩ = some (.slice oa1 on1 oc1) ∧ W'.cell? ⟨gb, goff + (k - 1) * 7, none⟩ = some (.int .i64 k2) ∧ W'.cell? ⟨gb, goff + (k - 1) * 7 + 1, none⟩ = some (.bool q2) ∧ W'.cell? ⟨gb, goff + (k - 1) * 7 + 2, none⟩ = some (.slice a2 n2 z2) ∧ W'.cell? ⟨gb, goff + (k - 1) * 7 + 3, none⟩ = some (.int .i64 w2) ∧ W'.cell? ⟨gb, goff + (k - 1) * 7 + 4, none⟩ = some (.string sb2) ∧ W'.cell? ⟨gb, goff + (k - 1) * 7 + 5, none⟩ = some (.slice aa2 an2 ac2) ∧ W'.cell? ⟨gb, goff + (k - 1) * 7 + 6, none⟩ = some (.slice oa2 on2 oc2) ∧ Below wr.heap.size wr W') (first | (exact ⟨c0, c1, c2, c3, c4, c5, c6, d0, d1, d2, d3, d4, d5, d6, (Below.refl _ _).drew⟩) | (exact keepB14 (by assumption) (by assumption)) | assumption) ((go_at_call 29; (with_reducible refine (hCm.out _ ?_).mono ?_); (simp only [*]); rintro e3 w3 ⟨rfl, hb3⟩)) | fail
              all_goals
                rename_i hHeld
                have hH := hid (below_trans hb2.out (hHeld.2.2.2.2.2.2.2.2.2.2.2.2.2.2))
                clear hHeld c0 c1 c2 c3 c4 c5 c6 d0 d1 d2 d3 d4 d5 d6
                go_wp2_with fail
                go_meet
                case rel => exact ⟨k, hk, rfl, hfin, hH⟩
      case rest =>
      obtain ⟨k, hk, rfl, hI, hbc⟩ := hcut
      have HI := hid (show sortS veC (E.take (j + 1)) = K.take k ++ y :: K.drop k by rw [hKn.out, hI.out])
      clear hI hKn hKp
      replace s0 := cell_stay s0 hbc.out
      replace s1' := cell_stay s1' hbc.out
      replace s2 := cell_stay s2 hbc.out
      replace s3 := cell_stay s3 hbc.out
      replace s4 := cell_stay s4 hbc.out
      replace s5 := cell_stay s5 hbc.out
      replace s6 := cell_stay s6 hbc.out
      replace hown := hid (owns_below hown.out hbc.out)
      replace hrow : Hid (Row wc a3 (K.flatMap VE.cs)) := hrow.out.below hbc.out
      replace hb := hid (hb.out.trans (hbc.out.mono hsz.out))
      replace hsz : Hid (W.heap.size ≤ wc.heap.size) := hb.out.size
      clear hbc
      generalize wc = wA at *
      have hshape : (a3 = none ∧ j = 0 ∧ c3 = 0) ∨ ∃ q, a3 = some ⟨q, 0, none⟩ := by
        rcases hown.out.2 with ⟨h, h0⟩ | ⟨q, cap, cur, h, _⟩
        · injection h with h1 h2 h3
          exact Or.inl ⟨h1, h0, h3⟩
        · injection h with h1 h2 h3
          exact Or.inr ⟨q, h1⟩
      go_upto_region 8 with fail
      go_cut [6] from 7 to 48 (fun v6 w' => ∃ (a6 : Option Addr) (c6 : Nat), v6 = .slice a6 k c6 ∧ Hid (w'.ownsRow wA.heap.size 28 7 (.slice a6 k c6) k ((K.take k).flatMap VE.cs)) ∧ Hid (Below wA.heap.size wA w'))
      case first =>
        have h0 := hid (World.ownsRow_made (base := wA.heap.size) (e := 28) (size := 7) wA #[] 0 (Nat.le_refl _) (by unfold maxLen; omega) rfl)
        have hw8 := hid ((Below.refl wA.heap.size wA).alloc (Nat.le_refl _) (.cells #[] 28))
        have hsz8 : Hid (wA.heap.size ≤ (wA.alloc (.cells #[] 28)).heap.size) := hw8.out.size
        have hkl : ((K.take k).flatMap VE.cs).length = k * 7 := by have := hKl.out; rw [vflat_len, List.length_take]; omega
        rcases hshape with ⟨rfl, rfl, rfl⟩ | ⟨q, rfl⟩
        · obtain rfl : k = 0 := by omega
          have h1 := hid (show (wA.alloc (.cells #[] 28)).ownsRow wA.heap.size 28 7 (.slice (some ⟨wA.heap.size, 0, none⟩) 0 0) 0 ((K.take 0).flatMap VE.cs) by simpa using h0.out)
          generalize (K.take 0).flatMap VE.cs = FF at *
          go_wp2_with fail
          go_meet
          case rel => exact ⟨_, _, rfl, h1, hw8⟩
        · have hfin : Hid (∀ (v7 : Value) (w7 : World), w7.ownsRow wA.heap.size 28 7 v7 (0 + k) ([] ++ (K.take k).flatMap VE.cs) → ∃ a6 c6, v7 = .slice a6 k c6 ∧ w7.ownsRow wA.heap.size 28 7 (.slice a6 k c6) k ((K.take k).flatMap VE.cs)) := by
            intro v7 w7 ho
            obtain ⟨a6, c6, rfl, _, _⟩ := owns7_row ho
            rw [Nat.zero_add] at *
            exact ⟨a6, c6, rfl, by simpa using ho⟩
          have hrt := hid (fun (i : Nat) (u : Value) (h : ((K.take k).flatMap VE.cs)[i]? = some u) => row_upto (k := k * 7) (hrow.out.below hw8.out) i u (by rw [← vflat_take]; exact h))
          have hone := hid (vflat_ones (K.take k))
          generalize (K.take k).flatMap VE.cs = FF at *
          go_wp2_with (at_builtin; refine wpList_extendE rfl _ _ _ rfl wA.heap.size _ i0 zv 7 112 Tryz.underlying25 i1.out i4.out i2.out i3.out i5.out (by decide) _ 0 [] rfl h0.out (some ⟨q, 0, none⟩) k _ FF rfl hkl (fun h => by cases h) (fun i u h => hrt.out i u h) hone.out (by unfold maxLen; omega) (by omega) hsz8.out ?_; intro v7 w7 hown7 hb7)
          obtain ⟨a6, c6, rfl, ho⟩ := hfin.out _ _ hown7
          have ho2 := hid ho
          have hb8 := hid (hw8.out.trans hb7)
          go_meet
          case rel => exact ⟨a6, c6, rfl, ho2, hb8⟩
      case rest =>
      obtain ⟨a6, c6, rfl, ho6, hb8⟩ := hcut
      replace s0 := cell_stay s0 hb8.out
      replace s1' := cell_stay s1' hb8.out
      replace s2 := cell_stay s2 hb8.out
      replace s3 := cell_stay s3 hb8.out
      replace s4 := cell_stay s4 hb8.out
      replace s5 := cell_stay s5 hb8.out
      replace s6 := cell_stay s6 hb8.out
      go_upto_region 9 with fail
      go_cut [6] from 7 to 48 (fun v6 w' => ∃ (g6 c6 : Nat), v6 = .slice (some ⟨g6, 0, none⟩) (k + 1) c6 ∧ Hid (w'.ownsRow wA.heap.size 28 7 (.slice (some ⟨g6, 0, none⟩) (k + 1) c6) (k + 1) ((K.take k ++ [y]).flatMap VE.cs)) ∧ Hid (Below wA.heap.size wA w'))
      case first =>
        have hw8 := hid ((Below.refl wc.heap.size wc).alloc (Nat.le_refl _) (.cells #[.int .i64 k1, .bool q1, .slice a1 n1 z1, .int .i64 w1, .string sb1, .slice aa1 an1 ac1, .slice oa1 on1 oc1] 28))
        have ho8 := hid (owns_below ho6.out hw8.out)
        have hsz8 : Hid (wA.heap.size ≤ (wc.alloc (.cells #[.int .i64 k1, .bool q1, .slice a1 n1 z1, .int .i64 w1, .string sb1, .slice aa1 an1 ac1, .slice oa1 on1 oc1] 28)).heap.size) := Nat.le_trans hb8.out.size hw8.out.size
        have hnew : Hid (∀ (i : Nat) (u : Value), ([.int .i64 k1, .bool q1, .slice a1 n1 z1, .int .i64 w1, .string sb1, .slice aa1 an1 ac1, .slice oa1 on1 oc1] : List Value)[i]? = some u → ∃ ad, some (⟨wc.heap.size, 0, none⟩ : Addr) = some ad ∧ (wc.alloc (.cells #[.int .i64 k1, .bool q1, .slice a1 n1 z1, .int .i64 w1, .string sb1, .slice aa1 an1 ac1, .slice oa1 on1 oc1] 28)).cell? (ad.add i) = some u) := by
          intro i u hu
          refine ⟨_, rfl, ?_⟩
          rw [Addr.add_lit]
          have h := blk_new wc (.cells #[.int .i64 k1, .bool q1, .slice a1 n1 z1, .int .i64 w1, .string sb1, .slice aa1 an1 ac1, .slice oa1 on1 oc1] 28)
          simp only [World.cell?, h, Nat.zero_add]
          simpa using hu
        have hfin : Hid (∀ (v7 : Value) (w7 : World), w7.ownsRow wA.heap.size 28 7 v7 (k + 1) ((K.take k).flatMap VE.cs ++ [.int .i64 k1, .bool q1, .slice a1 n1 z1, .int .i64 w1, .string sb1, .slice aa1 an1 ac1, .slice oa1 on1 oc1]) → ∃ g6 c6, v7 = .slice (some ⟨g6, 0, none⟩) (k + 1) c6 ∧ w7.ownsRow wA.heap.size 28 7 (.slice (some ⟨g6, 0, none⟩) (k + 1) c6) (k + 1) ((K.take k ++ [y]).flatMap VE.cs)) := by
          intro v7 w7 ho
          obtain ⟨a6, c6, rfl⟩ := owns_succ ho
          refine ⟨a6, c6, rfl, ?_⟩
          rw [List.flatMap_append, List.flatMap_singleton, hyX.out]
          exact ho
        have hone := hid (show ∀ u ∈ ([.int .i64 k1, .bool q1, .slice a1 n1 z1, .int .i64 w1, .string sb1, .slice aa1 an1 ac1, .slice oa1 on1 oc1] : List Value), u.oneCell' = true by rw [← hyX.out]; exact parts_one y.rd)
        generalize (K.take k).flatMap VE.cs = FF at *
        generalize (K.take k ++ [y]).flatMap VE.cs = FG at *
        go_wp2_with (at_builtin; refine wpList_extendE rfl _ _ _ rfl wA.heap.size _ i0 zv 7 112 Tryz.underlying25 i1.out i4.out i2.out i3.out i5.out (by decide) _ k FF rfl ho8.out (some ⟨wc.heap.size, 0, none⟩) 1 1 [.int .i64 k1, .bool q1, .slice a1 n1 z1, .int .i64 w1, .string sb1, .slice aa1 an1 ac1, .slice oa1 on1 oc1] rfl rfl (fun h => by cases h) hnew.out hone.out (by unfold maxLen; omega) (by omega) hsz8.out ?_; intro v7 w7 hown7 hb7)
        obtain ⟨a7, c7, rfl, ho⟩ := hfin.out _ _ hown7
        have ho2 := hid ho
        have hb9 := hid ((below_trans hb8.out hw8.out).trans hb7)
        go_meet
        case rel => exact ⟨a7, c7, rfl, ho2, hb9⟩
      case rest =>
      obtain ⟨g7, c7, rfl, ho7, hb10⟩ := hcut
      clear ho6 s0 s1' s2 s3 s4 s5 s6 hb8
      have hown' := hid (owns_below hown.out hb10.out)
      have hrow' : Hid (Row wc a3 (K.flatMap VE.cs)) := hrow.out.below hb10.out
      have hb9 : Hid (Below W.heap.size W wc) := hb.out.trans (hb10.out.mono hsz.out)
      have hsz9 : Hid (wA.heap.size ≤ wc.heap.size) := hb10.out.size
      go_upto_region 10 with fail
      have hfin : Hid (∀ (v7 : Value) (w7 : World), w7.ownsRow wA.heap.size 28 7 v7 (k + 1 + (j - k)) ((K.take k ++ [y]).flatMap VE.cs ++ (K.drop k).flatMap VE.cs) → ∃ a6 c6, v7 = .slice a6 (j + 1) c6 ∧ w7.ownsRow W.heap.size 28 7 (.slice a6 (j + 1) c6) (j + 1) ((sortS veC (E.take (j + 1))).flatMap VE.cs)) := by
        intro v7 w7 ho
        rw [show k + 1 + (j - k) = j + 1 by omega] at ho
        obtain ⟨a6, c6, rfl, _, _⟩ := owns7_row ho
        refine ⟨a6, c6, rfl, ?_⟩
        rw [← List.flatMap_append] at ho
        rw [HI.out]
        have ho2 := owns_mono ho hsz.out
        simpa using ho2
      have hkl : ((K.drop k).flatMap VE.cs).length = (j - k) * 7 := by have := hKl.out; rw [vflat_len, List.length_drop]; omega
      have hone := hid (vflat_ones (K.drop k))
      rcases hshape with ⟨rfl, rfl, rfl⟩ | ⟨q, rfl⟩
      · obtain rfl : k = 0 := by omega
        have hK0 : K = [] := List.length_eq_zero_iff.1 hKl.out
        subst hK0
        generalize hFG : ((([] : List (VE w0)).take 0 ++ [y]).flatMap VE.cs) = FG at *
        go_wp2_with (at_builtin; refine wpList_extendE rfl _ _ _ rfl wA.heap.size _ i0 zv 7 112 Tryz.underlying25 i1.out i4.out i2.out i3.out i5.out (by decide) _ (0 + 1) FG rfl ho7.out none 0 0 [] rfl rfl (fun _ => rfl) (fun j u h => by simp at h) (fun u hu => by cases hu) (by unfold maxLen; omega) (by omega) hsz9.out ?_; intro v7 w7 hown7 hb7)
        obtain ⟨a8, c8, rfl, ho⟩ := hfin.out _ _ (by simpa using hown7)
        have ho2 := hid ho
        have hb11 := hid (hb9.out.trans (hb7.mono hsz.out))
        go_wp2_with fail
        go_roundw
        case rel => exact ⟨0 + 1, a8, c8, by omega, rfl, by go_num, ho2, hb11⟩
        case measure => simp [intOf]; omega
      · by_cases hck : c3 = k
        · have hvac : Hid (∀ (i : Nat) (u : Value), ((K.drop k).flatMap VE.cs)[i]? = some u → False) := by
            intro i u h
            have := (List.getElem?_eq_some_iff.1 h).1
            rw [hkl] at this
            omega
          generalize (K.drop k).flatMap VE.cs = FF at *
          generalize (K.take k ++ [y]).flatMap VE.cs = FG at *
          go_wp2_with (at_builtin; refine wpList_extendE rfl _ _ _ rfl wA.heap.size _ i0 zv 7 112 Tryz.underlying25 i1.out i4.out i2.out i3.out i5.out (by decide) _ (k + 1) FG rfl ho7.out _ (j - k) _ FF rfl hkl (fun h => by cases h) (fun i u h => (hvac.out i u h).elim) hone.out (by unfold maxLen; omega) (by omega) hsz9.out ?_; intro v7 w7 hown7 hb7)
          obtain ⟨a8, c8, rfl, ho⟩ := hfin.out _ _ hown7
          have ho2 := hid ho
          have hb11 := hid (hb9.out.trans (hb7.mono hsz.out))
          go_wp2_with fail
          go_roundw
          case rel => exact ⟨j + 1, a8, c8, by omega, rfl, by go_num, ho2, hb11⟩
          case measure => simp [intOf]; omega
        · have hrt := hid (fun s (hs : s = k * 7) (i : Nat) (u : Value) (h : ((K.drop k).flatMap VE.cs)[i]? = some u) => row_from (k := k * 7) (s := s) hrow'.out hs i u (by rw [← vflat_drop]; exact h))
          generalize (K.drop k).flatMap VE.cs = FF at *
          generalize (K.take k ++ [y]).flatMap VE.cs = FG at *
          go_wp2_with (at_builtin; refine wpList_extendE rfl _ _ _ rfl wA.heap.size _ i0 zv 7 112 Tryz.underlying25 i1.out i4.out i2.out i3.out i5.out (by decide) _ (k + 1) FG rfl ho7.out _ (j - k) _ FF rfl hkl (fun h => by cases h) (fun i u h => hrt.out _ (by omega) i u h) hone.out (by unfold maxLen; omega) (by omega) hsz9.out ?_; intro v7 w7 hown7 hb7)
          obtain ⟨a8, c8, rfl, ho⟩ := hfin.out _ _ hown7
          have ho2 := hid ho
          have hb11 := hid (hb9.out.trans (hb7.mono hsz.out))
          go_wp2_with fail
          go_roundw
          case rel => exact ⟨j + 1, a8, c8, by omega, rfl, by go_num, ho2, hb11⟩
          case measure => simp [intOf]; omega
    · obtain rfl : j = on := by omega
      have hlt2 : ¬ ((j : Nat) : Int) < (j : Int) := by omega
      have hfin : Hid (wr.ownsRow W.heap.size 28 7 (.slice a3 j c3) j ((sortS veC E).flatMap VE.cs)) := by
        have := hown.out
        rw [List.take_of_length_le (by rw [hon.out]; exact Nat.le_refl _)] at this
        exact this
      clear hown
      go_wp2_with fail
      go_ret
      exact ⟨a3, c3, rfl, hfin.out, hb.out⟩

/-- What comes of a row that may be: Sorted. -/
theorem ref11_Sorted (l : List JV) (a : Option Addr) (c : Nat) (w W : World) (hl : RdA w a l) (hn : l.length ≤ 1048576) (hm : ∀ x ∈ l, mayJ 200 x = true) (sm : ∀ x ∈ l, SmallV x) (hb : Below w.heap.size w W) :
    Calls Tryz.prog 39 #[.slice a l.length c] W fun e w' => ∃ (q : Option Addr) (c' : Nat), e = .returned (.slice q l.length c') ∧ RdA w' q (sortS (orderJ 201) l) ∧ l.length ≤ c' ∧ c' ≤ 9223372036854775807 ∧ Below w.heap.size w w' := by
  obtain ⟨E, e1, e2⟩ := ves_of (k := 0) (fun i x hx => by rw [Nat.zero_add]; exact hl i x hx) hm sm
  have e3 : l.length = E.length := by rw [← e1, List.length_map]
  rw [e3]
  refine (sorted_walk a c E W hb (fun i e he => by have := e2 i e he; rw [Nat.zero_add] at this; exact this.below hb) (by omega)).mono ?_
  rintro en w' ⟨q, cap, rfl, ho, hb'⟩
  have hbw := below_trans hb hb'
  obtain ⟨q', cap', e4, hr, _⟩ := owns7_row ho
  injection e4 with e4 e5 e6
  subst e4
  have hcp := owns7_cap ho
  have hR := row_rda hr hbw
  rw [show (sortS veC E).map VE.v = sortS (orderJ 201) l by rw [← e1]; exact sortS_map VE.v E] at hR
  exact ⟨q, cap, rfl, hR, hcp.1, hcp.2, hbw⟩

end Go.Proofs.YtgbgkodjjgjhgaaGreatDoor

namespace Go.Proofs.YtgbgkodjjgjhgaaGreatDoor
open Go.RowKit Go.Sort

set_option maxRecDepth 100000 in
set_option maxHeartbeats 6400000 in
theorem ref11_Sort (l : List JV) (a : Option Addr) (c : Nat) (w : World) (hl : RdA w a l) (hn : l.length ≤ 1048576) (sm : ∀ x ∈ l, SmallV x) :
    Calls Tryz.prog 22 #[.slice a l.length c] w (OutSo w (sortR l)) := by
  have hM := hid fun (x : JV) (cs : List Value) (W : World) (hb : Below w.heap.size w W) (r : RdV W cs x) => ref11_May x cs W r
  have hCl := hid fun (W : World) (hb : Below w.heap.size w W) (hm : ∀ x ∈ l, mayJ 200 x = true) => ref11_Sorted l a c w W hl hn hm sm hb
  obtain ⟨n, hnd⟩ : ∃ n, n = l.length := ⟨_, rfl⟩
  have hnB := hid hnd
  rw [← hnd] at hCl hn ⊢
  have hLd := hid hl
  obtain ⟨Q, hQ⟩ : ∃ Q : Ending → World → Prop, Q = OutSo w (sortR l) := ⟨_, rfl⟩
  have hno := hid (show (¬ ∀ x ∈ l, mayJ 200 x = true) → ∀ w', Below w.heap.size w w' → Q (.returned (.tuple #[.slice none 0 0, .int .i64 1])) w' from fun h w' hb => by
    rw [hQ, sortR_no h]
    exact ⟨none, 0, rfl, fun i x hx => by simp at hx, Nat.le_refl _, by omega, hb⟩)
  have hyes := hid (show (∀ x ∈ l, mayJ 200 x = true) → ∀ (q : Option Addr) (c' : Nat) w', n ≤ c' → c' ≤ 9223372036854775807 → RdA w' q (sortS (orderJ 201) l) → Below w.heap.size w w' → Q (.returned (.tuple #[.slice q n c', .int .i64 0])) w' from fun h q c' w' h1 h2 h3 h4 => by
    rw [hQ, sortR_yes h]
    have e : (sortS (orderJ 201) l).length = n := by rw [(sortS_perm l).length_eq, hnd]
    exact ⟨q, c', by rw [show (sortS (orderJ 201) l, 0).1.length = n from e]; rfl, h3, by rw [show (sortS (orderJ 201) l, 0).1.length = n from e]; exact h1, h2, h4⟩)
  rw [← hQ]
  clear hQ hl sm hnd
  go_enter Tryz.func22, Tryz.ntmps22
  go_upto_region 2 with fail
  go_loopw [4] (fun v9 wr => ∃ k : Nat, k ≤ n ∧ v9 = .int .i64 k ∧ Hid (∀ x ∈ l.take k, mayJ 200 x = true) ∧ Hid (Below w.heap.size w wr)) (fun v9 _ => n - (intOf v9).toNat)
  case atStart => exact ⟨0, Nat.zero_le _, rfl, hid (by simp), hid (Below.refl _ _)⟩
  case round =>
    obtain ⟨k, hk, rfl, hA, hb⟩ := hrel
    by_cases hlt : k < n
    · have hlt2 : (k : Int) < (n : Int) := by omega
      have hk1 : k < l.length := by have := hnB.out; omega
      obtain ⟨b, off, a1, c1, aa1, ac1, oa1, oc1, rfl, P1, C1⟩ := (hLd.out.below hb.out).at hk1
      have rd := P1.rd
      clear P1
      unfold Cells7 strV at C1
      obtain ⟨x, hx⟩ : ∃ x, x = l[k] := ⟨_, rfl⟩
      rw [← hx] at C1 rd
      have hM2 := hid (fun W' (hb' : Below wr.heap.size wr W') => hM.out x _ W' (below_trans hb.out hb') (rd.stay hb'))
      unfold valCs strV at hM2
      obtain ⟨C10, C11, C12, C13, C14, C15, C16⟩ := C1
      generalize (⟨x.s.toArray⟩ : ByteArray) = sb at hM2 C14
      have hl1 := cell_lt C10
      obtain ⟨d, hd⟩ : ∃ d, d = mayJ 200 x := ⟨_, rfl⟩
      rw [← hd] at hM2
      have hxd := hid (And.intro hx hd)
      have hst := hid (show l.take (k + 1) = l.take k ++ [x] by rw [List.take_succ_eq_append_getElem hk1, hx])
      clear hx hd rd
      cases d with
      | true =>
        have hA2 : Hid (∀ y ∈ l.take (k + 1), mayJ 200 y = true) := by
          intro y hy
          rw [hst.out] at hy
          rcases List.mem_append.1 hy with h | h
          · exact hA.out y h
          · rw [List.mem_singleton.1 h]; exact hxd.out.2.symm
        clear hA hst hxd hno hyes hCl
        go_wp2_with fail
        refine (hM2.out _ (Below.refl _ _)).mono ?_
        rintro en w1 ⟨rfl, hb1⟩
        have hb2 := hid (below_trans hb.out hb1)
        clear hb1 C10 C11 C12 C13 C14 C15 C16
        go_wp2_with fail
        go_roundw
        case rel => exact ⟨k + 1, by omega, by go_num, hA2, hb2⟩
        case measure => simp [intOf]; omega
      | false =>
        have hnot : ¬ ∀ y ∈ l, mayJ 200 y = true := by
          intro h
          have := h x (by rw [hxd.out.1]; exact List.getElem_mem hk1)
          rw [← hxd.out.2] at this
          cases this
        have hR := hid (hno.out hnot)
        clear hA hst hxd hno hyes hCl hnot
        go_wp2_with fail
        refine (hM2.out _ (Below.refl _ _)).mono ?_
        rintro en w1 ⟨rfl, hb1⟩
        have hb2 := hid (below_trans hb.out hb1)
        clear hb1 C10 C11 C12 C13 C14 C15 C16
        go_wp2_with fail
        exact hR.out _ hb2.out
    · obtain rfl : k = n := by omega
      have hlt2 : ¬ (k : Int) < (k : Int) := by omega
      have hall : ∀ x ∈ l, mayJ 200 x = true := by
        have := hA.out
        rw [List.take_of_length_le (by have := hnB.out; omega)] at this
        exact this
      have C := hid (hCl.out wr hb.out hall)
      have hY := hid (hyes.out hall)
      clear hA hall hCl hyes hno hM hLd
      go_wp2_with fail
      refine C.out.mono ?_
      rintro en w1 ⟨q, c', rfl, h5, h1, h2, h6⟩
      have hF := hid (hY.out q c' w1 h1 h2 h5 h6)
      clear h5 h6 h1 h2 C
      go_wp2_with fail
      first | exact hF.out | (go_ret2; exact hF.out)

end Go.Proofs.YtgbgkodjjgjhgaaGreatDoor
