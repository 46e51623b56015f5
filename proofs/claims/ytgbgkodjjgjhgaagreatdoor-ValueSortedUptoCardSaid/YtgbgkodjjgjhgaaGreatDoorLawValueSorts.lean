/- ValueSorts: the law, walked. -/
import Derived.Test.YtgbgkodjjgjhgaaGreatDoorLawVBack
import Derived.Test.YtgbgkodjjgjhgaaGreatDoorMy
namespace Go.Proofs.YtgbgkodjjgjhgaaGreatDoor
open Go.RowKit Go.Sort

/-- Rows of cells, whatever values they are. -/
theorem css_of {w : World} {a : Option Addr} : ∀ {l : List JV} {k : Nat}, (∀ (i : Nat) (x : JV), l[i]? = some x → ∃ cs, CellsAt w a ((k + i) * 7) cs ∧ RdV w cs x) →
    ∃ E : List (List Value × JV), E.map (·.2) = l ∧ (∀ e ∈ E, RdV w e.1 e.2) ∧ ∀ (i : Nat) (e : List Value × JV), E[i]? = some e → CellsAt w a ((k + i) * 7) e.1
  | [], _, _ => ⟨[], rfl, (fun e he => by cases he), fun i f h => by simp at h⟩
  | x :: l, k, h => by
    obtain ⟨cs, h1, h3⟩ := h 0 x rfl
    obtain ⟨E, e1, e2, e3⟩ := css_of (k := k + 1) (fun i y hy => by
      have := h (i + 1) y (by simpa using hy)
      rw [show k + 1 + i = k + (i + 1) by omega]
      exact this)
    refine ⟨(cs, x) :: E, by rw [List.map_cons, e1], ?_, ?_⟩
    · intro e he
      rcases List.mem_cons.1 he with rfl | he
      · exact h3
      · exact e2 e he
    · intro i f hf
      cases i with
      | zero =>
        simp at hf
        rw [← hf]
        exact h1
      | succ i =>
        have := e3 i f (by simpa using hf)
        rw [show k + 1 + i = k + (i + 1) by omega] at this
        exact this
theorem css_len : ∀ {E : List (List Value × JV)}, (∀ e ∈ E, e.1.length = 7) → (E.flatMap (·.1)).length = E.length * 7
  | [], _ => rfl
  | f :: E, h => by rw [List.flatMap_cons, List.length_append, css_len (fun e he => h e (by simp [he])), h f (by simp), List.length_cons]; omega
theorem css_at : ∀ (E : List (List Value × JV)) (i c : Nat) (f : List Value × JV), (∀ e ∈ E, e.1.length = 7) → E[i]? = some f → c < 7 → (E.flatMap (·.1))[i * 7 + c]? = f.1[c]?
  | [], i, c, f, _, h, _ => by simp at h
  | g :: E, 0, c, f, hl, h, hc => by
    simp at h
    subst h
    rw [List.flatMap_cons, Nat.zero_mul, Nat.zero_add, List.getElem?_append_left (by rw [hl g (by simp)]; exact hc)]
  | g :: E, i + 1, c, f, hl, h, hc => by
    rw [List.flatMap_cons, List.getElem?_append_right (by rw [hl g (by simp)]; omega), hl g (by simp), show (i + 1) * 7 + c - 7 = i * 7 + c by omega]
    exact css_at E i c f (fun e he => hl e (by simp [he])) (by simpa using h) hc
/-- A row copied cell by cell. -/
theorem css_rda {w W : World} {q : Option Addr} {E : List (List Value × JV)} (hl : ∀ e ∈ E, RdV w e.1 e.2) (h : Row W q (E.flatMap (·.1))) (hb : Below w.heap.size w W) : RdA W q (E.map (·.2)) := by
  have h7 : ∀ e ∈ E, e.1.length = 7 := fun e he => (hl e he).len
  intro i x hx
  rw [List.getElem?_map] at hx
  obtain ⟨e, he, rfl⟩ := Option.map_eq_some_iff.1 hx
  have hem := List.mem_of_getElem? he
  refine ⟨e.1, ?_, (hl e hem).stay hb⟩
  obtain ⟨b, off, e1, _⟩ := h (i * 7 + 0) (e.1[0]'(by rw [h7 e hem]; decide)) (by rw [css_at E i 0 e h7 he (by decide)]; exact List.getElem?_eq_getElem _)
  refine ⟨b, off, e1, fun j v hv => ?_⟩
  have hj : j < 7 := by have := (List.getElem?_eq_some_iff.1 hv).1; rw [h7 e hem] at this; exact this
  obtain ⟨b', off', e2, h2⟩ := h (i * 7 + j) v (by rw [css_at E i j e h7 he hj]; exact hv)
  rw [e1] at e2
  injection e2 with e2
  injection e2 with e3 e4
  rw [e3, e4, Nat.add_assoc]
  exact h2

set_option maxRecDepth 100000 in
set_option maxHeartbeats 16000000 in
theorem law_ValueSorts (l : List JV) (a : Option Addr) (c : Nat) (w : World) (sl : l.length ≤ 1048576 ∧ ∀ x ∈ l, SmallV x) (rl : RdA w a l) (hcap : l.length ≤ c) (hnil : a = none → c = 0) (hT : Tabs w) :
    Calls Tryz.prog 8 #[.slice a l.length c] w fun en w' => en = .returned (.bool true) ∧ Below w.heap.size w w' := by
  have hS := hid fun W (hb : Below w.heap.size w W) => law11_shown W (hT.below hb)
  have hV := hid fun (q : Option Addr) (c' : Nat) (W : World) (hb : Below w.heap.size w W) (r : RdA W q l) => value_Sort l q c' W r sl.1 sl.2 (hT.below hb)
  have hR := hid fun (W : World) (hb : Below w.heap.size w W) => ref11_Sort l a c W (rl.below hb) sl.1 sl.2
  obtain ⟨E, e1, e2, e3⟩ := css_of (k := 0) (fun i x hx => by rw [Nat.zero_add]; exact rl i x hx)
  have h7 : ∀ e ∈ E, e.1.length = 7 := fun e he => (e2 e he).len
  obtain ⟨n, hn⟩ : ∃ n, n = l.length := ⟨_, rfl⟩
  have hnE : E.length = n := by rw [hn, ← e1, List.length_map]
  obtain ⟨FL, hFL⟩ : ∃ FL, FL = E.flatMap (·.1) := ⟨_, rfl⟩
  have hFl : FL.length = n * 7 := by rw [hFL, css_len h7, hnE]
  have hone := hid (show ∀ u ∈ FL, u.oneCell' = true by
    intro u hu
    rw [hFL] at hu
    obtain ⟨f, hf, hu2⟩ := List.mem_flatMap.1 hu
    exact parts_one (e2 f hf) u hu2)
  have hnews := hid (show ∀ (j : Nat) (u : Value), FL[j]? = some u → ∃ b off, a = some ⟨b, off, none⟩ ∧ w.cell? ⟨b, off + j, none⟩ = some u by
    intro j u hj
    have hlt := (List.getElem?_eq_some_iff.1 hj).1
    rw [hFl] at hlt
    obtain ⟨i, cc, hi, hc, rfl⟩ := flat_split7 j hlt
    have hf := List.getElem?_eq_getElem (show i < E.length by omega)
    rw [hFL, css_at E i cc _ h7 hf hc] at hj
    obtain ⟨b, off, e, hcs⟩ := e3 i _ hf
    rw [Nat.zero_add] at hcs
    refine ⟨b, off, e, ?_⟩
    rw [← Nat.add_assoc]
    exact hcs cc u hj)
  have hown := hid (show ∀ (v : Value) (W : World) (base : Nat), W.ownsRow base 28 7 v (0 + n) ([] ++ FL) → Below w.heap.size w W → ∃ q c', v = .slice q n c' ∧ RdA W q l by
    intro v W base ho hb
    rw [Nat.zero_add, List.nil_append] at ho
    obtain ⟨q, c', rfl, hr, _⟩ := owns7_row ho
    rw [hFL] at hr
    have := css_rda e2 hr hb
    rw [e1] at this
    exact ⟨q, c', rfl, this⟩)
  have hLd := hid rl
  have hcap2 := hcap
  have hn20 : n ≤ 1048576 := by rw [hn]; exact sl.1
  rw [← hn] at hcap2
  rw [← hn] at hV hR ⊢
  have hn' := hid hn
  replace hnil := hid hnil
  obtain ⟨R, hRd⟩ : ∃ R, R = sortR l := ⟨_, rfl⟩
  rw [← hRd] at hV hR
  have hR20 : R.1.length ≤ 1048576 := by
    rw [hRd]
    unfold sortR
    split
    · rw [(sortS_perm l).length_eq]; have := hn'.out; omega
    · simp
  obtain ⟨Rl, Re⟩ := R
  clear hFL e1 e2 e3 h7 hnE rl sl hT hn hcap hRd
  obtain ⟨i0, i1, i2, i3, zv, i4, i5⟩ := infoVal
  replace i1 := hid i1
  replace i2 := hid i2
  replace i3 := hid i3
  replace i4 := hid i4
  replace i5 := hid i5
  go_enter Tryz.func8, Tryz.ntmps8
  go_wp2_with fail
  refine (hS.out _ (Below.refl _ _)).mono ?_
  rintro en w1 ⟨rfl, hb1⟩
  have hB1 := hid hb1
  have h0 := hid (World.ownsRow_made (base := w1.heap.size) (e := 28) (size := 7) w1 #[] 0 (Nat.le_refl _) (by unfold maxLen; omega) rfl)
  have hw8 := hid ((Below.refl w1.heap.size w1).alloc (Nat.le_refl _) (.cells #[] 28))
  have hsz8 : Hid (w1.heap.size ≤ (w1.alloc (.cells #[] 28)).heap.size) := hw8.out.size
  have hnews2 := hid (show ∀ (j : Nat) (u : Value), FL[j]? = some u → ∃ ad, a = some ad ∧ (w1.alloc (.cells #[] 28)).cell? (ad.add j) = some u by
    intro j u hj
    obtain ⟨b, off, h1, h2⟩ := hnews.out j u hj
    exact ⟨_, h1, by rw [Addr.add_lit]; exact cell_stay h2 (below_trans hB1.out hw8.out)⟩)
  clear hb1 hS hnews
  go_upto_region 3 with (at_builtin; refine wpList_extendE rfl _ _ _ rfl w1.heap.size _ i0 zv 7 112 Tryz.underlying25 i1.out i4.out i2.out i3.out i5.out (by decide) _ 0 [] rfl h0.out a n _ FL rfl hFl hnil.out hnews2.out hone.out (by unfold maxLen; omega) (by omega) hsz8.out ?_; intro v7 w7 hown7 hb7)
  obtain ⟨q0, c0', rfl, hrO⟩ := hown.out _ _ _ hown7 (below_trans hB1.out (hw8.out.trans hb7))
  have hB7 := hid (below_trans hB1.out (hw8.out.trans hb7))
  have hrO7 := hid hrO
  clear hrO hown7 hb7 hown hnews2 h0 hw8 hsz8 hone hFl hB1 i1 i2 i3 i4 i5
  go_wp2_with fail
  refine (hV.out q0 c0' w7 hB7.out hrO7.out).mono ?_
  rintro en w8 ⟨qa0, ca0, rfl, h1, h2, h3, h4⟩
  have hB8 := hid (below_trans hB7.out h4)
  have hrO8 : Hid (RdA w8 q0 l) := hrO7.out.below h4
  have hrA8 := hid h1
  clear h1 h2 h3 h4 hV hrO7 hB7
  dsimp only at *
  go_wp2_with fail
  refine (hR.out w8 hB8.out).mono ?_
  rintro en W0 ⟨qb0, cb0, rfl, h1, h2, h3, h4⟩
  have hB9 := hid (below_trans hB8.out h4)
  have hrO : Hid (RdA W0 q0 l) := hrO8.out.below h4
  have hrA : Hid (RdA W0 qa0 Rl) := hrA8.out.below h4
  have hrB := hid h1
  have hrL : Hid (RdA W0 a l) := hLd.out.below hB9.out
  clear h1 h2 h3 h4 hR hrO8 hrA8 hB8 hLd
  dsimp only at *
  obtain ⟨m, hm⟩ : ∃ m, m = Rl.length := ⟨_, rfl⟩
  rw [← hm] at hR20 ⊢
  have hm' := hid hm
  clear hm
  have hn := hn'
  have hm := hm'
  clear hn' hm'
  have f1 : ((m : Int) != (m : Int)) = false := by simp
  have f2 : ((Re : Int) != (Re : Int)) = false := by simp
  go_upto_region 8 with fail
  go_loopw [9] (fun vi wr => ∃ i : Nat, i ≤ m ∧ vi = .int .i64 i ∧ Hid (Below W0.heap.size W0 wr)) (fun vi _ => m - (intOf vi).toNat)
  case atStart => exact ⟨0, Nat.zero_le _, rfl, hid (Below.refl _ _)⟩
  case round =>
    obtain ⟨i, hi, rfl, hcur⟩ := hrel
    by_cases hlt : i < m
    · have hlt2 : (i : Int) < (m : Int) := by omega
      have k1 : i < Rl.length := by have := hm.out; omega
      obtain ⟨b1, f1, ka, kc, kaa, kac, koa, koc, rfl, P1, C1⟩ := (hrA.out.below hcur.out).at k1
      obtain ⟨b2, f2, qa, qc, qaa, qac, qoa, qoc, rfl, P2, C2⟩ := (hrB.out.below hcur.out).at k1
      have r1 := P1.rd
      have r2 := P2.rd
      clear P1 P2
      obtain ⟨x, hx⟩ : ∃ x, x = Rl[i] := ⟨_, rfl⟩
      rw [← hx] at C1 C2 r1 r2
      clear hx
      have hO := hid (fun W' (hb : Below wr.heap.size wr W') => (by have h := law11_same x x _ _ W' (r1.stay hb) (r2.stay hb); rw [eqB_true rfl] at h; exact h : Calls Tryz.prog 15 #[.agg (valCs x.kind x.g ka x.ls.length kc x.e x.s kaa x.arr.length kac koa x.obj.length koc).toArray, .agg (valCs x.kind x.g qa x.ls.length qc x.e x.s qaa x.arr.length qac qoa x.obj.length qoc).toArray] W' fun en w' => en = .returned (.bool true) ∧ Below W'.heap.size W' w'))
      unfold Cells7 strV at C1 C2
      unfold valCs strV at hO
      generalize (⟨x.s.toArray⟩ : ByteArray) = xb at *
      obtain ⟨c10, c11, c12, c13, c14, c15, c16⟩ := C1
      obtain ⟨c20, c21, c22, c23, c24, c25, c26⟩ := C2
      clear r1 r2
      go_wp2_with fail
      first | go_region_held3 (fun W' => W'.cell? ⟨b1, f1 + i * 7, none⟩ = some (.int .i64 x.kind) ∧ W'.cell? ⟨b1, f1 + i * 7 + 1, none⟩ = some (.bool x.g) ∧ W'.cell? ⟨b1, f1 + i * 7 + 2, none⟩ = some (.slice ka x.ls.length kc) ∧ W'.cell? ⟨b1, f1 + i * 7 + 3, none⟩ = some (.int .i64 x.e) ∧ W'.cell? ⟨b1, f1 + i * 7 + 4, none⟩ = some (.string xb) ∧ W'.cell? ⟨b1, f1 + i * 7 + 5, none⟩ = some (.slice kaa x.arr.length kac) ∧ W'.cell? ⟨b1, f1 + i * 7 + 6, none⟩ = some (.slice koa x.obj.length koc) ∧ W'.cell? ⟨b2, f2 + i * 7, none⟩ = some (.int .i64 x.kind) ∧ W'.cell? ⟨b2, f2 + i * 7 + 1, none⟩ = some (.bool x.g) ∧ W'.cell? ⟨b2, f2 + i * 7 + 2, none⟩ = some (.slice qa x.ls.length qc) ∧ W'.cell? ⟨b2, f2 + i * 7 + 3, none⟩ = some (.int .i64 x.e) ∧ W'.cell? ⟨b2, f2 + i * 7 + 4, none⟩ = some (.string xb) ∧ W'.cell? ⟨b2, f2 + i * 7 + 5, none⟩ = some (.slice qaa x.arr.length qac) ∧ W'.cell? ⟨b2, f2 + i * 7 + 6, none⟩ = some (.slice qoa x.obj.length qoc) ∧ Below wr.heap.size wr W') (first | (exact ⟨c10, c11, c12, c13, c14, c15, c16, c20, c21, c22, c23, c24, c25, c26, (Below.refl _ _).drew⟩) | (exact keepB14 (by assumption) (by assumption)) | assumption) ((go_at_call 15; (with_reducible refine (hO.out _ ?_).mono ?_); (simp only [*]); rintro e3 w3 ⟨rfl, hb3⟩)) | fail
      all_goals
        rename_i hHeld
        have hH := hid (below_trans hcur.out (hHeld.2.2.2.2.2.2.2.2.2.2.2.2.2.2))
        clear hHeld c10 c11 c12 c13 c14 c15 c16 c20 c21 c22 c23 c24 c25 c26
        go_wp2_with fail
        go_roundw
        case rel => exact ⟨i + 1, by omega, by go_num, hH⟩
        case measure => simp [intOf]; omega
    · obtain rfl : i = m := by omega
      have hlt2 : ¬ ((i : Nat) : Int) < (i : Int) := by omega
      clear hrA hrB
      have hrO2 : Hid (RdA wr q0 l) := hrO.out.below hcur.out
      have hrL2 : Hid (RdA wr a l) := hrL.out.below hcur.out
      have hB10 : Hid (Below w.heap.size w wr) := hB9.out.trans (hcur.out.mono hB9.out.size)
      clear hrO hrL hB9 hcur
      generalize wr = W0 at *
      go_upto_region 13 with fail
      go_loopw [10] (fun vi wr => ∃ i : Nat, i ≤ n ∧ vi = .int .i64 i ∧ Hid (Below W0.heap.size W0 wr)) (fun vi _ => n - (intOf vi).toNat)
      case atStart => exact ⟨0, Nat.zero_le _, rfl, hid (Below.refl _ _)⟩
      case round =>
        obtain ⟨i, hi, rfl, hcur⟩ := hrel
        by_cases hlt : i < n
        · have hlt2 : (i : Int) < (n : Int) := by omega
          have k1 : i < l.length := by have := hn.out; omega
          obtain ⟨b1, f1, ka, kc, kaa, kac, koa, koc, rfl, P1, C1⟩ := (hrO2.out.below hcur.out).at k1
          obtain ⟨b2, f2, qa, qc, qaa, qac, qoa, qoc, rfl, P2, C2⟩ := (hrL2.out.below hcur.out).at k1
          have r1 := P1.rd
          have r2 := P2.rd
          clear P1 P2
          obtain ⟨x, hx⟩ : ∃ x, x = l[i] := ⟨_, rfl⟩
          rw [← hx] at C1 C2 r1 r2
          clear hx
          have hO := hid (fun W' (hb : Below wr.heap.size wr W') => (by have h := law11_same x x _ _ W' (r1.stay hb) (r2.stay hb); rw [eqB_true rfl] at h; exact h : Calls Tryz.prog 15 #[.agg (valCs x.kind x.g ka x.ls.length kc x.e x.s kaa x.arr.length kac koa x.obj.length koc).toArray, .agg (valCs x.kind x.g qa x.ls.length qc x.e x.s qaa x.arr.length qac qoa x.obj.length qoc).toArray] W' fun en w' => en = .returned (.bool true) ∧ Below W'.heap.size W' w'))
          unfold Cells7 strV at C1 C2
          unfold valCs strV at hO
          generalize (⟨x.s.toArray⟩ : ByteArray) = xb at *
          obtain ⟨c10, c11, c12, c13, c14, c15, c16⟩ := C1
          obtain ⟨c20, c21, c22, c23, c24, c25, c26⟩ := C2
          clear r1 r2
          go_wp2_with fail
          first | go_region_held3 (fun W' => W'.cell? ⟨b1, f1 + i * 7, none⟩ = some (.int .i64 x.kind) ∧ W'.cell? ⟨b1, f1 + i * 7 + 1, none⟩ = some (.bool x.g) ∧ W'.cell? ⟨b1, f1 + i * 7 + 2, none⟩ = some (.slice ka x.ls.length kc) ∧ W'.cell? ⟨b1, f1 + i * 7 + 3, none⟩ = some (.int .i64 x.e) ∧ W'.cell? ⟨b1, f1 + i * 7 + 4, none⟩ = some (.string xb) ∧ W'.cell? ⟨b1, f1 + i * 7 + 5, none⟩ = some (.slice kaa x.arr.length kac) ∧ W'.cell? ⟨b1, f1 + i * 7 + 6, none⟩ = some (.slice koa x.obj.length koc) ∧ W'.cell? ⟨b2, f2 + i * 7, none⟩ = some (.int .i64 x.kind) ∧ W'.cell? ⟨b2, f2 + i * 7 + 1, none⟩ = some (.bool x.g) ∧ W'.cell? ⟨b2, f2 + i * 7 + 2, none⟩ = some (.slice qa x.ls.length qc) ∧ W'.cell? ⟨b2, f2 + i * 7 + 3, none⟩ = some (.int .i64 x.e) ∧ W'.cell? ⟨b2, f2 + i * 7 + 4, none⟩ = some (.string xb) ∧ W'.cell? ⟨b2, f2 + i * 7 + 5, none⟩ = some (.slice qaa x.arr.length qac) ∧ W'.cell? ⟨b2, f2 + i * 7 + 6, none⟩ = some (.slice qoa x.obj.length qoc) ∧ Below wr.heap.size wr W') (first | (exact ⟨c10, c11, c12, c13, c14, c15, c16, c20, c21, c22, c23, c24, c25, c26, (Below.refl _ _).drew⟩) | (exact keepB14 (by assumption) (by assumption)) | assumption) ((go_at_call 15; (with_reducible refine (hO.out _ ?_).mono ?_); (simp only [*]); rintro e3 w3 ⟨rfl, hb3⟩)) | fail
          all_goals
            rename_i hHeld
            have hH := hid (below_trans hcur.out (hHeld.2.2.2.2.2.2.2.2.2.2.2.2.2.2))
            clear hHeld c10 c11 c12 c13 c14 c15 c16 c20 c21 c22 c23 c24 c25 c26
            go_wp2_with fail
            go_roundw
            case rel => exact ⟨i + 1, by omega, by go_num, hH⟩
            case measure => simp [intOf]; omega
        · obtain rfl : i = n := by omega
          have hlt2 : ¬ ((i : Nat) : Int) < (i : Int) := by omega
          have hF : Hid (Below w.heap.size w wr) := hB10.out.trans (hcur.out.mono hB10.out.size)
          go_wp2_with fail
          go_ret
          exact ⟨rfl, hF.out⟩

end Go.Proofs.YtgbgkodjjgjhgaaGreatDoor
