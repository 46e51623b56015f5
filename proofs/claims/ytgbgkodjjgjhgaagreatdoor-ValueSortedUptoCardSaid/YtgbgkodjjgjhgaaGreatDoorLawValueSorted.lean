/- ValueSorted: the law, walked. -/
import Derived.Test.YtgbgkodjjgjhgaaGreatDoorLawValueSorts
import Derived.Test.YtgbgkodjjgjhgaaGreatDoorLawVOrder
import Derived.Test.YtgbgkodjjgjhgaaGreatDoorMq
namespace Go.Proofs.YtgbgkodjjgjhgaaGreatDoor
open Go.RowKit Go.Sort

theorem rda_at {W : World} {b off : Nat} {L : List JV} (h : RdA W (some ⟨b, off, none⟩) L) {k : Nat} {x : JV} (hx : L[k]? = some x) :
    ∃ a c aa ac oa oc, PartsV W (valCs x.kind x.g a x.ls.length c x.e x.s aa x.arr.length ac oa x.obj.length oc) x a c aa ac oa oc ∧ Cells7 W b (off + k * 7) x.kind x.g a x.ls.length c x.e x.s aa x.arr.length ac oa x.obj.length oc := by
  obtain ⟨hk, e⟩ := List.getElem?_eq_some_iff.1 hx
  obtain ⟨b', off', a, c, aa, ac, oa, oc, e1, P, C⟩ := h.at hk
  injection e1 with e1
  injection e1 with e2 e3
  subst e2 e3
  rw [e] at P C
  exact ⟨a, c, aa, ac, oa, oc, P, C⟩
theorem rda_some {W : World} {q : Option Addr} {L : List JV} (h : RdA W q L) (hk : 0 < L.length) : ∃ b off, q = some ⟨b, off, none⟩ := by
  obtain ⟨b', off', a, c, aa, ac, oa, oc, e1, _⟩ := h.at hk
  exact ⟨b', off', e1⟩
/-- A value under way: its own block, its row of fields. -/
structure OutT (w W : World) (O : Nat) (x0 x1 x2 x3 x4 x5 : Value) (V : Value) (L : List Fld) : Prop where
  blk : W.heap[O]? = some (.cells #[x0, x1, x2, x3, x4, x5, V] 28 (0, 0))
  row : ∃ E : List FE, E.map FE.fld = L ∧ (∀ f ∈ E, RdV w f.cs f.v) ∧ W.ownsRow w.heap.size 53 8 V E.length (E.flatMap FE.enc)
  bel : Below w.heap.size w W
  own : w.heap.size ≤ O
theorem OutT.stay {w W W' : World} {O : Nat} {x0 x1 x2 x3 x4 x5 V : Value} {L : List Fld} (h : OutT w W O x0 x1 x2 x3 x4 x5 V L) (hb : Below W.heap.size W W') : OutT w W' O x0 x1 x2 x3 x4 x5 V L := by
  obtain ⟨h1, ⟨E, e1, e2, e3⟩, h3, h4⟩ := h
  exact ⟨blk_below h1 hb, ⟨E, e1, e2, owns_stayF e3 hb⟩, below_trans h3 hb, h4⟩
theorem OutT.more {w W W2 : World} {O : Nat} {x0 x1 x2 x3 x4 x5 V V' : Value} {L : List Fld} {f : FE} (hf : RdV w f.cs f.v) (h : OutT w W O x0 x1 x2 x3 x4 x5 V L) {E : List FE} (e1 : E.map FE.fld = L) (e2 : ∀ f ∈ E, RdV w f.cs f.v)
    (ho : W2.ownsRow w.heap.size 53 8 V' (E.length + 1) (E.flatMap FE.enc ++ f.enc)) (hb : Below w.heap.size w W2) (hO : W2.heap[O]? = W.heap[O]?) :
    OutT w (W2.setCell ⟨O, 6, none⟩ V') O x0 x1 x2 x3 x4 x5 V' (L ++ [f.fld]) := by
  have hblk : W2.heap[O]? = some (.cells #[x0, x1, x2, x3, x4, x5, V] 28 (0, 0)) := by rw [hO]; exact h.blk
  refine ⟨blk7_set hblk V', ⟨E ++ [f], by rw [List.map_append, e1]; rfl, ?_, ?_⟩, hb.setCell (by exact h.own) _, h.own⟩
  · intro g hg
    rcases List.mem_append.1 hg with hg | hg
    · exact e2 g hg
    · rw [List.mem_singleton.1 hg]; exact hf
  · have := owns_else ho hblk (by decide) 6 V'
    simpa using this
theorem OutT.shut {w W : World} {O : Nat} {x0 x1 x2 x3 x4 x5 V : Value} {L : List Fld} (h : OutT w W O x0 x1 x2 x3 x4 x5 V L) : ∃ (oa : Option Addr) (oc : Nat), V = .slice oa L.length oc ∧ RdO W oa L ∧ L.length ≤ oc ∧ oc ≤ 9223372036854775807 := by
  obtain ⟨_, ⟨E, e1, e2, _, e3⟩, hb, _⟩ := h
  have hlen : E.length = L.length := by rw [← e1]; simp
  rcases e3 with ⟨rfl, h0⟩ | ⟨g, cap, cur, rfl, _, hg, hc, hm, hs, ht⟩
  · have : L = [] := by rw [← e1, List.eq_nil_of_length_eq_zero h0]; rfl
    subst this
    exact ⟨none, 0, rfl, fun i x hx => by simp at hx, Nat.le_refl _, by omega⟩
  · refine ⟨some ⟨g, 0, none⟩, cap, by rw [hlen], ?_, by omega, by simpa [maxLen] using hm⟩
    have hR : RowF E W g cap := ⟨cur, hg, hc, hs, ht⟩
    intro i x hx
    rw [← e1, List.getElem?_map] at hx
    obtain ⟨f, hf, rfl⟩ := Option.map_eq_some_iff.1 hx
    refine ⟨f.cs, ⟨g, 0, rfl, fun j u hu => ?_⟩, f.short, (e2 f (List.mem_of_getElem? hf)).stay hb⟩
    rw [Nat.zero_add]
    exact hR.cell hf hu
theorem turned_small {x : JV} (h : SmallV x) : SmallV (turned x) := by
  cases h
  rename_i h1 h2 h3 h4 h5 h6
  exact .mk _ h1 (by show x.obj.reverse.length ≤ _; rw [List.length_reverse]; exact h2) h3 h4 (fun p hp => h5 p (List.mem_reverse.1 hp)) (fun p hp => h6 p (List.mem_reverse.1 hp))
theorem rev_step {α : Type} {L : List α} {s : Nat} {y : α} (hy : L[s]? = some y) : L.reverse.take (L.length - s) = L.reverse.take (L.length - (s + 1)) ++ [y] := by
  obtain ⟨hs, e⟩ := List.getElem?_eq_some_iff.1 hy
  rw [show L.length - s = L.length - (s + 1) + 1 by omega, List.take_succ_eq_append_getElem (by rw [List.length_reverse]; omega), List.getElem_reverse]
  congr 2
  rw [← e]
  congr 1
  omega

noncomputable def cnt (x : JV) (L : List JV) : Nat := L.countP fun z => eqB z x
theorem cnt_step {x z : JV} {L : List JV} {k : Nat} (hz : L[k]? = some z) : cnt x (L.take (k + 1)) = cnt x (L.take k) + (if eqB z x = true then 1 else 0) := by
  obtain ⟨hk, e⟩ := List.getElem?_eq_some_iff.1 hz
  unfold cnt
  rw [List.take_succ_eq_append_getElem hk, List.countP_append, e, List.countP_singleton]
theorem cnt_perm {x : JV} {L M : List JV} (h : L.Perm M) : cnt x L = cnt x M := h.countP_eq _

set_option maxRecDepth 100000 in
set_option maxHeartbeats 16000000 in
theorem sorted_no (l : List JV) (a : Option Addr) (c : Nat) (w : World) (hno : ¬ ∀ x ∈ l, mayJ 200 x = true) (sl : l.length ≤ 1048576 ∧ ∀ x ∈ l, SmallV x) (rl : RdA w a l) (hT : Tabs w) :
    Calls Tryz.prog 9 #[.slice a l.length c] w fun en w' => en = .returned (.bool true) ∧ Below w.heap.size w w' := by
  have hS := hid fun W (hb : Below w.heap.size w W) => law11_shown W (hT.below hb)
  have hV := hid fun (W : World) (hb : Below w.heap.size w W) => (by have h := value_Sort l a c W (rl.below hb) sl.1 sl.2 (hT.below hb); rw [sortR_no hno] at h; exact h : Calls Tryz.prog 21 #[.slice a l.length c] W (OutSo W ([], 1)))
  generalize l.length = n at *
  clear rl sl hT hno
  go_enter Tryz.func9, Tryz.ntmps9
  go_wp2_with fail
  refine (hS.out _ (Below.refl _ _)).mono ?_
  rintro en w1 ⟨rfl, hb1⟩
  have hB1 := hid hb1
  clear hb1 hS
  go_wp2_with fail
  refine (hV.out _ hB1.out).mono ?_
  rintro en w2 ⟨q, c', rfl, _, _, _, hb2⟩
  have hB2 := hid (below_trans hB1.out hb2)
  clear hb2 hV hB1
  dsimp only [List.length_nil] at *
  go_wp2_with fail
  first | exact ⟨rfl, hB2.out⟩ | (go_ret; exact ⟨rfl, hB2.out⟩)

set_option maxRecDepth 100000 in
set_option maxHeartbeats 32000000 in
theorem sorted_yes (l : List JV) (a : Option Addr) (c : Nat) (w : World) (hall : ∀ x ∈ l, mayJ 200 x = true) (sl : l.length ≤ 1048576 ∧ ∀ x ∈ l, SmallV x ∧ x.obj.length + 1 ≤ 1048576) (rl : RdA w a l) (hT : Tabs w) :
    Calls Tryz.prog 9 #[.slice a l.length c] w fun en w' => en = .returned (.bool true) ∧ Below w.heap.size w w' := by
  obtain ⟨M, hM⟩ : ∃ M, M = sortS (orderJ 201) l := ⟨_, rfl⟩
  have oS : OrdOn (fun x : JV => mayJ 200 x = true) (orderJ 201) := (ord_order 201).mono (fun x h => ⟨200, h⟩)
  have hMp : M.Perm l := by rw [hM]; exact sortS_perm l
  have hMl : M.length = l.length := hMp.length_eq
  have hMm : ∀ x ∈ M, mayJ 200 x = true := fun x hx => hall x (hMp.mem_iff.1 hx)
  have hMs : ∀ x ∈ M, SmallV x ∧ x.obj.length + 1 ≤ 1048576 := fun x hx => sl.2 x (hMp.mem_iff.1 hx)
  have hMM : sortS (orderJ 201) M = M := by rw [hM]; exact sortS_again oS hall
  have hMle := hid (show M.Pairwise fun a b => orderJ 201 a b ≤ 0 by rw [hM]; exact sortS_le oS hall)
  have hR1 : sortR l = (M, 0) := by rw [sortR_yes hall, hM]
  have hR2 : sortR M = (M, 0) := by rw [sortR_yes hMm, hMM]
  have hS := hid fun W (hb : Below w.heap.size w W) => law11_shown W (hT.below hb)
  obtain ⟨n, hn⟩ : ∃ n, n = l.length := ⟨_, rfl⟩
  rw [← hn] at hMl ⊢
  have hV1 := hid fun (W : World) (hb : Below w.heap.size w W) => (by
    have h := value_Sort l a c W (rl.below hb) sl.1 (fun x hx => (sl.2 x hx).1) (hT.below hb)
    rw [hR1, ← hn] at h
    refine h.mono ?_
    rintro e w' ⟨q, c', rfl, h1, h2, h3, h4⟩
    exact ⟨q, c', by show _ = Ending.returned (.tuple #[.slice q n c', .int .i64 0]); rw [← hMl]; rfl, h1, below_trans hb h4⟩ : Calls Tryz.prog 21 #[.slice a n c] W (fun e w' => ∃ (q : Option Addr) (c' : Nat), e = .returned (.tuple #[.slice q n c', .int .i64 0]) ∧ RdA w' q M ∧ Below w.heap.size w w'))
  have hV2 := hid fun (q : Option Addr) (c' : Nat) (W : World) (hb : Below w.heap.size w W) (r : RdA W q M) => (by
    have h := value_Sort M q c' W r (by rw [hMl, hn]; exact sl.1) (fun x hx => (hMs x hx).1) (hT.below hb)
    rw [hR2, hMl] at h
    refine h.mono ?_
    rintro e w' ⟨q, c', rfl, h1, h2, h3, h4⟩
    exact ⟨q, c', by show _ = Ending.returned (.tuple #[.slice q n c', .int .i64 0]); rw [← hMl]; rfl, h1, below_trans hb h4, h4⟩ : Calls Tryz.prog 21 #[.slice q n c'] W (fun e w' => ∃ (q : Option Addr) (c' : Nat), e = .returned (.tuple #[.slice q n c', .int .i64 0]) ∧ RdA w' q M ∧ Below w.heap.size w w' ∧ Below W.heap.size W w'))
  have hn20 : n ≤ 1048576 := by rw [hn]; exact sl.1
  have hnB := hid hn
  have hMlB := hid hMl
  have hLd := hid rl
  have hcount := hid (fun x => cnt_perm (x := x) hMp)
  have hMm2 := hid hMm
  have hMs2 := hid hMs
  have hTb := hid hT
  clear hM oS hMp hMm hMs hMM hR1 hR2 hall sl rl hn hT
  go_enter Tryz.func9, Tryz.ntmps9
  go_wp2_with fail
  refine (hS.out _ (Below.refl _ _)).mono ?_
  rintro en w1 ⟨rfl, hb1⟩
  have hB1 := hid hb1
  clear hb1 hS
  go_wp2_with fail
  refine (hV1.out _ hB1.out).mono ?_
  rintro en w2 ⟨qm, cm, rfl, h1, hb2⟩
  have hB2 := hid hb2
  have hM2 := hid h1
  clear hb2 hV1 hB1 h1 hMl
  have hn1 : ((n : Int) != (n : Int)) = false := by simp
  go_wp2_with fail
  refine (hV2.out qm cm w2 hB2.out hM2.out).mono ?_
  rintro en W0 ⟨qn, cn, rfl, h1, hb2, hb3⟩
  have hB0 := hid hb2
  have hrM := hid (hM2.out.below hb3)
  have hrN := hid h1
  have hrL := hid (hLd.out.below hB0.out)
  have hT0 := hid (hTb.out.below hB0.out)
  clear hb2 hb3 hV2 hB2 h1 hM2 hLd hTb
  go_upto_region 9 with fail
  go_loopw [8, 9, 10, 11, 12, 13, 14, 15, 16] (fun v8 _ _ _ _ _ _ _ _ wr => ∃ i : Nat, i ≤ n ∧ v8 = .int .i64 i ∧ Hid (Below W0.heap.size W0 wr)) (fun v8 _ _ _ _ _ _ _ _ _ => n - (intOf v8).toNat)
  case atStart => exact ⟨0, Nat.zero_le _, rfl, hid (Below.refl _ _)⟩
  case round =>
    obtain ⟨i, hi, rfl, hcur⟩ := hrel
    by_cases hlt : i < n
    · have hlt2 : (i : Int) < (n : Int) := by omega
      obtain ⟨bm, fm, rfl⟩ := rda_some hrM.out (by have := hMlB.out; omega)
      obtain ⟨bl, fl, rfl⟩ := rda_some hrL.out (by have := hnB.out; omega)
      obtain ⟨bn, fn, rfl⟩ := rda_some hrN.out (by have := hMlB.out; omega)
      obtain ⟨x, hx⟩ : ∃ x, M[i]? = some x := ⟨_, List.getElem?_eq_getElem (by have := hMlB.out; omega)⟩
      replace hx := hid hx
      have hxm := hid (hMm2.out x (List.mem_of_getElem? hx.out))
      have hxs := hid (hMs2.out x (List.mem_of_getElem? hx.out))
      -- the counting
      go_upto_block 2 with fail
      go_cut [9, 10, 11] from 58 to 85 (fun v9 v10 _ w' => ∃ A : Nat, v9 = .int .i64 A ∧ v10 = .int .i64 A ∧ A ≤ n ∧ Hid (Below W0.heap.size W0 w'))
      case first =>
        go_wp2_with fail
        go_loopw [9, 10, 11] (fun v9 v10 v11 wr => ∃ k p q : Nat, k ≤ n ∧ p ≤ k ∧ q ≤ k ∧ v9 = .int .i64 p ∧ v10 = .int .i64 q ∧ v11 = .int .i64 k ∧ Hid (p = cnt x (M.take k)) ∧ Hid (q = cnt x (l.take k)) ∧ Hid (Below W0.heap.size W0 wr)) (fun _ _ v11 _ => n - (intOf v11).toNat)
        case atStart => exact ⟨0, 0, 0, Nat.zero_le _, Nat.le_refl _, Nat.le_refl _, rfl, rfl, rfl, hid (by simp [cnt]), hid (by simp [cnt]), hcur⟩
        case round =>
          clear hcur
          obtain ⟨k, p, q, hk, hp, hq, rfl, rfl, rfl, hpc, hqc, hcur⟩ := hrel
          by_cases hlt3 : k < n
          · have hlt4 : (k : Int) < (n : Int) := by omega
            obtain ⟨y, hy⟩ : ∃ y, M[k]? = some y := ⟨_, List.getElem?_eq_getElem (by have := hMlB.out; omega)⟩
            obtain ⟨z, hz⟩ : ∃ z, l[k]? = some z := ⟨_, List.getElem?_eq_getElem (by have := hnB.out; omega)⟩
            have hs1 := hid (cnt_step (x := x) hy)
            have hs2 := hid (cnt_step (x := x) hz)
            replace hy := hid hy
            replace hz := hid hz
            obtain ⟨d1, hd1⟩ : ∃ d1, d1 = eqB y x := ⟨_, rfl⟩
            obtain ⟨d2, hd2⟩ : ∃ d2, d2 = eqB z x := ⟨_, rfl⟩
            rw [← hd1] at hs1
            rw [← hd2] at hs2
            replace hd1 := hid hd1
            replace hd2 := hid hd2
            go_upto_region 16 with fail
            go_cut [72] from 64 to 72 (fun v72 w' => v72 = .bool d1 ∧ Hid (Below W0.heap.size W0 w'))
            case first =>
              obtain ⟨ka, kc, kaa, kac, koa, koc, kP, kC⟩ := rda_at (hrM.out.below hcur.out) hy.out
              have kr := kP.rd
              unfold Cells7 strV at kC
              obtain ⟨c0, c1, c2, c3, c4, c5, c6⟩ := kC
              obtain ⟨qa, qc, qaa, qac, qoa, qoc, qP, qC⟩ := rda_at (hrM.out.below hcur.out) hx.out
              have qr := qP.rd
              unfold Cells7 strV at qC
              obtain ⟨d0, d1, d2, d3, d4, d5, d6⟩ := qC
              have hO := hid (fun W' (hb : Below wr.heap.size wr W') => law11_same y x _ _ W' (kr.stay hb) (qr.stay hb))
              rw [← hd1.out] at hO
              unfold valCs strV at hO
              generalize (⟨y.s.toArray⟩ : ByteArray) = kb at hO c4
              generalize (⟨x.s.toArray⟩ : ByteArray) = qb at hO d4
              clear kP qP kr qr
              go_wp2_with fail
              first | go_region_held3 (fun W' => W'.cell? ⟨bm, fm + k * 7, none⟩ = some (.int .i64 y.kind) ∧ W'.cell? ⟨bm, fm + k * 7 + 1, none⟩ = some (.bool y.g) ∧ W'.cell? ⟨bm, fm + k * 7 + 2, none⟩ = some (.slice ka y.ls.length kc) ∧ W'.cell? ⟨bm, fm + k * 7 + 3, none⟩ = some (.int .i64 y.e) ∧ W'.cell? ⟨bm, fm + k * 7 + 4, none⟩ = some (.string kb) ∧ W'.cell? ⟨bm, fm + k * 7 + 5, none⟩ = some (.slice kaa y.arr.length kac) ∧ W'.cell? ⟨bm, fm + k * 7 + 6, none⟩ = some (.slice koa y.obj.length koc) ∧ W'.cell? ⟨bm, fm + i * 7, none⟩ = some (.int .i64 x.kind) ∧ W'.cell? ⟨bm, fm + i * 7 + 1, none⟩ = some (.bool x.g) ∧ W'.cell? ⟨bm, fm + i * 7 + 2, none⟩ = some (.slice qa x.ls.length qc) ∧ W'.cell? ⟨bm, fm + i * 7 + 3, none⟩ = some (.int .i64 x.e) ∧ W'.cell? ⟨bm, fm + i * 7 + 4, none⟩ = some (.string qb) ∧ W'.cell? ⟨bm, fm + i * 7 + 5, none⟩ = some (.slice qaa x.arr.length qac) ∧ W'.cell? ⟨bm, fm + i * 7 + 6, none⟩ = some (.slice qoa x.obj.length qoc) ∧ Below wr.heap.size wr W') (first | (exact ⟨c0, c1, c2, c3, c4, c5, c6, d0, d1, d2, d3, d4, d5, d6, (Below.refl _ _).drew⟩) | (exact keepB14 (by assumption) (by assumption)) | assumption) ((go_at_call 15; (with_reducible refine (hO.out _ ?_).mono ?_); (simp only [*]); rintro e3 w3 ⟨rfl, hb3⟩)) | fail
              all_goals
                rename_i hHeld
                have hbz := hid (hHeld.2.2.2.2.2.2.2.2.2.2.2.2.2.2)
                clear hHeld
                have hH := hid (below_trans hcur.out hbz.out)
                clear hbz c0 c1 c2 c3 c4 c5 c6 d0 d1 d2 d3 d4 d5 d6
                go_wp2_with fail
                go_meet
                case rel => exact ⟨rfl, hH⟩
            case rest =>
            clear hcur
            obtain ⟨rfl, hcur⟩ := hcut
            go_upto_if 72 with fail
            go_cut [9] from 73 to 74 (fun v9 w' => ∃ p2 : Nat, p2 ≤ k + 1 ∧ v9 = .int .i64 p2 ∧ Hid (p2 = cnt x (M.take (k + 1))) ∧ Hid (Below W0.heap.size W0 w'))
            case first =>
              cases d1 with
              | true =>
                have hpp : Hid (p + 1 = cnt x (M.take (k + 1))) := by have h1 := hs1.out; rw [if_pos rfl] at h1; have h2 := hpc.out; show _ = _; omega
                clear hs1 hs2 hpc hqc hd1 hd2
                go_wp2_with fail
                go_meet
                case rel => exact ⟨p + 1, by omega, by go_num, hpp, hcur⟩
              | false =>
                have hpp : Hid (p = cnt x (M.take (k + 1))) := by have h1 := hs1.out; rw [if_neg (by simp)] at h1; have h2 := hpc.out; show _ = _; omega
                clear hs1 hs2 hpc hqc hd1 hd2
                go_wp2_with fail
                go_meet
                case rel => exact ⟨p, by omega, rfl, hpp, hcur⟩
            case rest =>
            clear hcur hpc hp hs1 hd1
            obtain ⟨p2, hp2, rfl, hpc, hcur⟩ := hcut
            go_upto_region 18 with fail
            go_cut [83] from 75 to 83 (fun v83 w' => v83 = .bool d2 ∧ Hid (Below W0.heap.size W0 w'))
            case first =>
              obtain ⟨ka, kc, kaa, kac, koa, koc, kP, kC⟩ := rda_at (hrL.out.below hcur.out) hz.out
              have kr := kP.rd
              unfold Cells7 strV at kC
              obtain ⟨c0, c1, c2, c3, c4, c5, c6⟩ := kC
              obtain ⟨qa, qc, qaa, qac, qoa, qoc, qP, qC⟩ := rda_at (hrM.out.below hcur.out) hx.out
              have qr := qP.rd
              unfold Cells7 strV at qC
              obtain ⟨d0, d1, d2, d3, d4, d5, d6⟩ := qC
              have hO := hid (fun W' (hb : Below wc.heap.size wc W') => law11_same z x _ _ W' (kr.stay hb) (qr.stay hb))
              rw [← hd2.out] at hO
              unfold valCs strV at hO
              generalize (⟨z.s.toArray⟩ : ByteArray) = kb at hO c4
              generalize (⟨x.s.toArray⟩ : ByteArray) = qb at hO d4
              clear kP qP kr qr
              go_wp2_with fail
              first | go_region_held3 (fun W' => W'.cell? ⟨bl, fl + k * 7, none⟩ = some (.int .i64 z.kind) ∧ W'.cell? ⟨bl, fl + k * 7 + 1, none⟩ = some (.bool z.g) ∧ W'.cell? ⟨bl, fl + k * 7 + 2, none⟩ = some (.slice ka z.ls.length kc) ∧ W'.cell? ⟨bl, fl + k * 7 + 3, none⟩ = some (.int .i64 z.e) ∧ W'.cell? ⟨bl, fl + k * 7 + 4, none⟩ = some (.string kb) ∧ W'.cell? ⟨bl, fl + k * 7 + 5, none⟩ = some (.slice kaa z.arr.length kac) ∧ W'.cell? ⟨bl, fl + k * 7 + 6, none⟩ = some (.slice koa z.obj.length koc) ∧ W'.cell? ⟨bm, fm + i * 7, none⟩ = some (.int .i64 x.kind) ∧ W'.cell? ⟨bm, fm + i * 7 + 1, none⟩ = some (.bool x.g) ∧ W'.cell? ⟨bm, fm + i * 7 + 2, none⟩ = some (.slice qa x.ls.length qc) ∧ W'.cell? ⟨bm, fm + i * 7 + 3, none⟩ = some (.int .i64 x.e) ∧ W'.cell? ⟨bm, fm + i * 7 + 4, none⟩ = some (.string qb) ∧ W'.cell? ⟨bm, fm + i * 7 + 5, none⟩ = some (.slice qaa x.arr.length qac) ∧ W'.cell? ⟨bm, fm + i * 7 + 6, none⟩ = some (.slice qoa x.obj.length qoc) ∧ Below wc.heap.size wc W') (first | (exact ⟨c0, c1, c2, c3, c4, c5, c6, d0, d1, d2, d3, d4, d5, d6, (Below.refl _ _).drew⟩) | (exact keepB14 (by assumption) (by assumption)) | assumption) ((go_at_call 15; (with_reducible refine (hO.out _ ?_).mono ?_); (simp only [*]); rintro e3 w3 ⟨rfl, hb3⟩)) | fail
              all_goals
                rename_i hHeld
                have hbz := hid (hHeld.2.2.2.2.2.2.2.2.2.2.2.2.2.2)
                clear hHeld
                have hH := hid (below_trans hcur.out hbz.out)
                clear hbz c0 c1 c2 c3 c4 c5 c6 d0 d1 d2 d3 d4 d5 d6
                go_wp2_with fail
                go_meet
                case rel => exact ⟨rfl, hH⟩
            case rest =>
            clear hcur
            obtain ⟨rfl, hcur⟩ := hcut
            cases d2 with
            | true =>
              have hqq : Hid (q + 1 = cnt x (l.take (k + 1))) := by have h1 := hs2.out; rw [if_pos rfl] at h1; have h2 := hqc.out; show _ = _; omega
              clear hs2 hqc hd2
              go_wp2_with fail
              go_roundw
              case rel => exact ⟨k + 1, p2, q + 1, by omega, hp2, by omega, rfl, by go_num, by go_num, hpc, hqq, hcur⟩
              case measure => simp [intOf]; omega
            | false =>
              have hqq : Hid (q = cnt x (l.take (k + 1))) := by have h1 := hs2.out; rw [if_neg (by simp)] at h1; have h2 := hqc.out; show _ = _; omega
              clear hs2 hqc hd2
              go_wp2_with fail
              go_roundw
              case rel => exact ⟨k + 1, p2, q, by omega, hp2, by omega, rfl, rfl, by go_num, hpc, hqq, hcur⟩
              case measure => simp [intOf]; omega
          · obtain rfl : k = n := by omega
            have hlt4 : ¬ (k : Int) < (k : Int) := by omega
            obtain rfl : p = q := by
              have h1 := hpc.out
              have h2 := hqc.out
              rw [List.take_of_length_le (by have := hMlB.out; omega)] at h1
              rw [List.take_of_length_le (by have := hnB.out; omega)] at h2
              rw [h1, h2]
              exact hcount.out x
            go_wp2_with fail
            go_meet
            case rel => exact ⟨p, rfl, rfl, hp, hcur⟩
      case rest =>
      clear hcur
      obtain ⟨A, rfl, rfl, hA, hcur⟩ := hcut
      -- the neighbour
      go_upto_if 87 with fail
      go_cut [12] from 86 to 100 (fun v12 w' => ∃ z : Int, v12 = .int .i64 z ∧ z ≤ 0 ∧ Hid (Below W0.heap.size W0 w'))
      case first =>
        by_cases hi0 : 0 < i
        · have hi0' : (0 : Int) < (i : Int) := by omega
          obtain ⟨s, hs⟩ : ∃ s, s = i - 1 := ⟨_, rfl⟩
          have hsn : s < n := by omega
          have hsn2 : (s : Int) < (n : Int) := by omega
          have hws : IntKind.i64.wrap ((i : Int) - 1) = (s : Int) := by rw [IntWalk.i64_in _ (by omega)]; omega
          obtain ⟨y, hy⟩ : ∃ y, M[s]? = some y := ⟨_, List.getElem?_eq_getElem (by have := hMlB.out; omega)⟩
          obtain ⟨d, hd⟩ : ∃ d, d = orderJ 201 y x := ⟨_, rfl⟩
          have hd0 : d ≤ 0 := by
            obtain ⟨j1, e1⟩ := List.getElem?_eq_some_iff.1 hy
            obtain ⟨j2, e2⟩ := List.getElem?_eq_some_iff.1 hx.out
            have := List.pairwise_iff_getElem.1 hMle.out s i j1 j2 (by omega)
            rw [e1, e2] at this
            rw [hd]; exact this
          have hyv := hid (And.intro (hMm2.out y (List.mem_of_getElem? hy)) (hMs2.out y (List.mem_of_getElem? hy)).1)
          obtain ⟨ka, kc, kaa, kac, koa, koc, kP, kC⟩ := rda_at (hrM.out.below hcur.out) hy
          have kr := kP.rd
          unfold Cells7 strV at kC
          obtain ⟨c0, c1, c2, c3, c4, c5, c6⟩ := kC
          obtain ⟨qa, qc, qaa, qac, qoa, qoc, qP, qC⟩ := rda_at (hrM.out.below hcur.out) hx.out
          have qr := qP.rd
          unfold Cells7 strV at qC
          obtain ⟨d0, d1, d2, d3, d4, d5, d6⟩ := qC
          have hO := hid (fun W' (hb : Below wc.heap.size wc W') => (by
            have h := value_Cmp y x _ _ W' hyv.out.2 hxs.out.1 (kr.stay hb) (qr.stay hb) (hT0.out.below (below_trans hcur.out hb))
            rw [cmpVR_yes hyv.out.1 hxm.out, ← hd] at h
            exact h : Calls Tryz.prog 11 #[.agg (valCs y.kind y.g ka y.ls.length kc y.e y.s kaa y.arr.length kac koa y.obj.length koc).toArray, .agg (valCs x.kind x.g qa x.ls.length qc x.e x.s qaa x.arr.length qac qoa x.obj.length qoc).toArray] W' fun en w' => en = .returned (.tuple #[.int .i64 d, .int .i64 0]) ∧ Below W'.heap.size W' w'))
          clear hd hs hy
          unfold valCs strV at hO
          generalize (⟨y.s.toArray⟩ : ByteArray) = kb at hO c4
          generalize (⟨x.s.toArray⟩ : ByteArray) = qb at hO d4
          clear kP qP kr qr
          go_wp2_with fail
          first | go_region_held3 (fun W' => W'.cell? ⟨bm, fm + s * 7, none⟩ = some (.int .i64 y.kind) ∧ W'.cell? ⟨bm, fm + s * 7 + 1, none⟩ = some (.bool y.g) ∧ W'.cell? ⟨bm, fm + s * 7 + 2, none⟩ = some (.slice ka y.ls.length kc) ∧ W'.cell? ⟨bm, fm + s * 7 + 3, none⟩ = some (.int .i64 y.e) ∧ W'.cell? ⟨bm, fm + s * 7 + 4, none⟩ = some (.string kb) ∧ W'.cell? ⟨bm, fm + s * 7 + 5, none⟩ = some (.slice kaa y.arr.length kac) ∧ W'.cell? ⟨bm, fm + s * 7 + 6, none⟩ = some (.slice koa y.obj.length koc) ∧ W'.cell? ⟨bm, fm + i * 7, none⟩ = some (.int .i64 x.kind) ∧ W'.cell? ⟨bm, fm + i * 7 + 1, none⟩ = some (.bool x.g) ∧ W'.cell? ⟨bm, fm + i * 7 + 2, none⟩ = some (.slice qa x.ls.length qc) ∧ W'.cell? ⟨bm, fm + i * 7 + 3, none⟩ = some (.int .i64 x.e) ∧ W'.cell? ⟨bm, fm + i * 7 + 4, none⟩ = some (.string qb) ∧ W'.cell? ⟨bm, fm + i * 7 + 5, none⟩ = some (.slice qaa x.arr.length qac) ∧ W'.cell? ⟨bm, fm + i * 7 + 6, none⟩ = some (.slice qoa x.obj.length qoc) ∧ Below wc.heap.size wc W') (first | (exact ⟨c0, c1, c2, c3, c4, c5, c6, d0, d1, d2, d3, d4, d5, d6, (Below.refl _ _).drew⟩) | (exact keepB14 (by assumption) (by assumption)) | assumption) ((go_at_call 11; (with_reducible refine (hO.out _ ?_).mono ?_); (simp only [*]); rintro e3 w3 ⟨rfl, hb3⟩)) | fail
          all_goals
            rename_i hHeld
            have hbz := hid (hHeld.2.2.2.2.2.2.2.2.2.2.2.2.2.2)
            clear hHeld
            have hH := hid (below_trans hcur.out hbz.out)
            clear hbz c0 c1 c2 c3 c4 c5 c6 d0 d1 d2 d3 d4 d5 d6
            go_wp2_with fail
            go_meet
            case rel => exact ⟨d, rfl, hd0, hH⟩
        · have hi0' : ¬ (0 : Int) < (i : Int) := by omega
          go_wp2_with fail
          go_meet
          case rel => exact ⟨0, rfl, Int.le_refl _, hcur⟩
      case rest =>
      clear hcur
      obtain ⟨z, rfl, hz0, hcur⟩ := hcut
      -- is the next sort's item the same?
      go_upto_region 23 with fail
      go_cut [119] from 101 to 119 (fun v119 w' => v119 = .bool false ∧ Hid (Below W0.heap.size W0 w'))
      case first =>
        have g1 : ((A : Int) != (A : Int)) = false := by simp
        have g2 : ¬ 0 < z := by omega
        have g3 : decide (0 < z) = false := decide_eq_false g2
        have hdx : Hid (true = eqB x x) := (eqB_true rfl).symm
        obtain ⟨ka, kc, kaa, kac, koa, koc, kP, kC⟩ := rda_at (hrN.out.below hcur.out) hx.out
        have kr := kP.rd
        unfold Cells7 strV at kC
        obtain ⟨c0, c1, c2, c3, c4, c5, c6⟩ := kC
        obtain ⟨qa, qc, qaa, qac, qoa, qoc, qP, qC⟩ := rda_at (hrM.out.below hcur.out) hx.out
        have qr := qP.rd
        unfold Cells7 strV at qC
        obtain ⟨d0, d1, d2, d3, d4, d5, d6⟩ := qC
        have hO := hid (fun W' (hb : Below wc.heap.size wc W') => law11_same x x _ _ W' (kr.stay hb) (qr.stay hb))
        rw [← hdx.out] at hO
        unfold valCs strV at hO
        generalize (⟨x.s.toArray⟩ : ByteArray) = kb at hO c4 d4
        clear kP qP kr qr
        go_wp2_with fail
        first | go_region_held3 (fun W' => W'.cell? ⟨bn, fn + i * 7, none⟩ = some (.int .i64 x.kind) ∧ W'.cell? ⟨bn, fn + i * 7 + 1, none⟩ = some (.bool x.g) ∧ W'.cell? ⟨bn, fn + i * 7 + 2, none⟩ = some (.slice ka x.ls.length kc) ∧ W'.cell? ⟨bn, fn + i * 7 + 3, none⟩ = some (.int .i64 x.e) ∧ W'.cell? ⟨bn, fn + i * 7 + 4, none⟩ = some (.string kb) ∧ W'.cell? ⟨bn, fn + i * 7 + 5, none⟩ = some (.slice kaa x.arr.length kac) ∧ W'.cell? ⟨bn, fn + i * 7 + 6, none⟩ = some (.slice koa x.obj.length koc) ∧ W'.cell? ⟨bm, fm + i * 7, none⟩ = some (.int .i64 x.kind) ∧ W'.cell? ⟨bm, fm + i * 7 + 1, none⟩ = some (.bool x.g) ∧ W'.cell? ⟨bm, fm + i * 7 + 2, none⟩ = some (.slice qa x.ls.length qc) ∧ W'.cell? ⟨bm, fm + i * 7 + 3, none⟩ = some (.int .i64 x.e) ∧ W'.cell? ⟨bm, fm + i * 7 + 4, none⟩ = some (.string kb) ∧ W'.cell? ⟨bm, fm + i * 7 + 5, none⟩ = some (.slice qaa x.arr.length qac) ∧ W'.cell? ⟨bm, fm + i * 7 + 6, none⟩ = some (.slice qoa x.obj.length qoc) ∧ Below wc.heap.size wc W') (first | (exact ⟨c0, c1, c2, c3, c4, c5, c6, d0, d1, d2, d3, d4, d5, d6, (Below.refl _ _).drew⟩) | (exact keepB14 (by assumption) (by assumption)) | assumption) ((go_at_call 15; (with_reducible refine (hO.out _ ?_).mono ?_); (simp only [*]); rintro e3 w3 ⟨rfl, hb3⟩)) | fail
        all_goals
          rename_i hHeld
          have hbz := hid (hHeld.2.2.2.2.2.2.2.2.2.2.2.2.2.2)
          clear hHeld
          have hH := hid (below_trans hcur.out hbz.out)
          clear hbz c0 c1 c2 c3 c4 c5 c6 d0 d1 d2 d3 d4 d5 d6
          go_wp2_with fail
          go_meet
          case rel => exact ⟨rfl, hH⟩
      case rest =>
      clear hcur hz0
      obtain ⟨rfl, hcur⟩ := hcut
      -- the turned one
      obtain ⟨xa, xc, xaa, xac, xoa, xoc, xP, xC⟩ := rda_at hrM.out hx.out
      unfold Cells7 strV at xC
      generalize hxb : (⟨x.s.toArray⟩ : ByteArray) = xb at xC
      have hxB := hid hxb
      obtain ⟨m0, m1, m2, m3, m4, m5, m6⟩ := xC
      have hxP := hid xP
      clear hxb xP
      obtain ⟨on, hon⟩ : ∃ on, on = x.obj.length := ⟨_, rfl⟩
      have honB := hid hon
      have hon20 : on + 1 ≤ 1048576 := by rw [hon]; exact hxs.out.2
      rw [← hon] at m6
      have hm6 := hid m6
      have hmC := hid (And.intro m0 (And.intro m1 (And.intro m2 (And.intro m3 (And.intro m4 m5)))))
      clear hon
      go_upto_region 25 with fail
      go_cut [13] from 120 to 123 (fun v13 w' => ∃ N : Nat, v13 = .pointer (some ⟨N, 0, none⟩) ∧ Hid (W0.heap.size ≤ N) ∧ Hid (w'.heap[N]? = some (.cells #[.int .i64 x.kind, .bool x.g, .slice xa x.ls.length xc, .int .i64 x.e, .string xb, .slice xaa x.arr.length xac, .slice xoa on xoc] 28 (0, 0))) ∧ Hid (Below W0.heap.size W0 w'))
      case first =>
        replace m0 := cell_stay m0 hcur.out
        replace m1 := cell_stay m1 hcur.out
        replace m2 := cell_stay m2 hcur.out
        replace m3 := cell_stay m3 hcur.out
        replace m4 := cell_stay m4 hcur.out
        replace m5 := cell_stay m5 hcur.out
        replace m6 := cell_stay m6 hcur.out
        have hl1 := cell_lt m0
        have hcs : Hid (W0.heap.size ≤ wc.heap.size) := hcur.out.size
        have hnewb := hid (blk_new wc (.cells #[.int .i64 x.kind, .bool x.g, .slice xa x.ls.length xc, .int .i64 x.e, .string xb, .slice xaa x.arr.length xac, .slice xoa on xoc] 28))
        have hbn := hid (hcur.out.alloc hcur.out.size (.cells #[.int .i64 x.kind, .bool x.g, .slice xa x.ls.length xc, .int .i64 x.e, .string xb, .slice xaa x.arr.length xac, .slice xoa on xoc] 28))
        go_wp2_with fail
        go_meet
        case rel => exact ⟨wc.heap.size, rfl, hcs, hnewb, hbn⟩
      case rest =>
      clear hcur m0 m1 m2 m3 m4 m5 m6
      obtain ⟨N, rfl, hN, hblk, hcur⟩ := hcut
      have hOT0 := hid (show OutT W0 (wc.setCell ⟨N, 6, none⟩ (.slice none 0 0)) N (.int .i64 x.kind) (.bool x.g) (.slice xa x.ls.length xc) (.int .i64 x.e) (.string xb) (.slice xaa x.arr.length xac) (.slice none 0 0) (x.obj.reverse.take (on - on)) from
        ⟨blk7_set hblk.out _, ⟨[], by simp, (fun f hf => by cases hf), ⟨by simp, .inl ⟨rfl, rfl⟩⟩⟩, hcur.out.setCell (by exact hN.out) _, hN.out⟩)
      obtain ⟨⟨o0, o1, o2, o3, o4, o5, o6⟩, p0, p1, p2, p3, p4, p5, p6⟩ := blk_seven hblk.out
      go_upto_region 27 with fail
      clear o0 o1 o2 o3 o4 o5 o6 p0 p1 p2 p3 p4 p5 p6
      clear hblk hcur
      generalize wc.setCell ⟨N, 6, none⟩ (.slice none 0 0) = wt at *
      have n6 := cell_stay hm6.out hOT0.out.bel
      have hw9 : IntKind.i64.wrap ((on : Int) - 1) = (on : Int) - 1 := by rw [IntWalk.i64_in _ (by omega)]
      obtain ⟨i0, i1, i2, i3, zv, i4, i5⟩ := infoField
      replace i1 := hid i1
      replace i2 := hid i2
      replace i3 := hid i3
      replace i4 := hid i4
      replace i5 := hid i5
      go_upto_region 28 with fail
      go_loopw [14] (fun v14 wr => ∃ (r : Nat) (zz : Int) (V : Value), r ≤ on ∧ v14 = .int .i64 zz ∧ Hid (zz = (r : Int) - 1) ∧ Hid (OutT W0 wr N (.int .i64 x.kind) (.bool x.g) (.slice xa x.ls.length xc) (.int .i64 x.e) (.string xb) (.slice xaa x.arr.length xac) V (x.obj.reverse.take (on - r)))) (fun v14 _ => (intOf v14 + 1).toNat)
      case atStart => exact ⟨on, (on : Int) - 1, _, Nat.le_refl _, rfl, hid rfl, hOT0⟩
      case round =>
        clear hOT0 n6 hw9
        obtain ⟨r, zz, V, hr, rfl, hzz, hOT⟩ := hrel
        by_cases hr0 : r = 0
        · subst hr0
          obtain rfl : zz = -1 := by have := hzz.out; omega
          have hneg : ¬ (0 : Int) ≤ -1 := by omega
          have hOT2 : Hid (OutT W0 wr N (.int .i64 x.kind) (.bool x.g) (.slice xa x.ls.length xc) (.int .i64 x.e) (.string xb) (.slice xaa x.arr.length xac) V (turned x).obj) := by
            have h1 := hOT.out
            rw [List.take_of_length_le (by rw [List.length_reverse]; have := honB.out; omega)] at h1
            exact h1
          clear hOT
          obtain ⟨oa2, oc2, rfl, hro, hc1, hc2⟩ := hOT2.out.shut
          have hb := hOT2.out.bel
          have hrT : RdV wr (valCs x.kind x.g xa x.ls.length xc x.e x.s xaa x.arr.length xac oa2 (turned x).obj.length oc2) (turned x) := by
            have q := hxP.out
            exact PartsV.rd (v := turned x) ⟨rfl, q.k, q.e, q.s, q.ac, ⟨hc1, hc2⟩, q.c, q.u.below hb, q.arr.below hb, hro⟩
          have hrX : RdV wr (valCs x.kind x.g xa x.ls.length xc x.e x.s xaa x.arr.length xac xoa x.obj.length xoc) x := hxP.out.rd.stay hb
          have hO := hid (fun W' (hb' : Below wr.heap.size wr W') => (by
            have h := value_Cmp (turned x) x _ _ W' (turned_small hxs.out.1) hxs.out.1 (hrT.stay hb') (hrX.stay hb') (hT0.out.below (below_trans hb hb'))
            rw [cmpVR_yes (turned_may hxm.out) hxm.out, turned_same hxm.out 201] at h
            exact h : Calls Tryz.prog 11 #[.agg (valCs x.kind x.g xa x.ls.length xc x.e x.s xaa x.arr.length xac oa2 (turned x).obj.length oc2).toArray, .agg (valCs x.kind x.g xa x.ls.length xc x.e x.s xaa x.arr.length xac xoa x.obj.length xoc).toArray] W' fun en w' => en = .returned (.tuple #[.int .i64 0, .int .i64 0]) ∧ Below W'.heap.size W' w'))
          unfold valCs strV at hO
          rw [hxB.out, ← honB.out] at hO
          obtain ⟨⟨c0, c1, c2, c3, c4, c5, c6⟩, _⟩ := blk_seven hOT2.out.blk
          obtain ⟨m0, m1, m2, m3, m4, m5⟩ := hmC.out
          have d0 := cell_stay m0 hb
          have d1 := cell_stay m1 hb
          have d2 := cell_stay m2 hb
          have d3 := cell_stay m3 hb
          have d4 := cell_stay m4 hb
          have d5 := cell_stay m5 hb
          have d6 := cell_stay hm6.out hb
          have hbH := hid hb
          clear m0 m1 m2 m3 m4 m5 hb hrT hrX hro hOT2
          go_upto_region 31 with fail
          first | go_region_held3 (fun W' => W'.cell? ⟨N, 0, none⟩ = some (.int .i64 x.kind) ∧ W'.cell? ⟨N, 1, none⟩ = some (.bool x.g) ∧ W'.cell? ⟨N, 2, none⟩ = some (.slice xa x.ls.length xc) ∧ W'.cell? ⟨N, 3, none⟩ = some (.int .i64 x.e) ∧ W'.cell? ⟨N, 4, none⟩ = some (.string xb) ∧ W'.cell? ⟨N, 5, none⟩ = some (.slice xaa x.arr.length xac) ∧ W'.cell? ⟨N, 6, none⟩ = some (.slice oa2 (turned x).obj.length oc2) ∧ W'.cell? ⟨bm, fm + i * 7, none⟩ = some (.int .i64 x.kind) ∧ W'.cell? ⟨bm, fm + i * 7 + 1, none⟩ = some (.bool x.g) ∧ W'.cell? ⟨bm, fm + i * 7 + 2, none⟩ = some (.slice xa x.ls.length xc) ∧ W'.cell? ⟨bm, fm + i * 7 + 3, none⟩ = some (.int .i64 x.e) ∧ W'.cell? ⟨bm, fm + i * 7 + 4, none⟩ = some (.string xb) ∧ W'.cell? ⟨bm, fm + i * 7 + 5, none⟩ = some (.slice xaa x.arr.length xac) ∧ W'.cell? ⟨bm, fm + i * 7 + 6, none⟩ = some (.slice xoa on xoc) ∧ Below wr.heap.size wr W') (first | (exact ⟨c0, c1, c2, c3, c4, c5, c6, d0, d1, d2, d3, d4, d5, d6, (Below.refl _ _).drew⟩) | (exact keepB14 (by assumption) (by assumption)) | assumption) ((go_at_call 11; (with_reducible refine (hO.out _ ?_).mono ?_); (simp only [*]); rintro e3 w3 ⟨rfl, hb3⟩)) | fail
          all_goals
            rename_i hHeld
            have hH := hid (below_trans hbH.out hHeld.2.2.2.2.2.2.2.2.2.2.2.2.2.2)
            clear hHeld c0 c1 c2 c3 c4 c5 c6 d0 d1 d2 d3 d4 d5 d6
            go_wp2_with fail
            go_roundw
            case rel => exact ⟨i + 1, by omega, by go_num, hH⟩
            case measure => simp [intOf]; omega
        · obtain ⟨s, rfl⟩ : ∃ s, r = s + 1 := ⟨r - 1, by omega⟩
          obtain rfl : zz = (s : Int) := by have := hzz.out; omega
          have hs0 : (0 : Int) ≤ (s : Int) := by omega
          have hs1 : (s : Int) < (on : Int) := by omega
          have hs2 : s < on := by omega
          have hs3 : s < x.obj.length := by have := honB.out; omega
          have hw8 : IntKind.i64.wrap ((s : Int) - 1) = (s : Int) - 1 := by rw [IntWalk.i64_in _ (by omega)]
          have hbw := hOT.out.bel
          obtain ⟨b0, off0, ya, yc, yaa, yac, yoa, yoc, e0, hkl, P0, C0⟩ := hxP.out.obj.at hs3
          subst e0
          obtain ⟨kx, hkx⟩ : ∃ kx, kx = x.obj[s] := ⟨_, rfl⟩
          have hxs0 : x.obj[s]? = some kx := by rw [hkx]; exact List.getElem?_eq_getElem hs3
          rw [← hkx] at C0 P0 hkl
          have hsk := (((may_succ (n := 199)).1 hxm.out).1.2 kx (List.mem_of_getElem? hxs0)).1
          clear hkx
          have hstep := hid (rev_step hxs0)
          rw [← honB.out] at hstep
          obtain ⟨kk, y⟩ := kx
          simp only at C0 P0 hkl hsk
          unfold Cells8f strV at C0
          obtain ⟨s0, s1, s2, s3, s4, s5, s6, s7⟩ := C0
          replace s0 := cell_stay s0 hbw
          replace s1 := cell_stay s1 hbw
          replace s2 := cell_stay s2 hbw
          replace s3 := cell_stay s3 hbw
          replace s4 := cell_stay s4 hbw
          replace s5 := cell_stay s5 hbw
          replace s6 := cell_stay s6 hbw
          replace s7 := cell_stay s7 hbw
          have d6 := cell_stay hm6.out hbw
          clear hbw
          obtain ⟨f, hf1, hf2, hf3⟩ : ∃ f : FE, f.fld = (kk, y) ∧ RdV W0 f.cs f.v ∧ f.enc = strV kk :: valCs y.kind y.g ya y.ls.length yc y.e y.s yaa y.arr.length yac yoa y.obj.length yoc :=
            ⟨⟨kk, y, valCs y.kind y.g ya y.ls.length yc y.e y.s yaa y.arr.length yac yoa y.obj.length yoc, hsk, hkl, rfl, parts_one P0.rd⟩, rfl, P0.rd, rfl⟩
          clear P0 hsk hkl
          unfold strV valCs at hf3
          unfold strV at hf3
          generalize (⟨kk.toArray⟩ : ByteArray) = kxb at s0 hf3
          generalize (⟨y.s.toArray⟩ : ByteArray) = yb at s5 hf3
          have HF3 := hid hf3
          have HF2 := hid hf2
          have HF1 := hid hf1
          clear hf3 hf2 hf1
          obtain ⟨⟨o0, o1, o2, o3, o4, o5, o6⟩, _⟩ := blk_seven hOT.out.blk
          have hlo := cell_lt o0
          have hld := cell_lt d6
          have hls := cell_lt s0
          obtain ⟨E, E1, E2, E3⟩ := hOT.out.row
          have hEl : E.length ≤ on := by
            have h1 : E.length = (x.obj.reverse.take (on - (s + 1))).length := by rw [← E1]; simp
            rw [List.length_take] at h1
            omega
          have hW4 := hid (((Below.refl wr.heap.size wr).drew).alloc (Nat.le_refl _) (.cells #[.string kxb, .int .i64 y.kind, .bool y.g, .slice ya y.ls.length yc, .int .i64 y.e, .string yb, .slice yaa y.arr.length yac, .slice yoa y.obj.length yoc] 53))
          have E4 := hid (owns_stayF E3 hW4.out)
          have hnew : Hid (∀ (jj : Nat) (u : Value), ([.string kxb, .int .i64 y.kind, .bool y.g, .slice ya y.ls.length yc, .int .i64 y.e, .string yb, .slice yaa y.arr.length yac, .slice yoa y.obj.length yoc] : List Value)[jj]? = some u → ((World.drew wr).alloc (.cells #[.string kxb, .int .i64 y.kind, .bool y.g, .slice ya y.ls.length yc, .int .i64 y.e, .string yb, .slice yaa y.arr.length yac, .slice yoa y.obj.length yoc] 53)).cell? ((⟨wr.heap.size, 0, none⟩ : Addr).add jj) = some u) := by
            intro jj u hu
            rw [Addr.add_lit]
            have h := blk_new (World.drew wr) (.cells #[.string kxb, .int .i64 y.kind, .bool y.g, .slice ya y.ls.length yc, .int .i64 y.e, .string yb, .slice yaa y.arr.length yac, .slice yoa y.obj.length yoc] 53)
            rw [show (World.drew wr).heap.size = wr.heap.size from rfl] at h
            simp only [World.cell?, h, Nat.zero_add]
            simpa using hu
          have hones : Hid (∀ u ∈ ([.string kxb, .int .i64 y.kind, .bool y.g, .slice ya y.ls.length yc, .int .i64 y.e, .string yb, .slice yaa y.arr.length yac, .slice yoa y.obj.length yoc] : List Value), u.oneCell' = true) := by
            have := f.ones
            rw [HF3.out] at this
            exact this
          have hW4b := hid (((Below.refl wr.heap.size wr).alloc (Nat.le_refl _) (.cells #[.string kxb, .int .i64 y.kind, .bool y.g, .slice ya y.ls.length yc, .int .i64 y.e, .string yb, .slice yaa y.arr.length yac, .slice yoa y.obj.length yoc] 53)).drew)
          have E4b : Hid (((wr.alloc (.cells #[.string kxb, .int .i64 y.kind, .bool y.g, .slice ya y.ls.length yc, .int .i64 y.e, .string yb, .slice yaa y.arr.length yac, .slice yoa y.obj.length yoc] 53)).drew).ownsRow W0.heap.size 53 8 V E.length (E.flatMap FE.enc)) := hid (owns_stayF E3 hW4b.out)
          have hnewb : Hid (∀ (jj : Nat) (u : Value), ([.string kxb, .int .i64 y.kind, .bool y.g, .slice ya y.ls.length yc, .int .i64 y.e, .string yb, .slice yaa y.arr.length yac, .slice yoa y.obj.length yoc] : List Value)[jj]? = some u → ((wr.alloc (.cells #[.string kxb, .int .i64 y.kind, .bool y.g, .slice ya y.ls.length yc, .int .i64 y.e, .string yb, .slice yaa y.arr.length yac, .slice yoa y.obj.length yoc] 53)).drew).cell? ((⟨wr.heap.size, 0, none⟩ : Addr).add jj) = some u) := hid (fun jj u hu => hnew.out jj u hu)
          have hRRb : Hid (OutT W0 ((wr.alloc (.cells #[.string kxb, .int .i64 y.kind, .bool y.g, .slice ya y.ls.length yc, .int .i64 y.e, .string yb, .slice yaa y.arr.length yac, .slice yoa y.obj.length yoc] 53)).drew) N (.int .i64 x.kind) (.bool x.g) (.slice xa x.ls.length xc) (.int .i64 x.e) (.string xb) (.slice xaa x.arr.length xac) V (x.obj.reverse.take (on - (s + 1)))) := hid (hOT.out.stay hW4b.out)
          have HE1 := hid E1
          have HE2 := hid E2
          have hRR := hid (hOT.out.stay hW4.out)
          clear E1 E2 E3
          go_upto_region 30 with fail
          go_region_law (first | (refine step_more (ad := ⟨wr.heap.size, 0, none⟩) (m := 1) (c := 1) (ys := [.string kxb, .int .i64 y.kind, .bool y.g, .slice ya y.ls.length yc, .int .i64 y.e, .string yb, .slice yaa y.arr.length yac, .slice yoa y.obj.length yoc]) Tryz.underlying26 i1.out i2.out i3.out i4.out i5.out (by decide) rfl _ _ rfl W0.heap.size E4.out (by simp [Act.eval]) (by simp [Act.eval]) rfl hnew.out hones.out (by unfold maxLen; omega) (by omega) (by exact hRR.out.bel.size) ?_; intro V2 w5 hown hgr; obtain ⟨g5, cap5, rfl⟩ := owns_succ hown; have hOb := (hgr.block N (blk_lt hRR.out.blk) (owns_not E4.out hRR.out.blk (by decide))); have hBl := hRR.out.bel.grown hgr hRR.out.bel.size (fun k hk => (E4.out.lt k hk).1); have hOb2 := hOb.trans hRR.out.blk; obtain ⟨⟨t0, t1, t2, t3, t4, t5, t6⟩, u0, u1, u2, u3, u4, u5, u6⟩ := blk_seven hOb2; replace hOb := hid hOb; replace hBl := hid hBl; replace hown := hid hown; clear hgr hOb2) | (refine step_more (ad := ⟨wr.heap.size, 0, none⟩) (m := 1) (c := 1) (ys := [.string kxb, .int .i64 y.kind, .bool y.g, .slice ya y.ls.length yc, .int .i64 y.e, .string yb, .slice yaa y.arr.length yac, .slice yoa y.obj.length yoc]) Tryz.underlying26 i1.out i2.out i3.out i4.out i5.out (by decide) rfl _ _ rfl W0.heap.size E4b.out (by simp [Act.eval]) (by simp [Act.eval]) rfl hnewb.out hones.out (by unfold maxLen; omega) (by omega) (by exact hRRb.out.bel.size) ?_; intro V2 w5 hown hgr; obtain ⟨g5, cap5, rfl⟩ := owns_succ hown; have hOb := (hgr.block N (blk_lt hRRb.out.blk) (owns_not E4b.out hRRb.out.blk (by decide))); have hBl := hRRb.out.bel.grown hgr hRRb.out.bel.size (fun k hk => (E4b.out.lt k hk).1); have hOb2 := hOb.trans hRRb.out.blk; obtain ⟨⟨t0, t1, t2, t3, t4, t5, t6⟩, u0, u1, u2, u3, u4, u5, u6⟩ := blk_seven hOb2; replace hOb := hid hOb; replace hBl := hid hBl; replace hown := hid hown; clear hgr hOb2))
          all_goals
            have hfin := hid (OutT.more HF2.out hRR.out HE1.out HE2.out (by rw [HF3.out]; exact hown.out) hBl.out hOb.out)
            have hfin2 : Hid (OutT W0 (w5.setCell ⟨N, 6, none⟩ (.slice (some ⟨g5, 0, none⟩) (E.length + 1) cap5)) N (.int .i64 x.kind) (.bool x.g) (.slice xa x.ls.length xc) (.int .i64 x.e) (.string xb) (.slice xaa x.arr.length xac) (.slice (some ⟨g5, 0, none⟩) (E.length + 1) cap5) (x.obj.reverse.take (on - s))) := by
              have h1 := hfin.out
              rw [HF1.out, ← hstep.out] at h1
              exact h1
            go_wp2_with fail
            go_roundw
            case rel => exact ⟨s, (s : Int) - 1, _, by omega, by first | rfl | go_num, hid rfl, hfin2⟩
            case measure => first | (simp [intOf]; done) | (simp [intOf]; omega)
    · obtain rfl : i = n := by omega
      have hlt2 : ¬ ((i : Nat) : Int) < (i : Int) := by omega
      have hF := hid (hB0.out.trans (hcur.out.mono hB0.out.size))
      go_wp2_with fail
      go_ret
      exact ⟨rfl, hF.out⟩

theorem law_ValueSorted (l : List JV) (a : Option Addr) (c : Nat) (w : World) (sl : l.length ≤ 1048576 ∧ ∀ x ∈ l, SmallV x ∧ x.obj.length + 1 ≤ 1048576) (rl : RdA w a l) (_hcap : l.length ≤ c) (_hnil : a = none → c = 0) (hT : Tabs w) :
    Calls Tryz.prog 9 #[.slice a l.length c] w fun en w' => en = .returned (.bool true) ∧ Below w.heap.size w w' := by
  by_cases hall : ∀ x ∈ l, mayJ 200 x = true
  · exact sorted_yes l a c w hall sl rl hT
  · exact sorted_no l a c w hall ⟨sl.1, fun x hx => (sl.2 x hx).1⟩ rl hT

end Go.Proofs.YtgbgkodjjgjhgaaGreatDoor
