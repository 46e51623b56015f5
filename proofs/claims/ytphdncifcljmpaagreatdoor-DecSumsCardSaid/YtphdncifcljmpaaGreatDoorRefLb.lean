/- The document's answer, tenth part, continued: Compare, Cmp, Neg. -/
import Derived.Test.YtphdncifcljmpaaGreatDoorRefL
namespace Go.Proofs.YtphdncifcljmpaaGreatDoor
open Go.RowKit

set_option maxRecDepth 100000 in
set_option maxHeartbeats 1600000 in
theorem ref2_Compare (x y : D) (a1 : Option Addr) (d1 : Nat) (a2 : Option Addr) (d2 : Nat) (w : World) (h1 : RdD w x a1 d1) (h2 : RdD w y a2 d2) (bx : (Num.digs 10 x.m).length ≤ 400 ∧ -10400 ≤ x.e ∧ x.e ≤ 10001) (bY : (Num.digs 10 y.m).length ≤ 400 ∧ -10400 ≤ y.e ∧ y.e ≤ 10001) :
    Calls Tryz.prog 58 #[refV x a1 d1, refV y a2 d2] w fun e w' => e = .returned (.int .i64 (compR x y)) ∧ Below w.heap.size w w' := by
  obtain ⟨V, hV⟩ : ∃ V, V = compR x y := ⟨_, rfl⟩
  rw [← hV]
  have CXY := fun W (hb : Below w.heap.size w W) => ref2_Order x y a1 d1 a2 d2 W (h1.below hb) (h2.below hb) bx bY
  have CYX := fun W (hb : Below w.heap.size w W) => ref2_Order y x a2 d2 a1 d1 W (h2.below hb) (h1.below hb) bY bx
  unfold refV at CXY CYX ⊢
  unfold compR at hV
  obtain ⟨gx, mx, ex⟩ := x
  obtain ⟨gy, my, ey⟩ := y
  simp only at CXY CYX hV ⊢
  replace CXY := hid CXY
  replace CYX := hid CYX
  clear h1 h2 bx bY
  cases gx <;> cases gy
  · have HV := hid (show V = orderC ⟨false, mx, ex⟩ ⟨false, my, ey⟩ by rw [hV]; simp)
    clear hV
    go_enter Tryz.func58, Tryz.ntmps58
    go_wp2_with fail
    refine (CXY.out _ (((Below.refl _ _).alloc (Nat.le_refl _) _).alloc (by simp) _)).mono ?_
    rintro e1 w1 ⟨rfl, hb1⟩
    have HB := hid (below_alloc (below_alloc hb1))
    clear hb1
    go_wp2
    go_ret
    exact ⟨by rw [HV.out]; rfl, HB.out⟩
  · have HV := hid (show V = 1 by rw [hV]; simp)
    clear hV
    go_enter Tryz.func58, Tryz.ntmps58
    go_wp2
    go_ret
    exact ⟨by rw [HV.out]; rfl, ((Below.refl _ _).alloc (Nat.le_refl _) _).alloc (by simp) _⟩
  · have HV := hid (show V = -1 by rw [hV]; simp)
    clear hV
    go_enter Tryz.func58, Tryz.ntmps58
    go_wp2
    go_ret
    exact ⟨by rw [HV.out]; rfl, ((Below.refl _ _).alloc (Nat.le_refl _) _).alloc (by simp) _⟩
  · have HV := hid (show V = orderC ⟨true, my, ey⟩ ⟨true, mx, ex⟩ by rw [hV]; simp)
    clear hV
    go_enter Tryz.func58, Tryz.ntmps58
    go_wp2_with fail
    refine (CYX.out _ (((Below.refl _ _).alloc (Nat.le_refl _) _).alloc (by simp) _)).mono ?_
    rintro e1 w1 ⟨rfl, hb1⟩
    have HB := hid (below_alloc (below_alloc hb1))
    clear hb1
    go_wp2
    go_ret
    exact ⟨by rw [HV.out]; rfl, HB.out⟩

set_option maxRecDepth 100000 in
set_option maxHeartbeats 1600000 in
theorem ref2_Cmp (g : Bool) (a : Option Addr) (cap : Nat) (e : Int) (xs : List Nat) (g2 : Bool) (a2 : Option Addr) (cap2 : Nat) (e2 : Int) (ys : List Nat) (w : World) (h : U32 w a xs) (h2 : U32 w a2 ys) :
    Calls Tryz.prog 25 #[.agg #[.bool g, .slice a xs.length cap, .int .i64 e], .agg #[.bool g2, .slice a2 ys.length cap2, .int .i64 e2]] w
      (OutIE w (if bothE (takenE g xs.length (Num.worth xs) e) (takenE g2 ys.length (Num.worth ys) e2) = 0 then cmpR (takenD g xs.length (Num.worth xs) e) (takenD g2 ys.length (Num.worth ys) e2) else 0) (bothE (takenE g xs.length (Num.worth xs) e) (takenE g2 ys.length (Num.worth ys) e2))) := by
  have CT := fun W (hb : Below w.heap.size w W) => ref2_Two g a cap e xs g2 a2 cap2 e2 ys W (h.below hb) (h2.below hb)
  have bx := taken_bounds (g := g) (e := e) h.lt
  have bY := taken_bounds (g := g2) (e := e2) h2.lt
  have px := (tk_taken g xs.length (Num.worth xs) e).good.1
  have py := (tk_taken g2 ys.length (Num.worth ys) e2).good.1
  obtain ⟨x, hx⟩ : ∃ x, x = takenD g xs.length (Num.worth xs) e := ⟨_, rfl⟩
  obtain ⟨y, hy⟩ : ∃ y, y = takenD g2 ys.length (Num.worth ys) e2 := ⟨_, rfl⟩
  obtain ⟨er, her⟩ : ∃ er, er = bothE (takenE g xs.length (Num.worth xs) e) (takenE g2 ys.length (Num.worth ys) e2) := ⟨_, rfl⟩
  rw [← hx] at bx px
  rw [← hy] at bY py
  rw [← hx, ← hy, ← her] at CT ⊢
  obtain ⟨n, hn⟩ : ∃ n, n = xs.length := ⟨_, rfl⟩
  obtain ⟨n2, hn2⟩ : ∃ n, n = ys.length := ⟨_, rfl⟩
  rw [← hn, ← hn2] at CT ⊢
  rw [← compR_eq px py (by omega) (by omega)]
  have CC := fun W b1 c1 b2 c2 (r1 : RdD W x b1 c1) (r2 : RdD W y b2 c2) => ref2_Compare x y b1 c1 b2 c2 W r1 r2 bx bY
  obtain ⟨v, hv⟩ : ∃ v, v = compR x y := ⟨_, rfl⟩
  rw [← hv] at CC ⊢
  unfold refV at CC
  unfold OutRDD refV at CT
  replace CT := hid CT
  replace CC := hid CC
  clear h h2 bx bY px py hx hy her hn hn2 hv
  obtain ⟨V, hV⟩ : ∃ V, V = (if er = 0 then v else 0) := ⟨_, rfl⟩
  rw [← hV]
  replace hV := hid hV
  go_enter Tryz.func25, Tryz.ntmps25
  go_wp2_with fail
  refine (CT.out _ (((Below.refl _ _).alloc (Nat.le_refl _) _).alloc (by simp) _)).mono ?_
  rintro e1 w1 ⟨b1, c1, b2, c2, rfl, hb1, hr1, hr2⟩
  have HB1 := hid (below_alloc (below_alloc hb1))
  have HR1 := hid hr1
  have HR2 := hid hr2
  clear hb1 hr1 hr2 CT
  have k1 := (Below.refl w1.heap.size w1).alloc (Nat.le_refl _) (.cells #[.bool x.neg, .slice b1 (Num.digs 10 x.m).length c1, .int .i64 x.e] 66)
  have k2 := hid (k1.alloc (by simp) (.cells #[.bool y.neg, .slice b2 (Num.digs 10 y.m).length c2, .int .i64 y.e] 66))
  clear k1
  by_cases h0 : er = 0
  · have hne : ((er : Int) != 0) = false := by rw [bne_eq_false_iff_eq]; omega
    have HV := hid (show V = v by rw [hV.out, if_pos h0])
    have HE := hid h0
    clear h0 hV
    go_wp2_with fail
    refine (CC.out _ _ _ _ _ (HR1.out.below k2.out) (HR2.out.below k2.out)).mono ?_
    rintro e2 w2 ⟨rfl, hb2⟩
    have HB2 := hid (below_trans HB1.out (below_trans k2.out hb2))
    clear hb2
    go_wp2
    go_ret2
    exact ⟨by rw [HV.out, HE.out]; rfl, HB2.out⟩
  · have hne : ((er : Int) != 0) = true := by rw [bne_iff_ne]; omega
    have HV := hid (show V = 0 by rw [hV.out, if_neg h0])
    clear h0 hV
    go_wp2
    go_ret2
    exact ⟨by rw [HV.out]; rfl, below_trans HB1.out k2.out⟩

theorem HasR.rec {W : World} {N c : Nat} {d : D} {b : Option Addr} (h : HasR W N d b c) : Rec W N := by obtain ⟨T, h⟩ := h; exact ⟨_, _, _, _, _, T, h⟩
theorem Rec.set1 {W : World} {R K : Nat} (h : Rec W R) (hK : R ≠ K) (o : Nat) (v : Value) : Rec (W.setCell ⟨K, o, none⟩ v) R := by
  obtain ⟨g, a, n, c, e, T, h⟩ := h
  exact ⟨g, a, n, c, e, T, by rw [Below.heap_setCell _ _ _ _ hK]; exact h⟩
theorem U8.set1 {W : World} {b : Option Addr} {ds : List Nat} {R : Nat} (h : U8 W b ds) (r : Rec W R) (o : Nat) (v : Value) : U8 (W.setCell ⟨R, o, none⟩ v) b ds := by
  refine ⟨fun j x hx => ?_, h.lt⟩
  obtain ⟨bk, off, rfl, hc⟩ := h.row j x hx
  refine ⟨bk, off, rfl, ?_⟩
  have hne : bk ≠ R := by
    rintro rfl
    obtain ⟨g0, a0, n0, c0, e0, T, hr⟩ := r
    rw [blk_cell hr] at hc
    obtain ⟨y, _, rfl⟩ : ∃ y, y ∈ ds ∧ x = .int .u8 ((y : Nat) : Int) := by
      have := List.mem_of_getElem? hx
      obtain ⟨y, hy, rfl⟩ := List.mem_map.1 (show x ∈ ds.map _ from this)
      exact ⟨y, hy, rfl⟩
    generalize off + j = k at hc
    match k, hc with
    | 0, hc => simp at hc
    | 1, hc => simp at hc
    | 2, hc => simp at hc
    | k + 3, hc => simp at hc
  rw [← hc]
  exact World.cell?_of_block (Below.heap_setCell _ _ _ _ hne)

set_option maxRecDepth 100000 in
set_option maxHeartbeats 1600000 in
theorem ref2_Neg (g : Bool) (a : Option Addr) (cap : Nat) (e : Int) (xs : List Nat) (w : World) (h : U32 w a xs) :
    Calls Tryz.prog 27 #[.agg #[.bool g, .slice a xs.length cap, .int .i64 e]] w (OutDE w (negD (takenD g xs.length (Num.worth xs) e)) (takenE g xs.length (Num.worth xs) e)) := by
  have CT := fun W (hb : Below w.heap.size w W) => ref2_Take g a cap e xs W (h.below hb)
  have bd := taken_bounds (g := g) (e := e) h.lt
  have hz := takenE_cases g xs.length (Num.worth xs) e
  obtain ⟨d, hd⟩ : ∃ d, d = takenD g xs.length (Num.worth xs) e := ⟨_, rfl⟩
  obtain ⟨er, her⟩ : ∃ r, r = takenE g xs.length (Num.worth xs) e := ⟨_, rfl⟩
  rw [← hd, ← her] at CT hz ⊢
  rw [← hd] at bd
  obtain ⟨n, hn⟩ : ∃ n, n = xs.length := ⟨_, rfl⟩
  rw [← hn] at CT ⊢
  replace CT := hid CT
  replace bd := hid bd
  replace hz := hid hz
  clear h hd her hn
  go_enter Tryz.func27, Tryz.ntmps27
  go_upto_region 1 with fail
  go_cut [2, 4, 5] from 6 (fun v2 v4 v5 w' => ∃ N b c, v2 = .pointer (some ⟨w.heap.size + 1, 0, none⟩) ∧ v4 = .pointer (some ⟨N, 0, none⟩) ∧ v5 = .int .i64 er ∧ HasR w' N d b c ∧ w.heap.size + 1 < N ∧ RdD w' d b c ∧ Rec w' (w.heap.size + 1) ∧ Below w.heap.size w w')
  case first =>
    go_wp2_with fail
    refine (CT.out _ (((Below.refl _ _).alloc (Nat.le_refl _) _).alloc (by simp) _)).mono ?_
    rintro e1 w1 ⟨b1, c1, rfl, hb1, hr1⟩
    have HB1 := hid (below_alloc (below_alloc hb1))
    have hz1 : w.heap.size + 1 < w1.heap.size := by have := hb1.size; simp at this; omega
    have HR := hid ((show Rec ((w.alloc _).alloc _) (w.heap.size + 1) from ⟨_, _, _, _, _, _, blk_new2 w _ _⟩).below hb1)
    have HI := hid hr1
    clear hb1 hr1 CT
    unfold refV
    go_wp2_with fail
    go_meet
    case rel =>
      have k1 := (Below.refl w1.heap.size w1).alloc (Nat.le_refl _) (.cells #[.bool d.neg, .slice b1 (Num.digs 10 d.m).length c1, .int .i64 d.e] 66)
      exact ⟨w1.heap.size, b1, c1, rfl, rfl, rfl, HasR.new _ _ _ _ _, hz1, HI.out.below k1, HR.out.below k1, below_trans HB1.out k1⟩
  case rest =>
    obtain ⟨N, b, c, rfl, rfl, rfl, hblk, hNl, hrd, hrec, hb⟩ := hcut
    obtain ⟨⟨k0, k1, k2⟩, fk0, _⟩ := hblk.get
    have z0 := hblk.lt
    obtain ⟨r0, r1, r2, p0, p1, p2⟩ := hrec.cells.get
    have f0 := hrec.cells.frozen 0
    have f1 := hrec.cells.frozen 1
    have f2 := hrec.cells.frozen 2
    have HRD := hid hrd
    have HREC := hid hrec
    have HB := hid hb
    have HBK := hid hblk
    have hlt := hrec.lt
    clear hblk hrd hrec hb CT
    by_cases h0 : er = 0
    · have hne : ((er : Int) != 0) = false := by rw [bne_eq_false_iff_eq]; omega
      have HE := hid h0
      clear h0
      have zd : (Num.digs 10 d.m).length = 0 ↔ d.m = 0 := by rw [List.length_eq_zero_iff]; exact Num.digs_eq_nil (by decide)
      have CO := fun W (d' : D) (hm : d'.m = d.m) (r : U8 W b (Num.digs 10 d'.m)) => ref2_To d' b c W r (by have := bd.out; rw [hm]; omega)
      unfold refV at CO
      replace CO := hid CO
      by_cases hm0 : d.m = 0
      · have HN := hid (show negD d = d from if_pos hm0)
        have hl0 := zd.2 hm0
        rw [hl0] at k1
        have CO1 := CO.out wc d rfl HRD.out.1
        rw [hl0] at CO1
        replace CO1 := hid CO1
        clear hm0 zd hl0 fk0 CO
        go_wp2_with fail
        refine (CO1.out).mono ?_
        rintro e2 w2 ⟨a2, c2, rfl, ho2⟩
        have HB2 := hid (below_trans HB.out ho2.1)
        have HO2 := hid ho2.2
        have hr2 := HREC.out.below ho2.1
        clear ho2 p0 p1 p2 f0 f1 f2 k0 k1 k2 CO1
        obtain ⟨s0, s1, s2, p0, p1, p2⟩ := hr2.cells.get
        have f0 := hr2.cells.frozen 0
        have f1 := hr2.cells.frozen 1
        have f2 := hr2.cells.frozen 2
        clear hr2
        unfold decV
        go_wp2
        refine bodyPost_ret (v := .tuple #[decV d a2 c2, .int .i64 0]) (by simp [results, Tryz.results27, go_sem, p0, p1, p2, decV]) rfl ?_
        rw [HE.out, HN.out]
        exact ⟨a2, c2, rfl, below_put HB2.out (Nat.le_succ _) _ _ _ _ _, owns_mono (owns_put HO2.out hlt _ _ _ _ _) HB.out.size⟩
      · have HN := hid (show negD d = ⟨!d.neg, d.m, d.e⟩ from if_neg hm0)
        have hl0 : 0 < (Num.digs 10 d.m).length := by have := zd; omega
        have HP := hid (HRD.out.1)
        have CO1 := fun W (r : U8 W b (Num.digs 10 d.m)) => CO.out W ⟨!d.neg, d.m, d.e⟩ rfl r
        simp only at CO1
        have HBR := hid (show Rec wc N from HBK.out.rec)
        clear hm0 zd CO HBK hz bd HRD
        obtain ⟨gd, md, ed⟩ := d
        simp only at k0 k1 k2 hl0 CO1 HP
        obtain ⟨L, hL⟩ : ∃ L, L = (Num.digs 10 md).length := ⟨_, rfl⟩
        rw [← hL] at k1 hl0 CO1
        clear hL
        cases gd with
        | false =>
          simp only [Bool.not_false] at CO1
          replace CO1 := hid CO1
          go_wp2_with fail
          refine (CO1.out _ (HP.out.set1 HBR.out 0 _)).mono ?_
          rintro e2 w2 ⟨a2, c2, rfl, ho2⟩
          have HB2 := hid (below_trans (HB.out.setCell (p := ⟨N, 0, none⟩) (by simp only; omega) _) ho2.1)
          have HO2 := hid ho2.2
          have hr2 := (HREC.out.set1 (show w.heap.size + 1 ≠ N by omega) 0 _).below ho2.1
          have hltw : w.heap.size ≤ wc.heap.size := HB.out.size
          clear ho2 p0 p1 p2 f0 f1 f2 k0 k1 k2 CO1 fk0
          obtain ⟨s0, s1, s2, p0, p1, p2⟩ := hr2.cells.get
          have f0 := hr2.cells.frozen 0
          have f1 := hr2.cells.frozen 1
          have f2 := hr2.cells.frozen 2
          clear hr2
          unfold decV
          go_wp2
          refine bodyPost_ret (v := .tuple #[decV ⟨true, md, ed⟩ a2 c2, .int .i64 0]) (by simp [results, Tryz.results27, go_sem, p0, p1, p2, decV]) rfl ?_
          rw [HE.out, HN.out]
          refine ⟨a2, c2, rfl, below_put HB2.out (Nat.le_succ _) _ _ _ _ _, owns_mono (owns_put HO2.out ?_ _ _ _ _ _) ?_⟩
          · simpa [World.setCell] using hlt
          · simpa [World.setCell] using hltw
        | true =>
          simp only [Bool.not_true] at CO1
          replace CO1 := hid CO1
          go_wp2_with fail
          refine (CO1.out _ (HP.out.set1 HBR.out 0 _)).mono ?_
          rintro e2 w2 ⟨a2, c2, rfl, ho2⟩
          have HB2 := hid (below_trans (HB.out.setCell (p := ⟨N, 0, none⟩) (by simp only; omega) _) ho2.1)
          have HO2 := hid ho2.2
          have hr2 := (HREC.out.set1 (show w.heap.size + 1 ≠ N by omega) 0 _).below ho2.1
          have hltw : w.heap.size ≤ wc.heap.size := HB.out.size
          clear ho2 p0 p1 p2 f0 f1 f2 k0 k1 k2 CO1 fk0
          obtain ⟨s0, s1, s2, p0, p1, p2⟩ := hr2.cells.get
          have f0 := hr2.cells.frozen 0
          have f1 := hr2.cells.frozen 1
          have f2 := hr2.cells.frozen 2
          clear hr2
          unfold decV
          go_wp2
          refine bodyPost_ret (v := .tuple #[decV ⟨false, md, ed⟩ a2 c2, .int .i64 0]) (by simp [results, Tryz.results27, go_sem, p0, p1, p2, decV]) rfl ?_
          rw [HE.out, HN.out]
          refine ⟨a2, c2, rfl, below_put HB2.out (Nat.le_succ _) _ _ _ _ _, owns_mono (owns_put HO2.out ?_ _ _ _ _ _) ?_⟩
          · simpa [World.setCell] using hlt
          · simpa [World.setCell] using hltw
    · have hne : ((er : Int) != 0) = true := by rw [bne_iff_ne]; omega
      have HZ : Hid (negD d = zeroD) := by
        rcases hz.out with h | h
        · exact absurd h h0
        · show negD d = zeroD; rw [h.2]; rfl
      clear h0
      go_wp2
      refine bodyPost_ret (v := .tuple #[decV zeroD none 0, .int .i64 er]) (by simp [results, Tryz.results27, go_sem, p0, p1, p2, decV, zeroD]; rfl) rfl ?_
      rw [HZ.out]
      exact ⟨none, 0, rfl, below_put HB.out (Nat.le_succ _) false none 0 0 0, World.ownsRow_nil _ _ _ _⟩

end Go.Proofs.YtphdncifcljmpaaGreatDoor
