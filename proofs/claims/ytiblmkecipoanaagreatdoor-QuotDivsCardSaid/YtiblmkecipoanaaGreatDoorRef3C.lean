/- The document's answer of chapter 03, third part: Div. -/
import Derived.Test.YtiblmkecipoanaaGreatDoorRef3B
import Derived.Test.YtiblmkecipoanaaGreatDoorRefJb
import Derived.Test.YtiblmkecipoanaaGreatDoorMh
import Derived.Deep.CutBlock
namespace Go.Proofs.YtiblmkecipoanaaGreatDoor
open Go.RowKit

theorem quotR_bounds {x y : D} (hx : x.m ≠ 0) (hy : y.m ≠ 0) (bx : (Num.digs 10 x.m).length ≤ 400 ∧ -10400 ≤ x.e ∧ x.e ≤ 10001) (bY : (Num.digs 10 y.m).length ≤ 400 ∧ -10400 ≤ y.e ∧ y.e ≤ 10001) :
    (Num.digs 10 (quotR x y).m).length ≤ 36 ∧ -30000 ≤ (quotR x y).e ∧ (quotR x y).e ≤ 60000 := by
  obtain ⟨b1, b2, b3, b4⟩ := quot_bounds hx hy bx.1 bY.1
  have p34 := (prog34 hx hy).2
  have hP : 0 < y.m * 10 ^ dropQ x.m y.m := Nat.mul_pos (Nat.pos_of_ne_zero hy) (pow_pos10 _)
  have hdr : dropQ x.m y.m ≤ 436 := by unfold dropQ; omega
  have hn : nearN (x.m * 10 ^ upQ x.m y.m) (y.m * 10 ^ dropQ x.m y.m) < 10 ^ 35 := by
    have h1 : x.m * 10 ^ upQ x.m y.m / (y.m * 10 ^ dropQ x.m y.m) < 10 * 10 ^ 33 := Nat.div_lt_of_lt_mul (by rw [Nat.mul_comm (y.m * 10 ^ dropQ x.m y.m)]; exact p34)
    unfold nearN
    split <;> omega
  have hd : (Num.digs 10 (nearN (x.m * 10 ^ upQ x.m y.m) (y.m * 10 ^ dropQ x.m y.m))).length ≤ 35 := (Num.digs_length_le (by decide)).2 hn
  unfold quotR
  refine ⟨Nat.le_trans (Num.digs_length_mono (by decide) (plain_m_le _ _ _)) (by omega), ?_⟩
  exact plain_e _ _ _ (by omega) (by omega)

set_option maxRecDepth 100000 in
set_option maxHeartbeats 6400000 in
theorem ref3_div_walk (g : Bool) (a : Option Addr) (n cap : Nat) (e : Int) (g2 : Bool) (a2 : Option Addr) (n2 cap2 : Nat) (e2 : Int) (w : World) (x y : D) (er : Nat)
    (CT : ∀ W, Below w.heap.size w W → Calls Tryz.prog 42 #[.agg #[.bool g, .slice a n cap, .int .i64 e], .agg #[.bool g2, .slice a2 n2 cap2, .int .i64 e2]] W (OutRDD W x y er))
    (hp : er = 0 → (IsPlain x ∧ fitsB x = true) ∧ (IsPlain y ∧ fitsB y = true)) :
    Calls Tryz.prog 12 #[.agg #[.bool g, .slice a n cap, .int .i64 e], .agg #[.bool g2, .slice a2 n2 cap2, .int .i64 e2]] w (OutDE w (divR er x y).1 (divR er x y).2) := by
  obtain ⟨r, hr⟩ : ∃ r, r = divR er x y := ⟨_, rfl⟩
  rw [← hr]
  unfold OutRDD refV at CT
  replace hr := hid hr
  replace CT := hid CT
  replace hp := hid hp
  go_enter Tryz.func12, Tryz.ntmps12
  go_upto_region 1 with fail
  go_cut [6, 7, 8] from 9 (fun v6 v7 v8 w' => ∃ N M b1 c1 b2 c2, v6 = .pointer (some ⟨N, 0, none⟩) ∧ v7 = .pointer (some ⟨M, 0, none⟩) ∧ v8 = .int .i64 er ∧ w.heap.size + 1 + 1 < N ∧ w.heap.size + 1 + 1 < M ∧ HasR w' N x b1 c1 ∧ HasR w' M y b2 c2 ∧ RdD w' x b1 c1 ∧ RdD w' y b2 c2 ∧ Rec w' (w.heap.size + 1 + 1) ∧ Below w.heap.size w w')
  case first =>
    go_wp2_with fail
    refine (CT.out _ ((((Below.refl _ _).alloc (Nat.le_refl _) _).alloc (by simp) _).alloc (by simp; omega) _)).mono ?_
    rintro e1 w1 ⟨b1, c1, b2, c2, rfl, hb1, hr1, hr2⟩
    have HB1 := hid (below_alloc (below_alloc (below_alloc hb1)))
    have hz1 : w.heap.size + 1 + 1 < w1.heap.size := by have := hb1.size; simp at this; omega
    have R3 := hid (show Rec w1 (w.heap.size + 1 + 1) from Rec.below ⟨_, _, _, _, _, _, by simpa using blk_new2 (w.alloc _) _ _⟩ hb1)
    have HI1 := hid hr1
    have HI2 := hid hr2
    clear hb1 hr1 hr2 CT
    go_wp2_with fail
    go_meet
    case rel =>
      have k1 := (Below.refl w1.heap.size w1).alloc (Nat.le_refl _) (.cells #[.bool x.neg, .slice b1 (Num.digs 10 x.m).length c1, .int .i64 x.e] 57)
      have k2 := k1.alloc (by simp) (.cells #[.bool y.neg, .slice b2 (Num.digs 10 y.m).length c2, .int .i64 y.e] 57)
      have s2 := HasR.new (w1.alloc (.cells #[.bool x.neg, .slice b1 (Num.digs 10 x.m).length c1, .int .i64 x.e] 57)) y b2 c2 57
      have s1 := HasR.new w1 x b1 c1 57
      exact ⟨w1.heap.size, w1.heap.size + 1, b1, c1, b2, c2, rfl, rfl, rfl, hz1, by omega, s1.below ((Below.refl _ _).alloc (Nat.le_refl _) _), by simpa using s2, HI1.out.below k2, HI2.out.below k2, R3.out.below k2, below_trans HB1.out k2⟩
  case rest =>
    obtain ⟨N, M, b1, c1, b2, c2, rfl, rfl, rfl, n1, n2', h1, h2, h3, h4, h5, h6⟩ := hcut
    obtain ⟨⟨k0, k1, k2⟩, _⟩ := h1.get
    obtain ⟨⟨q0, q1, q2⟩, _⟩ := h2.get
    have z1 := h1.lt
    have z2 := h2.lt
    obtain ⟨r0, r1, r2, p0, p1, p2⟩ := h5.cells.get
    have f0 := h5.cells.frozen 0
    have f1 := h5.cells.frozen 1
    have f2 := h5.cells.frozen 2
    have HR1 := hid h3
    have HR2 := hid h4
    have HRC := hid h5
    have HB := hid h6
    have hlt := h5.lt
    clear h1 h2 h3 h4 h5 h6 CT n1 n2'
    by_cases h0 : er = 0
    · obtain ⟨⟨px, fx⟩, ⟨py, fy⟩⟩ := hp.out h0
      have bx := plain_bounds px fx
      have bY := plain_bounds py fy
      have hne : ((er : Int) != 0) = false := by rw [bne_eq_false_iff_eq]; omega
      have zx : (Num.digs 10 x.m).length = 0 ↔ x.m = 0 := by rw [List.length_eq_zero_iff]; exact Num.digs_eq_nil (by decide)
      have zy : (Num.digs 10 y.m).length = 0 ↔ y.m = 0 := by rw [List.length_eq_zero_iff]; exact Num.digs_eq_nil (by decide)
      by_cases hy : y.m = 0
      · have hR := hid (show r = (zeroD, 4) by rw [hr.out]; unfold divR; rw [if_neg (by omega), if_pos hy])
        have iy : (((Num.digs 10 y.m).length : Int) == 0) = true := by rw [beq_iff_eq]; have := zy.2 hy; omega
        clear h0 hp hr px fx py fy bx bY zx zy hy
        go_wp2
        refine bodyPost_ret (v := .tuple #[decV zeroD none 0, .int .i64 4]) (by simp [results, Tryz.results12, go_sem, p0, p1, p2, decV, zeroD]; rfl) rfl ?_
        rw [hR.out]
        exact ⟨none, 0, rfl, below_put HB.out (by omega) false none 0 0 0, World.ownsRow_nil _ _ _ _⟩
      · have iy : (((Num.digs 10 y.m).length : Int) == 0) = false := by rw [beq_eq_false_iff_ne]; intro h; exact hy (zy.1 (by omega))
        by_cases hx : x.m = 0
        · have hR := hid (show r = (zeroD, 0) by rw [hr.out]; unfold divR; rw [if_neg (by omega), if_neg hy, if_pos hx])
          have ix : (((Num.digs 10 x.m).length : Int) == 0) = true := by rw [beq_iff_eq]; have := zx.2 hx; omega
          clear h0 hp hr px fx py fy bx bY zx zy hy hx
          go_wp2
          refine bodyPost_ret (v := .tuple #[decV zeroD none 0, .int .i64 0]) (by simp [results, Tryz.results12, go_sem, p0, p1, p2, decV, zeroD]; rfl) rfl ?_
          rw [hR.out]
          exact ⟨none, 0, rfl, below_put HB.out (by omega) false none 0 0 0, World.ownsRow_nil _ _ _ _⟩
        · have ix : (((Num.digs 10 x.m).length : Int) == 0) = false := by rw [beq_eq_false_iff_ne]; intro h; exact hx (zx.1 (by omega))
          have CQ := ref3_Quotient x y b1 c1 b2 c2 wc HR1.out HR2.out hx hy bx bY
          have hb := quotR_bounds hx hy bx bY
          have hR := hr.out
          unfold divR at hR
          rw [if_neg (by omega), if_neg hy, if_neg hx] at hR
          obtain ⟨d, hd⟩ : ∃ d, d = quotR x y := ⟨_, rfl⟩
          rw [← hd] at CQ hb hR
          obtain ⟨t, ht⟩ : ∃ t, t = tellR d := ⟨_, rfl⟩
          have CE := fun W (ap : Option Addr) (cp : Nat) (hi : RdD W d ap cp) => ref2_Tell d ap cp W hi.1 (by omega) (by omega)
          rw [← ht] at CE hR
          unfold OutRD refV at CQ
          unfold OutDE refV decV at CE
          have HRT := hid hR
          replace CQ := hid CQ
          replace CE := hid CE
          clear h0 hp hr px fx py fy bx bY zx zy hy hx hb hd ht hR
          go_wp2_with fail
          refine CQ.out.mono ?_
          rintro e3 w3 ⟨a3, c3, rfl, hb3, hr3⟩
          have HB3 := hid (below_trans HB.out hb3)
          have HRC3 := hid (HRC.out.below hb3)
          have HR3 := hid hr3
          clear hb3 hr3 CQ
          go_wp2_with fail
          refine (CE.out _ _ _ HR3.out).mono ?_
          rintro e4 w4 ⟨a4, c4, rfl, ho4⟩
          have HB4 := hid (below_trans HB3.out ho4.1)
          have HRC4 := hid (HRC3.out.below ho4.1)
          have hle3 := HB3.out.size
          have hlt3 := HRC3.out.lt
          have HO4 := hid (owns_mono (owns_set3 (R := w.heap.size + 1 + 1) ho4.2 (by omega) (.bool t.1.neg) (.slice a4 (Num.limbs t.1.m).length c4) (.int .i64 t.1.e)) (show w.heap.size ≤ _ by omega))
          clear ho4 CE HR3 p0 p1 p2 f0 f1 f2 HB HRC HR1 HR2
          obtain ⟨_, _, _, p0, p1, p2⟩ := HRC4.out.cells.get
          have f0 := HRC4.out.cells.frozen 0
          have f1 := HRC4.out.cells.frozen 1
          have f2 := HRC4.out.cells.frozen 2
          go_wp2_with fail
          refine bodyPost_ret (v := .tuple #[decV t.1 a4 c4, .int .i64 t.2]) (by simp [results, Tryz.results12, go_sem, p0, p1, p2, decV]) rfl ?_
          rw [HRT.out]
          exact ⟨a4, c4, rfl, below_put HB4.out (by omega) _ _ _ _ _, HO4.out⟩
    · have hne : ((er : Int) != 0) = true := by rw [bne_iff_ne]; omega
      have HR := hid (show r = (zeroD, er) by rw [hr.out]; unfold divR; rw [if_pos h0])
      clear h0 hp hr
      go_wp2
      refine bodyPost_ret (v := .tuple #[decV zeroD none 0, .int .i64 er]) (by simp [results, Tryz.results12, go_sem, p0, p1, p2, decV, zeroD]; rfl) rfl ?_
      rw [HR.out]
      exact ⟨none, 0, rfl, below_put HB.out (by omega) false none 0 0 0, World.ownsRow_nil _ _ _ _⟩

theorem ref3_Div {g g2 : Bool} {xs ys : List Nat} {e e2 : Int} {ex ey : Nat} {x y : D} (W : World) (b : Option Addr) (c : Nat) (b2 : Option Addr) (c2 : Nat) (hx : Is g xs e ex x) (hy : Is g2 ys e2 ey y) (h : U32 W b xs) (h2 : U32 W b2 ys) :
    Calls Tryz.prog 12 #[.agg #[.bool g, .slice b xs.length c, .int .i64 e], .agg #[.bool g2, .slice b2 ys.length c2, .int .i64 e2]] W (OutDE W (divR (bothE ex ey) x y).1 (divR (bothE ex ey) x y).2) := by
  obtain ⟨rfl, rfl⟩ := hx
  obtain ⟨rfl, rfl⟩ := hy
  refine ref3_div_walk g b xs.length c e g2 b2 ys.length c2 e2 W _ _ _ (fun W' hb => ref2_Two g b c e xs g2 b2 c2 e2 ys W' (h.below hb) (h2.below hb)) ?_
  intro h0
  obtain ⟨z1, z2⟩ := bothE_zero h0
  exact ⟨taken_facts z1, taken_facts z2⟩

end Go.Proofs.YtiblmkecipoanaaGreatDoor
