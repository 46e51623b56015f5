/- The document's answer of chapter 03, sixth part: Round, Abs, Whole. -/
import Derived.Test.YtiblmkecipoanaaGreatDoorRef3E
import Derived.Test.YtiblmkecipoanaaGreatDoorMi
import Derived.Deep.CutBlock
namespace Go.Proofs.YtiblmkecipoanaaGreatDoor
open Go.RowKit

set_option maxRecDepth 100000 in
set_option maxHeartbeats 3200000 in
theorem ref3_Round (g : Bool) (a : Option Addr) (cap : Nat) (e : Int) (xs : List Nat) (w : World) (way : Nat) (hway : way ≤ 3) (h : U32 w a xs) :
    Calls Tryz.prog 25 #[.agg #[.bool g, .slice a xs.length cap, .int .i64 e], .int .i64 way] w
      (OutDE w (roundR (takenE g xs.length (Num.worth xs) e) (takenD g xs.length (Num.worth xs) e) way).1 (roundR (takenE g xs.length (Num.worth xs) e) (takenD g xs.length (Num.worth xs) e) way).2) := by
  have CT := fun W (hb : Below w.heap.size w W) => ref2_Take g a cap e xs W (h.below hb)
  have bd := taken_bounds (g := g) (e := e) h.lt
  have gd := (tk_taken g xs.length (Num.worth xs) e).good
  have hz := takenE_cases g xs.length (Num.worth xs) e
  obtain ⟨d, hd⟩ : ∃ d, d = takenD g xs.length (Num.worth xs) e := ⟨_, rfl⟩
  obtain ⟨er, her⟩ : ∃ r, r = takenE g xs.length (Num.worth xs) e := ⟨_, rfl⟩
  rw [← hd, ← her] at CT hz ⊢
  rw [← hd] at bd gd
  obtain ⟨r, hr⟩ : ∃ r, r = roundR er d way := ⟨_, rfl⟩
  rw [← hr]
  obtain ⟨n, hn⟩ : ∃ n, n = xs.length := ⟨_, rfl⟩
  rw [← hn] at CT ⊢
  replace CT := hid CT
  replace bd := hid bd
  replace gd := hid gd
  replace hz := hid hz
  replace hr := hid hr
  clear h hd her hn
  go_enter Tryz.func25, Tryz.ntmps25
  go_upto_region 1 with fail
  go_cut [2, 4, 6, 7] from 8 (fun v2 v4 v6 v7 w' => ∃ N b c, v2 = .pointer (some ⟨w.heap.size, 0, none⟩) ∧ v4 = .pointer (some ⟨w.heap.size + 1, 0, none⟩) ∧ v6 = .pointer (some ⟨N, 0, none⟩) ∧ v7 = .int .i64 er ∧ HasR w' N d b c ∧ w.heap.size + 1 < N ∧ RdD w' d b c ∧ Rec w' (w.heap.size + 1) ∧ Below w.heap.size w w')
  case first =>
    go_wp2_with fail
    refine (CT.out _ (((Below.refl _ _).alloc (Nat.le_refl _) _).alloc (by simp) _)).mono ?_
    rintro e1 w1 ⟨b1, c1, rfl, hb1, hr1⟩
    have HB1 := hid (below_alloc (below_alloc hb1))
    have hz1 : w.heap.size + 1 < w1.heap.size := by have := hb1.size; simp at this; omega
    have HR := hid ((show Rec ((w.alloc _).alloc _) (w.heap.size + 1) from ⟨_, _, _, _, _, _, blk_new2 w _ _⟩).below hb1)
    have HI := hid hr1
    clear hb1 hr1 CT
    unfold refV
    go_wp2_with fail
    go_meet
    case rel =>
      have k1 := (Below.refl w1.heap.size w1).alloc (Nat.le_refl _) (.cells #[.bool d.neg, .slice b1 (Num.digs 10 d.m).length c1, .int .i64 d.e] 57)
      exact ⟨w1.heap.size, b1, c1, rfl, rfl, rfl, rfl, HasR.new _ _ _ _ _, hz1, HI.out.below k1, HR.out.below k1, below_trans HB1.out k1⟩
  case rest =>
    obtain ⟨N, b, c, rfl, rfl, rfl, rfl, hblk, hNl, hrd, hrec, hb⟩ := hcut
    obtain ⟨⟨k0, k1, k2⟩, _⟩ := hblk.get
    have z0 := hblk.lt
    obtain ⟨r0, r1, r2, p0, p1, p2⟩ := hrec.cells.get
    have f0 := hrec.cells.frozen 0
    have f1 := hrec.cells.frozen 1
    have f2 := hrec.cells.frozen 2
    have HRD := hid hrd
    have HREC := hid hrec
    have HB := hid hb
    clear hblk hrd hrec hb CT
    by_cases h0 : er = 0
    · have hne : ((er : Int) != 0) = false := by rw [bne_eq_false_iff_eq]; omega
      have CR := ref3_Rounded d b c wc way hway HRD.out gd.out.1 bd.out
      have rb := roundD_bounds way bd.out
      have hR := hr.out
      rw [h0, round_tell gd.out] at hR
      obtain ⟨q, hq⟩ : ∃ q, q = roundD d way := ⟨_, rfl⟩
      rw [← hq] at CR rb hR
      obtain ⟨t, ht⟩ : ∃ t, t = tellR q := ⟨_, rfl⟩
      have CE := fun W (ap : Option Addr) (cp : Nat) (hi : RdD W q ap cp) => ref2_Tell q ap cp W hi.1 (by omega) (by omega)
      rw [← ht] at CE hR
      unfold OutRD refV at CR
      unfold OutDE refV decV at CE
      have HRT := hid hR
      replace CR := hid CR
      replace CE := hid CE
      clear h0 hr rb hq ht hR
      go_wp2_with fail
      refine CR.out.mono ?_
      rintro e3 w3 ⟨a3, c3, rfl, hb3, hr3⟩
      have HB3 := hid (below_trans HB.out hb3)
      have HRC3 := hid (HREC.out.below hb3)
      have HR3 := hid hr3
      clear hb3 hr3 CR
      go_wp2_with fail
      refine (CE.out _ _ _ HR3.out).mono ?_
      rintro e4 w4 ⟨a4, c4, rfl, ho4⟩
      have HB4 := hid (below_trans HB3.out ho4.1)
      have HRC4 := hid (HRC3.out.below ho4.1)
      have hle3 := HB3.out.size
      have hlt3 := HRC3.out.lt
      have HO4 := hid (owns_mono (owns_set3 (R := w.heap.size + 1) ho4.2 (by omega) (.bool t.1.neg) (.slice a4 (Num.limbs t.1.m).length c4) (.int .i64 t.1.e)) (show w.heap.size ≤ _ by omega))
      clear ho4 CE HR3 p0 p1 p2 f0 f1 f2 HB HREC HRD
      obtain ⟨_, _, _, p0, p1, p2⟩ := HRC4.out.cells.get
      have f0 := HRC4.out.cells.frozen 0
      have f1 := HRC4.out.cells.frozen 1
      have f2 := HRC4.out.cells.frozen 2
      go_wp2_with fail
      refine bodyPost_ret (v := .tuple #[decV t.1 a4 c4, .int .i64 t.2]) (by simp [results, Tryz.results25, go_sem, p0, p1, p2, decV]) rfl ?_
      rw [HRT.out]
      exact ⟨a4, c4, rfl, below_put HB4.out (by omega) _ _ _ _ _, HO4.out⟩
    · have hne : ((er : Int) != 0) = true := by rw [bne_iff_ne]; omega
      have HR := hid (show r = (zeroD, er) by
        rw [hr.out, round_bad h0]
        rcases hz.out with h | h
        · exact absurd h h0
        · rw [h.2])
      clear h0 hr hz
      go_wp2
      refine bodyPost_ret (v := .tuple #[decV zeroD none 0, .int .i64 er]) (by simp [results, Tryz.results25, go_sem, p0, p1, p2, decV, zeroD]; rfl) rfl ?_
      rw [HR.out]
      exact ⟨none, 0, rfl, below_put HB.out (by omega) false none 0 0 0, World.ownsRow_nil _ _ _ _⟩

set_option maxRecDepth 100000 in
set_option maxHeartbeats 3200000 in
theorem ref3_Abs (g : Bool) (a : Option Addr) (cap : Nat) (e : Int) (xs : List Nat) (w : World) (h : U32 w a xs) :
    Calls Tryz.prog 26 #[.agg #[.bool g, .slice a xs.length cap, .int .i64 e]] w (OutDE w (absD (takenD g xs.length (Num.worth xs) e)) (takenE g xs.length (Num.worth xs) e)) := by
  have CT := fun W (hb : Below w.heap.size w W) => ref2_Take g a cap e xs W (h.below hb)
  have bd := taken_bounds (g := g) (e := e) h.lt
  have hz := takenE_cases g xs.length (Num.worth xs) e
  obtain ⟨d, hd⟩ : ∃ d, d = takenD g xs.length (Num.worth xs) e := ⟨_, rfl⟩
  obtain ⟨er, her⟩ : ∃ r, r = takenE g xs.length (Num.worth xs) e := ⟨_, rfl⟩
  rw [← hd, ← her] at CT hz ⊢
  rw [← hd] at bd
  obtain ⟨n, hn⟩ : ∃ n, n = xs.length := ⟨_, rfl⟩
  rw [← hn] at CT ⊢
  obtain ⟨r, hr⟩ : ∃ r, r = absD d := ⟨_, rfl⟩
  rw [← hr]
  replace CT := hid CT
  replace bd := hid bd
  replace hz := hid hz
  replace hr := hid hr
  clear h hd her hn
  go_enter Tryz.func26, Tryz.ntmps26
  go_upto_region 1 with fail
  go_cut [2, 4, 5] from 6 (fun v2 v4 v5 w' => ∃ N b c, v2 = .pointer (some ⟨w.heap.size + 1, 0, none⟩) ∧ v4 = .pointer (some ⟨N, 0, none⟩) ∧ v5 = .int .i64 er ∧ HasR w' N d b c ∧ w.heap.size + 1 < N ∧ RdD w' d b c ∧ Rec w' (w.heap.size + 1) ∧ Below w.heap.size w w')
  case first =>
    go_wp2_with fail
    refine (CT.out _ (((Below.refl _ _).alloc (Nat.le_refl _) _).alloc (by simp) _)).mono ?_
    rintro e1 w1 ⟨b1, c1, rfl, hb1, hr1⟩
    have HB1 := hid (below_alloc (below_alloc hb1))
    have hz1 : w.heap.size + 1 < w1.heap.size := by have := hb1.size; simp at this; omega
    have HR := hid ((show Rec ((w.alloc _).alloc _) (w.heap.size + 1) from ⟨_, _, _, _, _, _, blk_new2 w _ _⟩).below hb1)
    have HI := hid hr1
    clear hb1 hr1 CT
    unfold refV
    go_wp2_with fail
    go_meet
    case rel =>
      have k1 := (Below.refl w1.heap.size w1).alloc (Nat.le_refl _) (.cells #[.bool d.neg, .slice b1 (Num.digs 10 d.m).length c1, .int .i64 d.e] 57)
      exact ⟨w1.heap.size, b1, c1, rfl, rfl, rfl, HasR.new _ _ _ _ _, hz1, HI.out.below k1, HR.out.below k1, below_trans HB1.out k1⟩
  case rest =>
    obtain ⟨N, b, c, rfl, rfl, rfl, hblk, hNl, hrd, hrec, hb⟩ := hcut
    obtain ⟨⟨k0, k1, k2⟩, fk0, _⟩ := hblk.get
    have z0 := hblk.lt
    obtain ⟨r0, r1, r2, p0, p1, p2⟩ := hrec.cells.get
    have f0 := hrec.cells.frozen 0
    have f1 := hrec.cells.frozen 1
    have f2 := hrec.cells.frozen 2
    have HRD := hid hrd
    have HREC := hid hrec
    have HB := hid hb
    have HBK := hid hblk
    have hlt := hrec.lt
    clear hblk hrd hrec hb CT
    by_cases h0 : er = 0
    · have hne : ((er : Int) != 0) = false := by rw [bne_eq_false_iff_eq]; omega
      have HE := hid h0
      clear h0
      have HP := hid (HRD.out.1)
      have CO1 := fun W (r : U8 W b (Num.digs 10 d.m)) => ref2_To (absD d) b c W r (by show (Num.digs 10 d.m).length ≤ _; have := bd.out; omega)
      unfold refV at CO1
      rw [← hr.out] at CO1
      have hr0 : r.neg = false := by rw [hr.out]; rfl
      have hrm : r.m = d.m := by rw [hr.out]; rfl
      have hre : r.e = d.e := by rw [hr.out]; rfl
      rw [hr0, hrm, hre] at CO1
      have HRN := hid hr0
      have HRM := hid hrm
      have HRE := hid hre
      have HBR := hid (show Rec wc N from HBK.out.rec)
      replace CO1 := hid CO1
      clear HBK hz bd HRD hr0 hrm hre
      go_wp2_with fail
      refine (CO1.out _ (HP.out.set1 HBR.out 0 _)).mono ?_
      rintro e2 w2 ⟨a2, c2, rfl, ho2⟩
      have HB2 := hid (below_trans (HB.out.setCell (p := ⟨N, 0, none⟩) (by simp only; omega) _) ho2.1)
      have HO2 := hid ho2.2
      have hr2 := (HREC.out.set1 (show w.heap.size + 1 ≠ N by omega) 0 _).below ho2.1
      have hltw : w.heap.size ≤ wc.heap.size := HB.out.size
      clear ho2 p0 p1 p2 f0 f1 f2 k0 k1 k2 CO1 fk0
      obtain ⟨s0, s1, s2, p0, p1, p2⟩ := hr2.cells.get
      have f0 := hr2.cells.frozen 0
      have f1 := hr2.cells.frozen 1
      have f2 := hr2.cells.frozen 2
      clear hr2
      unfold decV
      go_wp2
      refine bodyPost_ret (v := .tuple #[decV r a2 c2, .int .i64 0]) (by simp [results, Tryz.results26, go_sem, p0, p1, p2, decV]) rfl ?_
      rw [HE.out]
      refine ⟨a2, c2, rfl, below_put HB2.out (Nat.le_succ _) _ _ _ _ _, owns_mono (owns_put HO2.out ?_ _ _ _ _ _) ?_⟩
      · simpa [World.setCell] using hlt
      · simpa [World.setCell] using hltw
    · have hne : ((er : Int) != 0) = true := by rw [bne_iff_ne]; omega
      have HZ : Hid (r = zeroD) := hid (by
        rcases hz.out with h | h
        · exact absurd h h0
        · rw [hr.out, h.2]; rfl)
      clear h0 hr
      go_wp2
      refine bodyPost_ret (v := .tuple #[decV zeroD none 0, .int .i64 er]) (by simp [results, Tryz.results26, go_sem, p0, p1, p2, decV, zeroD]; rfl) rfl ?_
      rw [HZ.out]
      exact ⟨none, 0, rfl, below_put HB.out (Nat.le_succ _) false none 0 0 0, World.ownsRow_nil _ _ _ _⟩

set_option maxRecDepth 100000 in
set_option maxHeartbeats 1600000 in
theorem ref3_Whole (g : Bool) (a : Option Addr) (cap : Nat) (e : Int) (xs : List Nat) (w : World) (h : U32 w a xs) :
    Calls Tryz.prog 19 #[.agg #[.bool g, .slice a xs.length cap, .int .i64 e]] w fun en w' =>
      en = .returned (.bool (decide (takenE g xs.length (Num.worth xs) e = 0) && decide (0 ≤ (takenD g xs.length (Num.worth xs) e).e))) ∧ Below w.heap.size w w' := by
  have CT := fun W (hb : Below w.heap.size w W) => ref2_Take g a cap e xs W (h.below hb)
  obtain ⟨d, hd⟩ : ∃ d, d = takenD g xs.length (Num.worth xs) e := ⟨_, rfl⟩
  obtain ⟨er, her⟩ : ∃ r, r = takenE g xs.length (Num.worth xs) e := ⟨_, rfl⟩
  rw [← hd, ← her] at CT ⊢
  obtain ⟨n, hn⟩ : ∃ n, n = xs.length := ⟨_, rfl⟩
  rw [← hn] at CT ⊢
  obtain ⟨v, hv⟩ : ∃ v, v = (decide (er = 0) && decide (0 ≤ d.e)) := ⟨_, rfl⟩
  rw [← hv]
  unfold OutRDE refV at CT
  replace CT := hid CT
  replace hv := hid hv
  clear h hd her hn
  go_enter Tryz.func19, Tryz.ntmps19
  go_wp2_with fail
  refine (CT.out _ ((Below.refl _ _).alloc (Nat.le_refl _) _)).mono ?_
  rintro e1 w1 ⟨b1, c1, rfl, hb1, hr1⟩
  have HB1 := hid (below_alloc hb1)
  clear hb1 hr1 CT
  by_cases h0 : er = 0
  · have heq : ((er : Int) == 0) = true := by rw [beq_iff_eq]; omega
    have hV := hid (show v = decide (0 ≤ d.e) by rw [hv.out, decide_eq_true h0, Bool.true_and])
    clear h0 hv
    by_cases hd : 0 ≤ d.e
    · have HV2 := hid (show v = true by rw [hV.out, decide_eq_true hd])
      clear hV
      go_wp2
      go_ret
      exact ⟨ret_bool (by rw [HV2.out]), HB1.out.alloc HB1.out.size _⟩
    · have HV2 := hid (show v = false by rw [hV.out, decide_eq_false hd])
      clear hV
      go_wp2
      go_ret
      exact ⟨ret_bool (by rw [HV2.out]; simp; omega), HB1.out.alloc HB1.out.size _⟩
  · have heq : ((er : Int) == 0) = false := by rw [beq_eq_false_iff_ne]; omega
    have HV2 := hid (show v = false by rw [hv.out, decide_eq_false h0, Bool.false_and])
    clear h0 hv
    go_wp2
    go_ret
    exact ⟨ret_bool (by rw [HV2.out]), HB1.out.alloc HB1.out.size _⟩

end Go.Proofs.YtiblmkecipoanaaGreatDoor
