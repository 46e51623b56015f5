/- The document's answer, ninth part: Norm, May, Two, low, at. -/
import Derived.Test.YtgbgkodjjgjhgaaGreatDoorRefJb
import Derived.Deep.CutBlock
namespace Go.Proofs.YtgbgkodjjgjhgaaGreatDoor
open Go.RowKit

set_option maxRecDepth 100000 in
set_option maxHeartbeats 1600000 in
theorem ref2_Norm (g : Bool) (a : Option Addr) (cap : Nat) (e : Int) (xs : List Nat) (w : World) (h : U32 w a xs) :
    Calls Tryz.prog 88 #[.agg #[.bool g, .slice a xs.length cap, .int .i64 e]] w (OutDE w (takenD g xs.length (Num.worth xs) e) (takenE g xs.length (Num.worth xs) e)) := by
  have CT := fun W (hb : Below w.heap.size w W) => ref2_Take g a cap e xs W (h.below hb)
  have bd := taken_bounds (g := g) (e := e) h.lt
  have hz := takenE_cases g xs.length (Num.worth xs) e
  obtain ⟨d, hd⟩ : ∃ d, d = takenD g xs.length (Num.worth xs) e := ⟨_, rfl⟩
  obtain ⟨er, her⟩ : ∃ r, r = takenE g xs.length (Num.worth xs) e := ⟨_, rfl⟩
  rw [← hd, ← her] at CT hz ⊢
  rw [← hd] at bd
  obtain ⟨n, hn⟩ : ∃ n, n = xs.length := ⟨_, rfl⟩
  rw [← hn] at CT ⊢
  replace CT := hid CT
  replace bd := hid bd
  replace hz := hid hz
  clear h hd her hn
  go_enter Tryz.func88, Tryz.ntmps88
  go_upto_region 1 with fail
  go_cut [2, 4, 5] from 6 (fun v2 v4 v5 w' => ∃ N b c, v2 = .pointer (some ⟨w.heap.size + 1, 0, none⟩) ∧ v4 = .pointer (some ⟨N, 0, none⟩) ∧ v5 = .int .i64 er ∧ w'.heap[N]? = some (.cells #[.bool d.neg, .slice b (Num.digs 10 d.m).length c, .int .i64 d.e] 95) ∧ RdD w' d b c ∧ Rec w' (w.heap.size + 1) ∧ Below w.heap.size w w')
  case first =>
    go_wp2_with fail
    refine (CT.out _ (((Below.refl _ _).alloc (Nat.le_refl _) _).alloc (by simp) _)).mono ?_
    rintro e1 w1 ⟨b1, c1, rfl, hb1, hr1⟩
    have HB1 := hid (below_alloc (below_alloc hb1))
    have HR := hid ((show Rec ((w.alloc _).alloc _) (w.heap.size + 1) from ⟨_, _, _, _, _, _, blk_new2 w _ _⟩).below hb1)
    have HI := hid hr1
    clear hb1 hr1 CT
    unfold refV
    go_wp2_with fail
    go_meet
    case rel =>
      have k1 := (Below.refl w1.heap.size w1).alloc (Nat.le_refl _) (.cells #[.bool d.neg, .slice b1 (Num.digs 10 d.m).length c1, .int .i64 d.e] 95)
      exact ⟨w1.heap.size, b1, c1, rfl, rfl, rfl, blk_new w1 _, HI.out.below k1, HR.out.below k1, below_trans HB1.out k1⟩
  case rest =>
    obtain ⟨N, b, c, rfl, rfl, rfl, hblk, hrd, hrec, hb⟩ := hcut
    obtain ⟨⟨k0, k1, k2⟩, _⟩ := blk_three hblk
    have z0 := blk_lt hblk
    obtain ⟨r0, r1, r2, p0, p1, p2⟩ := hrec.cells.get
    have f0 := hrec.cells.frozen 0
    have f1 := hrec.cells.frozen 1
    have f2 := hrec.cells.frozen 2
    have HRD := hid hrd
    have HREC := hid hrec
    have HB := hid hb
    have hlt := hrec.lt
    clear hblk hrd hrec hb CT
    by_cases h0 : er = 0
    · have hne : ((er : Int) != 0) = false := by rw [bne_eq_false_iff_eq]; omega
      have CO := ref2_To d b c wc HRD.out.1 (by have := bd.out; omega)
      unfold refV at CO
      replace CO := hid CO
      have HE := hid h0
      clear h0
      go_wp2_with fail
      refine (CO.out).mono ?_
      rintro e2 w2 ⟨a2, c2, rfl, ho2⟩
      have HB2 := hid (below_trans HB.out ho2.1)
      have HO2 := hid ho2.2
      have hr2 := HREC.out.below ho2.1
      clear ho2 p0 p1 p2 f0 f1 f2 k0 k1 k2 CO
      obtain ⟨s0, s1, s2, p0, p1, p2⟩ := hr2.cells.get
      have f0 := hr2.cells.frozen 0
      have f1 := hr2.cells.frozen 1
      have f2 := hr2.cells.frozen 2
      clear hr2
      unfold decV
      go_wp2
      refine bodyPost_ret (v := .tuple #[decV d a2 c2, .int .i64 0]) (by simp [results, Tryz.results88, go_sem, p0, p1, p2, decV]) rfl ?_
      rw [HE.out]
      exact ⟨a2, c2, rfl, below_put HB2.out (Nat.le_succ _) _ _ _ _ _, owns_mono (owns_put HO2.out hlt _ _ _ _ _) HB.out.size⟩
    · have hne : ((er : Int) != 0) = true := by rw [bne_iff_ne]; omega
      have HZ : Hid (d = zeroD) := by
        rcases hz.out with h | h
        · exact absurd h h0
        · exact h.2
      clear h0
      go_wp2
      refine bodyPost_ret (v := .tuple #[decV zeroD none 0, .int .i64 er]) (by simp [results, Tryz.results88, go_sem, p0, p1, p2, decV, zeroD]; rfl) rfl ?_
      rw [HZ.out]
      exact ⟨none, 0, rfl, below_put HB.out (Nat.le_succ _) false none 0 0 0, World.ownsRow_nil _ _ _ _⟩

set_option maxRecDepth 100000 in
set_option maxHeartbeats 1600000 in
theorem ref2_May (g : Bool) (a : Option Addr) (cap : Nat) (e : Int) (xs : List Nat) (w : World) (h : U32 w a xs) :
    Calls Tryz.prog 70 #[.agg #[.bool g, .slice a xs.length cap, .int .i64 e]] w fun en w' => en = .returned (.bool (mayB g xs e)) ∧ Below w.heap.size w w' := by
  have C := fun W (hb : Below w.heap.size w W) => ref2_Norm g a cap e xs W (h.below hb)
  have HU := hid h
  have bd := taken_bounds (g := g) (e := e) h.lt
  obtain ⟨r, hr⟩ : ∃ r, r = mayB g xs e := ⟨_, rfl⟩
  rw [← hr]
  rcases takenE_cases g xs.length (Num.worth xs) e with h0 | ⟨h0, hz⟩
  · unfold mayB at hr
    rw [h0] at C hr
    obtain ⟨d, hdd⟩ : ∃ d, d = takenD g xs.length (Num.worth xs) e := ⟨_, rfl⟩
    rw [← hdd] at C hr bd
    have hlm := limbs_400 bd.1
    have HR := hid (show r = decide (d.neg = g ∧ d.e = e ∧ Num.limbs d.m = xs) by rw [hr]; simp)
    replace C := hid C
    clear h h0 hdd hr bd
    go_enter Tryz.func70, Tryz.ntmps70
    go_wp2_with fail
    refine (C.out _ ((Below.refl _ _).alloc (Nat.le_refl _) _)).mono ?_
    rintro e1 w1 ⟨a1, c1, he, ho⟩
    have HI := hid ho.inD
    have HB := hid (below_alloc ho.1)
    obtain ⟨⟨k0, k1, k2⟩, _⟩ := blk_three (blk_below (blk_new w _) ho.1)
    have hz1 : w.heap.size < w1.heap.size := by have := ho.1.size; simp at this; omega
    unfold decV at he
    subst he
    clear ho C
    go_wp2_with fail
    refine (ref2_Same d.neg g a1 a c1 cap d.e e (Num.limbs d.m) xs _ (HI.out.u.below ((Below.refl _ _).alloc (Nat.le_refl _) _)) ((HU.out.below HB.out).below ((Below.refl _ _).alloc (Nat.le_refl _) _)) (by omega)).mono ?_
    rw [← HR.out]
    rintro e2 w2 ⟨rfl, hb2⟩
    have HB2 := hid (below_trans HB.out (below_alloc hb2))
    clear hb2 k0 k1 k2
    go_wp2
    go_ret
    exact ⟨rfl, HB2.out⟩
  · have hr' : r = false := by rw [hr]; unfold mayB; rw [decide_eq_false_iff_not]; exact fun h => h0 h.1
    subst hr'
    rw [hz] at C
    obtain ⟨er, her⟩ : ∃ er, er = takenE g xs.length (Num.worth xs) e := ⟨_, rfl⟩
    rw [← her] at C h0
    have h0' : ((er : Int) == 0) = false := by rw [beq_eq_false_iff_ne]; omega
    replace C := hid C
    clear h h0 hz her hr bd
    go_enter Tryz.func70, Tryz.ntmps70
    go_wp2_with fail
    refine (C.out _ ((Below.refl _ _).alloc (Nat.le_refl _) _)).mono ?_
    rintro e1 w1 ⟨a1, c1, he, ho⟩
    have HB := hid (below_alloc ho.1)
    unfold decV at he
    subst he
    clear ho C
    go_wp2
    go_ret
    exact ⟨rfl, HB.out.alloc HB.out.size _⟩

theorem ref2_low (x y : Int) (w : World) :
    Calls Tryz.prog 119 #[.int .i64 x, .int .i64 y] w fun e w' => e = .returned (.int .i64 (min x y)) ∧ w = w' := by
  by_cases h : x < y
  · rw [show min x y = x by omega]
    go_enter Tryz.func119, Tryz.ntmps119
    go_wp2
    go_ret
    exact ⟨rfl, rfl⟩
  · rw [show min x y = y by omega]
    go_enter Tryz.func119, Tryz.ntmps119
    go_wp2
    go_ret
    exact ⟨rfl, rfl⟩

theorem ref2_at (d : D) (a : Option Addr) (cap : Nat) (k : Int) (p : Nat) (w : World) (h : RdD w d a cap) (hl : (Num.digs 10 d.m).length ≤ 1000000) (hk : d.e = k + p) (hp : p ≤ 1000000) :
    Calls Tryz.prog 120 #[refV d a cap, .int .i64 k] w (OutR8 w (Num.digs 10 (d.m * 10 ^ p))) := by
  have CS := fun W (hb : Below w.heap.size w W) => ref1_Shift a cap d.m p W (h.1.below hb) h.2.2.2 (by omega) (by omega)
  have hw := hid (show IntKind.i64.wrap (d.e - k) = (p : Int) by rw [IntKind.wrap_i64]; omega)
  obtain ⟨n, hn⟩ : ∃ n, n = (Num.digs 10 d.m).length := ⟨_, rfl⟩
  unfold refV
  rw [← hn] at CS ⊢
  replace CS := hid CS
  clear h hl hk hn
  have hw := hw.out
  go_enter Tryz.func120, Tryz.ntmps120
  go_wp2_with fail
  refine (CS.out _ ((Below.refl _ _).alloc (Nat.le_refl _) _)).mono ?_
  rintro e1 w1 ⟨b1, c1, rfl, hb1, hu1⟩
  have HB := hid (below_alloc hb1)
  have HU := hid hu1
  clear hb1 hu1 CS hw
  go_wp2
  go_ret
  exact ⟨b1, c1, rfl, HB.out, HU.out⟩

end Go.Proofs.YtgbgkodjjgjhgaaGreatDoor
