/- The law DecNorms: the walk. Printed by lawgen. -/
import Derived.Test.YtphdncifcljmpaaGreatDoorLawLib
import Derived.Test.YtphdncifcljmpaaGreatDoorRefK
import Derived.Deep.CutBlock
namespace Go.Proofs.YtphdncifcljmpaaGreatDoor
open Go.RowKit

theorem keep9 {B : Nat} {w W w1 : World} {L M N : Nat} {a b c d e f g h i : Value} (hh : W.cell? ⟨L, 0, none⟩ = some a ∧ W.cell? ⟨L, 1, none⟩ = some b ∧ W.cell? ⟨L, 2, none⟩ = some c ∧ W.cell? ⟨M, 0, none⟩ = some d ∧ W.cell? ⟨M, 1, none⟩ = some e ∧ W.cell? ⟨M, 2, none⟩ = some f ∧ W.cell? ⟨N, 0, none⟩ = some g ∧ W.cell? ⟨N, 1, none⟩ = some h ∧ W.cell? ⟨N, 2, none⟩ = some i ∧ Below B w W) (hB : B ≤ w.heap.size) (hb : Below W.heap.size W w1) :
    w1.cell? ⟨L, 0, none⟩ = some a ∧ w1.cell? ⟨L, 1, none⟩ = some b ∧ w1.cell? ⟨L, 2, none⟩ = some c ∧ w1.cell? ⟨M, 0, none⟩ = some d ∧ w1.cell? ⟨M, 1, none⟩ = some e ∧ w1.cell? ⟨M, 2, none⟩ = some f ∧ w1.cell? ⟨N, 0, none⟩ = some g ∧ w1.cell? ⟨N, 1, none⟩ = some h ∧ w1.cell? ⟨N, 2, none⟩ = some i ∧ Below B w w1 := by
  obtain ⟨h0, h1, h2, h3, h4, h5, h6, h7, h8, h9⟩ := hh
  have B' := (bcell hb).1
  exact ⟨(B' _ _ (cell_lt h0)).trans h0, (B' _ _ (cell_lt h1)).trans h1, (B' _ _ (cell_lt h2)).trans h2, (B' _ _ (cell_lt h3)).trans h3, (B' _ _ (cell_lt h4)).trans h4, (B' _ _ (cell_lt h5)).trans h5, (B' _ _ (cell_lt h6)).trans h6, (B' _ _ (cell_lt h7)).trans h7, (B' _ _ (cell_lt h8)).trans h8, h9.trans (hb.mono (Nat.le_trans hB h9.size))⟩

set_option maxRecDepth 100000 in
set_option maxHeartbeats 3200000 in
theorem law_DecNorms (g : Bool) (a : Option Addr) (cap : Nat) (e : Int) (xs : List Nat) (w : World) (h : U32 w a xs) (htab : Pow w) :
    Calls Tryz.prog 6 #[.agg #[.bool g, .slice a xs.length cap, .int .i64 e]] w fun en w' => en = .returned (.bool true) ∧ Below w.heap.size w w' := by
  have gd := (tk_taken g xs.length (Num.worth xs) e).good
  have C0 := fun W (hp : Pow W) => law2_shown W hp
  have C1 := fun W b c (h1 : U32 W b xs) (hp : Pow W) => dec_Norm g b c e xs W h1 hp
  have C2 := fun W b c (h1 : U32 W b xs) (hp : Pow W) => ref2_Norm g b c e xs W h1
  have C3 := fun W b c (h1 : U32 W b xs) (hp : Pow W) => dec_May g b c e xs W h1 hp
  have C4 := fun W b c (h1 : U32 W b xs) (hp : Pow W) => ref2_May g b c e xs W h1
  obtain ⟨d, hd⟩ : ∃ d, d = takenD g xs.length (Num.worth xs) e := ⟨_, rfl⟩
  obtain ⟨er, her⟩ : ∃ r, r = takenE g xs.length (Num.worth xs) e := ⟨_, rfl⟩
  obtain ⟨mb, hmb⟩ : ∃ r, r = mayB g xs e := ⟨_, rfl⟩
  rw [← hd, ← her] at C1 C2
  rw [← hmb] at C3 C4
  rw [← hd] at gd
  have S1 := fun W b c b2 c2 (h1 : U32 W b (Num.limbs d.m)) (h2 : U32 W b2 (Num.limbs d.m)) => c_same W b c b2 c2 d d gd h1 h2
  simp only [decide_true] at S1
  replace C0 := hid C0
  replace C1 := hid C1
  replace C2 := hid C2
  replace C3 := hid C3
  replace C4 := hid C4
  replace S1 := hid S1
  have HTAB := hid htab
  have HX0 := hid h
  clear h htab hd her hmb gd
  go_enter Tryz.func6, Tryz.ntmps6
  go_upto_region 1 with fail
  go_cut [3] from 8 (fun v w' => v = .bool true ∧ HasD w' (w.heap.size) g xs e a cap ∧ Below w.heap.size w w')
  case first =>
    as_aux_lemma =>
      go_wp2_with fail
      refine (C0.out _ (HTAB.out.alloc _)).mono ?_
      rintro e1 w1 ⟨rfl, hb1⟩
      have HB1 := hid hb1
      clear hb1
      go_wp2_with fail
      go_meet
      case rel => exact ⟨rfl, boxed1 HX0.out HB1.out⟩
  case rest =>
    obtain ⟨rfl, hX, hb⟩ := hcut
    have HX := hid hX
    have HB := hid hb
    clear hb hX HX0 C0
    go_upto_region 2 with fail
    go_cut [4, 5] from 8 (fun v e w' => ∃ N b c, v = .pointer (some ⟨N, 0, none⟩) ∧ e = .int .i64 (er : Nat) ∧ HasD w' N d.neg (Num.limbs d.m) d.e b c ∧ Below wc.heap.size wc w')
    case first =>
      as_aux_lemma =>
        obtain ⟨⟨k00, k01, k02⟩, _⟩ := blk_three HX.out.blk
        have z0 := blk_lt HX.out.blk
        go_wp2_with fail
        refine (C1.out _ _ _ HX.out.u (HTAB.out.next HB.out)).mono ?_
        rintro e1 w1 ⟨b1, c1, rfl, ho⟩
        have HO := hid ho
        clear ho
        unfold decV
        go_wp2_with fail
        go_meet
        case rel => exact ⟨w1.heap.size, b1, c1, rfl, rfl, HasD.new HO.out.inD, HO.out.1.alloc HO.out.1.size _⟩
    case rest =>
      obtain ⟨NP, bP, cP, rfl, rfl, hP, hb⟩ := hcut
      replace HX := hid (HX.out.below hb)
      replace HB := hid (below_trans HB.out hb)
      clear hb
      have HP := hid hP
      clear hP
      go_upto_region 3 with fail
      go_cut [6, 7] from 8 (fun v e w' => ∃ N b c, v = .pointer (some ⟨N, 0, none⟩) ∧ e = .int .i64 (er : Nat) ∧ HasD w' N d.neg (Num.limbs d.m) d.e b c ∧ Below wc.heap.size wc w')
      case first =>
        as_aux_lemma =>
          obtain ⟨⟨k00, k01, k02⟩, _⟩ := blk_three HX.out.blk
          have z0 := blk_lt HX.out.blk
          go_wp2_with fail
          refine (C2.out _ _ _ HX.out.u (HTAB.out.next HB.out)).mono ?_
          rintro e1 w1 ⟨b1, c1, rfl, ho⟩
          have HO := hid ho
          clear ho
          unfold decV
          go_wp2_with fail
          go_meet
          case rel => exact ⟨w1.heap.size, b1, c1, rfl, rfl, HasD.new HO.out.inD, HO.out.1.alloc HO.out.1.size _⟩
      case rest =>
        obtain ⟨NQ, bQ, cQ, rfl, rfl, hQ, hb⟩ := hcut
        replace HX := hid (HX.out.below hb)
        replace HP := hid (HP.out.below hb)
        replace HB := hid (below_trans HB.out hb)
        clear hb
        have HQ := hid hQ
        clear hQ
        obtain ⟨⟨k00, k01, k02⟩, _⟩ := blk_three HX.out.blk
        obtain ⟨⟨k10, k11, k12⟩, _⟩ := blk_three HP.out.blk
        obtain ⟨⟨k20, k21, k22⟩, _⟩ := blk_three HQ.out.blk
        have hee : ((er : Int) == (er : Int)) = true := by simp
        have hup : true = true := rfl
        obtain ⟨wl, rfl⟩ : ∃ wl : World, wl = wc := ⟨_, rfl⟩
        have T1 := hid (fun W (hb : Below wl.heap.size wl W) => S1.out W _ cP _ cQ (HP.out.u.below hb) (HQ.out.u.below hb))
        have T2 := hid (fun W (hb : Below wl.heap.size wl W) => C3.out W _ cap (HX.out.u.below hb) (HTAB.out.next (below_trans HB.out hb)))
        have T3 := hid (fun W (hb : Below wl.heap.size wl W) => C4.out W _ cap (HX.out.u.below hb) (HTAB.out.next (below_trans HB.out hb)))
        go_wp2_with fail
        go_region_held3 (fun w' => w'.cell? ⟨w.heap.size, 0, none⟩ = some (.bool g) ∧ w'.cell? ⟨w.heap.size, 1, none⟩ = some (.slice a xs.length cap) ∧ w'.cell? ⟨w.heap.size, 2, none⟩ = some (.int .i64 e) ∧ w'.cell? ⟨NP, 0, none⟩ = some (.bool d.neg) ∧ w'.cell? ⟨NP, 1, none⟩ = some (.slice bP (Num.limbs d.m).length cP) ∧ w'.cell? ⟨NP, 2, none⟩ = some (.int .i64 d.e) ∧ w'.cell? ⟨NQ, 0, none⟩ = some (.bool d.neg) ∧ w'.cell? ⟨NQ, 1, none⟩ = some (.slice bQ (Num.limbs d.m).length cQ) ∧ w'.cell? ⟨NQ, 2, none⟩ = some (.int .i64 d.e) ∧ Below wl.heap.size wl w') (first | (exact ⟨k00, k01, k02, k10, k11, k12, k20, k21, k22, (Below.refl _ _).drew⟩) | (exact keep9 (by assumption) (Nat.le_refl _) (by assumption)) | assumption) ((first | (go_at_call 15; (with_reducible refine (T1.out _ ?_).mono ?_); (simp only [*]); rintro e1 w1 ⟨rfl, hb1⟩) | (go_at_call 22; (with_reducible refine (T2.out _ ?_).mono ?_); (simp only [*]); rintro e2 w2 ⟨rfl, hb2⟩) | (go_at_call 23; (with_reducible refine (T3.out _ ?_).mono ?_); (simp only [*]); rintro e3 w3 ⟨rfl, hb3⟩)))
        all_goals
          rename_i hHeld
          obtain ⟨_, _, _, _, _, _, _, _, _, hH⟩ := hHeld
          have HF := hid (below_trans HB.out hH)
          clear hH
          go_wp2
          go_ret
          exact ⟨by simp, HF.out⟩

end Go.Proofs.YtphdncifcljmpaaGreatDoor
