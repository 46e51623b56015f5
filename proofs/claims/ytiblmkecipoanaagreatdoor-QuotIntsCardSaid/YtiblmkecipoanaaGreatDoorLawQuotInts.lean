/- The law QuotInts: the walk. Printed by gen_quot. -/
import Derived.Test.YtiblmkecipoanaaGreatDoorQuotP
import Derived.Test.YtiblmkecipoanaaGreatDoorRef3F
import Derived.Test.YtiblmkecipoanaaGreatDoorRef3H
import Derived.Deep.CutBlock
import Derived.Deep.RegionHeld3
namespace Go.Proofs.YtiblmkecipoanaaGreatDoor
open Go.RowKit

set_option maxRecDepth 100000 in
set_option maxHeartbeats 6400000 in
theorem law_QuotInts (g : Bool) (a : Option Addr) (cap : Nat) (e : Int) (xs : List Nat) (w : World) (h : U32 w a xs) (htab : Pow w) :
    Calls Tryz.prog 5 #[.agg #[.bool g, .slice a xs.length cap, .int .i64 e]] w fun en w' => en = .returned (.bool true) ∧ Below w.heap.size w w' := by
  obtain ⟨ex, x, ix, tx, vx⟩ := is_arg g xs e
  have C0 := fun W (hp : Pow W) => law3_shown W hp
  have C1 := fun W b c (h1 : U32 W b xs) (hp : Pow W) => q_Int W b c ix h1 hp
  have C2 : ∀ W b c, U32 W b xs → Pow W → Calls Tryz.prog 17 #[.agg #[.bool g, .slice b xs.length c, .int .i64 e]] W (OutIE W (intR ex x).1 (intR ex x).2) := fun W b c h1 _ => by
    have := ref3_Int g b c e xs W h1
    rw [ix.1, ix.2] at this
    exact this
  obtain ⟨v, hv⟩ : ∃ v, v = (decide (ex = 0) && decide (0 ≤ x.e)) := ⟨_, rfl⟩
  have C3 := fun W b c (h1 : U32 W b xs) (hp : Pow W) => q_Whole W b c v ix hv h1 hp
  have C4 : ∀ W b c, U32 W b xs → Calls Tryz.prog 19 #[.agg #[.bool g, .slice b xs.length c, .int .i64 e]] W fun en w' => en = .returned (.bool v) ∧ Below W.heap.size W w' := fun W b c h1 => by
    have := ref3_Whole g b c e xs W h1
    rw [ix.1, ix.2, ← hv] at this
    exact this
  obtain ⟨m, hm⟩ : ∃ m, m = (intR ex x).1 := ⟨_, rfl⟩
  obtain ⟨k, hk⟩ : ∃ m, m = (intR ex x).2 := ⟨_, rfl⟩
  rw [← hm, ← hk] at C1 C2
  unfold OutIE at C1 C2
  have em : (m == m) = true := by simp
  have ek : ((k : Int) == (k : Int)) = true := by simp
  replace C0 := hid C0
  replace C1 := hid C1
  replace C2 := hid C2
  replace C3 := hid C3
  replace C4 := hid C4
  have HTAB := hid htab
  have HX0 := hid h
  clear htab h ix tx vx hv hm hk
  go_enter Tryz.func5, Tryz.ntmps5
  go_upto_region 1 with fail
  go_cut [3] from 8 (fun v w' => v = .bool true ∧ HasD w' (w.heap.size) g xs e a cap ∧ Below w.heap.size w w')
  case first =>
    as_aux_lemma =>
      go_wp2_with fail
      refine (C0.out _ (HTAB.out.alloc _)).mono ?_
      rintro e1 w1 ⟨rfl, hb1⟩
      have HB1 := hid hb1
      clear hb1
      go_wp2_with fail
      go_meet
      case rel => exact ⟨rfl, boxed1 HX0.out HB1.out⟩
  case rest =>
    obtain ⟨rfl, hX, hb⟩ := hcut
    have HX := hid hX
    have HB := hid hb
    clear hb hX HX0 C0
    go_upto_region 2 with fail
    go_cut [4, 5] from 8 (fun v e w' => v = .int .i64 m ∧ e = .int .i64 (k : Nat) ∧ Below wc.heap.size wc w')
    case first =>
      as_aux_lemma =>
        obtain ⟨⟨k00, k01, k02⟩, _⟩ := blk_three HX.out.blk
        have z0 := blk_lt HX.out.blk
        go_wp2_with fail
        refine (C1.out _ _ _ HX.out.u (HTAB.out.next HB.out)).mono ?_
        rintro e1 w1 ⟨rfl, ho⟩
        have HO := hid ho
        clear ho
        go_wp2_with fail
        go_meet
        case rel => exact ⟨rfl, rfl, HO.out⟩
    case rest =>
      obtain ⟨rfl, rfl, hb⟩ := hcut
      replace HX := hid (HX.out.below hb)
      replace HB := hid (below_trans HB.out hb)
      clear hb
      go_upto_region 3 with fail
      go_cut [6, 7] from 8 (fun v e w' => v = .int .i64 m ∧ e = .int .i64 (k : Nat) ∧ Below wc.heap.size wc w')
      case first =>
        as_aux_lemma =>
          obtain ⟨⟨k00, k01, k02⟩, _⟩ := blk_three HX.out.blk
          have z0 := blk_lt HX.out.blk
          go_wp2_with fail
          refine (C2.out _ _ _ HX.out.u (HTAB.out.next HB.out)).mono ?_
          rintro e1 w1 ⟨rfl, ho⟩
          have HO := hid ho
          clear ho
          go_wp2_with fail
          go_meet
          case rel => exact ⟨rfl, rfl, HO.out⟩
      case rest =>
        obtain ⟨rfl, rfl, hb⟩ := hcut
        replace HX := hid (HX.out.below hb)
        replace HB := hid (below_trans HB.out hb)
        clear hb
        obtain ⟨⟨k00, k01, k02⟩, _⟩ := blk_three HX.out.blk
        have z0 := blk_lt HX.out.blk
        have CW1 : ∀ W, Below wc.heap.size wc W → Calls Tryz.prog 18 #[.agg #[.bool g, .slice a xs.length cap, .int .i64 e]] W fun en w' => en = .returned (.bool v) ∧ Below W.heap.size W w' := fun W hb => C3.out W a cap (HX.out.u.below hb) (HTAB.out.next (HB.out.trans (hb.mono HB.out.size)))
        have CW2 : ∀ W, Below wc.heap.size wc W → Calls Tryz.prog 19 #[.agg #[.bool g, .slice a xs.length cap, .int .i64 e]] W fun en w' => en = .returned (.bool v) ∧ Below W.heap.size W w' := fun W hb => C4.out W a cap (HX.out.u.below hb)
        obtain ⟨n, hn⟩ : ∃ n, n = xs.length := ⟨_, rfl⟩
        rw [← hn] at CW1 CW2 k01
        replace CW1 := hid CW1
        replace CW2 := hid CW2
        clear hn C3 C4 C1 C2
        go_upto_region 4 with fail
        go_region_held3 (fun w' => w'.cell? ⟨w.heap.size, 0, none⟩ = some (.bool g) ∧ w'.cell? ⟨w.heap.size, 1, none⟩ = some (.slice a n cap) ∧ w'.cell? ⟨w.heap.size, 2, none⟩ = some (.int .i64 e) ∧ Below wc.heap.size wc w') (first | (exact ⟨k00, k01, k02, (Below.refl _ _).drew⟩) | (exact keepQ3 (by assumption) (by assumption))) ((first | (go_at_call 18; (with_reducible refine (CW1.out _ ?_).mono ?_); (simp only [*]); rintro e1 w1 ⟨rfl, hb1⟩) | (go_at_call 19; (with_reducible refine (CW2.out _ ?_).mono ?_); (simp only [*]); rintro e2 w2 ⟨rfl, hb2⟩)))
        all_goals
          rename_i hHeld
          have HBF := hid (below_trans HB.out hHeld.2.2.2)
          clear hHeld
          cases v
          all_goals
            go_wp2
            go_ret
            exact ⟨rfl, HBF.out⟩

end Go.Proofs.YtiblmkecipoanaaGreatDoor
