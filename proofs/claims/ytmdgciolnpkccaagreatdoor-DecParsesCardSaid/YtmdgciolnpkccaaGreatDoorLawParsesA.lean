/- The law DecParses: the walk, over a contract of the document's Parse. -/
import Derived.Test.YtmdgciolnpkccaaGreatDoorLawLib
import Derived.Deep.CutBlock
namespace Go.Proofs.YtmdgciolnpkccaaGreatDoor
open Go.RowKit

theorem parse_good (l : List UInt8) : IsPlain (parseR l).1 ∧ fitsB (parseR l).1 = true := by
  unfold parseR
  split
  · exact ⟨plain_zero, fits_zero⟩
  · split
    · exact ⟨plain_zero, fits_zero⟩
    · split
      · rename_i h
        exact ⟨plainD_plain _ _ _, h⟩
      · exact ⟨plain_zero, fits_zero⟩

set_option maxRecDepth 100000 in
set_option maxHeartbeats 3200000 in
theorem parses_core (l : List UInt8) (w : World) (hl : l.length ≤ 9223372036854775807) (htab : Pow w) (CR : ∀ W, Calls Tryz.prog 20 #[.string ⟨l.toArray⟩] W (OutDE W (parseR l).1 (parseR l).2)) :
    Calls Tryz.prog 3 #[.string ⟨l.toArray⟩] w fun en w' => en = .returned (.bool true) ∧ Below w.heap.size w w' := by
  have C0 := fun W (hp : Pow W) => law2_shown W hp
  have C1 := fun W (hp : Pow W) => dec_Parse l hl W hp
  have gd := parse_good l
  obtain ⟨r, hr⟩ : ∃ r, r = parseR l := ⟨_, rfl⟩
  rw [← hr] at C1 CR gd
  obtain ⟨d, er⟩ := r
  simp only at C1 CR gd
  have S1 := fun W b c b2 c2 (h1 : U32 W b (Num.limbs d.m)) (h2 : U32 W b2 (Num.limbs d.m)) => c_same W b c b2 c2 d d gd h1 h2
  simp only [decide_true] at S1
  obtain ⟨T, hT⟩ : ∃ T : ByteArray, T = ⟨l.toArray⟩ := ⟨_, rfl⟩
  rw [← hT] at C1 CR ⊢
  replace C0 := hid C0
  replace C1 := hid C1
  replace CR := hid CR
  replace S1 := hid S1
  have HTAB := hid htab
  have hee : ((er : Int) == (er : Int)) = true := by simp
  clear htab hl hr gd hT
  go_enter Tryz.func3, Tryz.ntmps3
  go_upto_region 1 with fail
  go_cut [3] from 8 (fun v w' => v = .bool true ∧ Below w.heap.size w w')
  case first =>
    as_aux_lemma =>
      go_wp2_with fail
      refine (C0.out _ HTAB.out).mono ?_
      rintro e1 w1 ⟨rfl, hb1⟩
      have HB1 := hid hb1
      clear hb1
      go_wp2_with fail
      go_meet
      case rel => exact ⟨rfl, HB1.out⟩
  case rest =>
    obtain ⟨rfl, hb⟩ := hcut
    have HB := hid hb
    clear hb C0
    go_upto_region 2 with fail
    go_cut [4, 5] from 8 (fun v e w' => ∃ N b c, v = .pointer (some ⟨N, 0, none⟩) ∧ e = .int .i64 (er : Nat) ∧ HasD w' N d.neg (Num.limbs d.m) d.e b c ∧ Below wc.heap.size wc w')
    case first =>
      as_aux_lemma =>
        go_wp2_with fail
        refine (C1.out _ (HTAB.out.next HB.out)).mono ?_
        rintro e1 w1 ⟨b1, c1, rfl, ho⟩
        have HO := hid ho
        clear ho
        unfold decV
        go_wp2_with fail
        go_meet
        case rel => exact ⟨w1.heap.size, b1, c1, rfl, rfl, HasD.new HO.out.inD, HO.out.1.alloc HO.out.1.size _⟩
    case rest =>
      obtain ⟨NP, bP, cP, rfl, rfl, hP, hb⟩ := hcut
      replace HB := hid (below_trans HB.out hb)
      clear hb
      have HP := hid hP
      clear hP
      go_upto_region 3 with fail
      go_cut [6, 7] from 8 (fun v e w' => ∃ N b c, v = .pointer (some ⟨N, 0, none⟩) ∧ e = .int .i64 (er : Nat) ∧ HasD w' N d.neg (Num.limbs d.m) d.e b c ∧ Below wc.heap.size wc w')
      case first =>
        as_aux_lemma =>
          go_wp2_with fail
          refine (CR.out _).mono ?_
          rintro e1 w1 ⟨b1, c1, rfl, ho⟩
          have HO := hid ho
          clear ho
          unfold decV
          go_wp2_with fail
          go_meet
          case rel => exact ⟨w1.heap.size, b1, c1, rfl, rfl, HasD.new HO.out.inD, HO.out.1.alloc HO.out.1.size _⟩
      case rest =>
        obtain ⟨NQ, bQ, cQ, rfl, rfl, hQ, hb⟩ := hcut
        replace HP := hid (HP.out.below hb)
        replace HB := hid (below_trans HB.out hb)
        clear hb
        have HQ := hid hQ
        clear hQ
        obtain ⟨⟨k10, k11, k12⟩, _⟩ := blk_three HP.out.blk
        obtain ⟨⟨k20, k21, k22⟩, _⟩ := blk_three HQ.out.blk
        go_wp2_with fail
        refine (S1.out _ _ _ _ _ HP.out.u HQ.out.u).mono ?_
        rintro e1 w1 ⟨rfl, hb1⟩
        have HB1 := hid (below_trans HB.out hb1)
        clear hb1
        go_wp2
        go_ret
        exact ⟨rfl, HB1.out⟩

end Go.Proofs.YtmdgciolnpkccaaGreatDoor
