/- The law, second part: shown. -/
import Derived.Test.YtmdgciolnpkccaaGreatDoorRefA
namespace Go.Proofs.YtmdgciolnpkccaaGreatDoor
open Go.RowKit

theorem shown1 : parseR [45, 49, 50, 46, 53, 48, 101, 49] = (⟨true, 125, 0⟩, 0) := by rfl
theorem shown2 : parseR [48, 49] = (zeroD, 2) := by rfl
theorem shown3 : takenD true (Num.limbs 125).length (Num.worth (Num.limbs 125)) 0 = ⟨true, 125, 0⟩ ∧ takenE true (Num.limbs 125).length (Num.worth (Num.limbs 125)) 0 = 0 := ⟨by rfl, by rfl⟩
theorem shown4 : textL ⟨true, 125, 0⟩ = [45, 49, 50, 53] := by
  unfold textL
  rw [if_neg (by decide), Num.decDigits_digs 125 (by decide)]
  rfl
theorem shown5 : takenD false [12].length (Num.worth [12]) (-9) = ⟨false, 12, -9⟩ ∧ takenE false [12].length (Num.worth [12]) (-9) = 0 := ⟨by rfl, by rfl⟩
theorem shown6 : textL ⟨false, 12, -9⟩ = [49, 46, 50, 101, 45, 56] := by
  unfold textL
  rw [if_neg (by decide), Num.decDigits_digs 12 (by decide)]
  have e : Lib.itoa (-8) = [45, 56] := by
    unfold Lib.itoa
    rw [show (-8 : Int).natAbs = 8 by rfl, Num.decDigits_digs 8 (by decide)]; rfl
  have h : ((-9 : Int) + (Num.digs 10 12).length - 1) = -8 := by rfl
  simp only [h]
  unfold figL
  rw [e]
  rfl

/-- A slice of one limb, laid anew. -/
theorem u32_one {w : World} {N x : Nat} (hx : x < 4294967296) (h : w.cell? ⟨N, 0, none⟩ = some (.int .u32 x)) : U32 w (some ⟨N, 0, none⟩) [x] := by
  refine ⟨?_, fun y hy => by simp at hy; omega⟩
  intro j v hv
  cases j with
  | zero =>
    simp [u32s] at hv
    subst hv
    exact ⟨N, 0, rfl, h⟩
  | succ j => simp [u32s] at hv

set_option maxRecDepth 100000 in
set_option maxHeartbeats 1600000 in
theorem law2_shown (w : World) (htab : Pow w) :
    Calls Tryz.prog 18 #[] w fun en w' => en = .returned (.bool true) ∧ Below w.heap.size w w' := by
  have CP := fun W (hp : Pow W) => dec_Parse [45, 49, 50, 46, 53, 48, 101, 49] (by decide) W hp
  have CQ := fun W (hp : Pow W) => dec_Parse [48, 49] (by decide) W hp
  rw [shown1] at CP
  rw [shown2] at CQ
  have CT := fun W a cap (h : U32 W a (Num.limbs 125)) (hp : Pow W) => dec_Text true a cap 0 (Num.limbs 125) W h hp
  rw [shown3.1, shown3.2, shown4] at CT
  have CU := fun W a cap (h : U32 W a [12]) (hp : Pow W) => dec_Text false a cap (-9) [12] W h hp
  rw [shown5.1, shown5.2, shown6] at CU
  simp only [if_true] at CT CU
  have hL : (Num.limbs 125) = [125] := by rfl
  have CS := fun W a cap (h : U32 W a [125]) a2 cap2 (h2 : U32 W a2 [125]) => law2_same true true a a2 cap cap2 0 0 [125] [125] W h h2 (by decide)
  rw [hL] at CT
  have CP := hid CP
  have CQ := hid CQ
  have CT := hid CT
  have CU := hid CU
  have CS := hid CS
  have HTAB := hid htab
  clear htab hL
  go_enter Tryz.func18, Tryz.ntmps18
  go_wp2_with fail
  refine (CP.out _ HTAB.out).mono ?_
  rintro e1 w1 ⟨a1, c1, he, ho⟩
  unfold decV at he
  simp only [show (Num.limbs 125).length = 1 by rfl] at he ho
  subst he
  have HU : Hid (U32 w1 a1 [125]) := ho.inD.u
  have HB1 := hid ho.1
  clear ho
  go_wp2_with fail
  refine (CT.out _ a1 c1 (HU.out.below ((Below.refl _ _).alloc (Nat.le_refl _) _)) ((HTAB.out.next HB1.out).alloc _)).mono ?_
  rintro e2 w2 ⟨rfl, hb2⟩
  have HB2 := hid (below_trans HB1.out (below_alloc hb2))
  have HU2 := hid (HU.out.below (below_alloc hb2))
  have HK2 := hid (blk_below (blk_new w1 _) hb2)
  clear hb2 HB1 HU
  go_wp2_with fail
  refine (CU.out _ _ _ (u32_one (by decide) (by simp)) ((HTAB.out.next HB2.out).alloc _)).mono ?_
  rintro e3 w3 ⟨rfl, hb3⟩
  have HB3 := hid (below_trans HB2.out (below_alloc hb3))
  have HU3 := hid (HU2.out.below (below_alloc hb3))
  have HK3 := hid (blk_below (blk_alloc HK2.out _) hb3)
  clear hb3 HB2 HU2 HK2
  go_wp2_with fail
  refine (CQ.out _ (HTAB.out.next HB3.out)).mono ?_
  rintro e4 w4 ⟨a4, c4, rfl, ho4⟩
  have HB4 := hid (below_trans HB3.out ho4.1)
  have HU4 := hid (HU3.out.below ho4.1)
  have hk := blk_three (blk_below HK3.out ho4.1)
  have HK4 := hid (blk_below HK3.out ho4.1)
  have hz : w1.heap.size < w4.heap.size := blk_lt HK4.out
  obtain ⟨⟨k0, k1, k2⟩, _⟩ := hk
  clear ho4 HB3 HU3 HK3
  unfold decV
  go_wp2_with fail
  refine (CS.out _ _ _ (HU4.out.below (((Below.refl _ _).alloc (Nat.le_refl _) _).alloc (by simp) _)) _ _ (u32_one (by decide) (by simp))).mono ?_
  rintro e5 w5 ⟨rfl, hb5⟩
  have HB5 := hid (below_trans HB4.out (below_alloc (below_alloc hb5)))
  clear hb5 HB4 HU4 HK4 k0 k1 k2
  go_wp2
  go_ret
  exact ⟨rfl, HB5.out⟩

end Go.Proofs.YtmdgciolnpkccaaGreatDoor
