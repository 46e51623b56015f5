/- The law DecBack: the walk. -/
import Derived.Test.YtphdncifcljmpaaGreatDoorBackB
import Derived.Test.YtphdncifcljmpaaGreatDoorRefB
namespace Go.Proofs.YtphdncifcljmpaaGreatDoor
open Go.RowKit

theorem u32_of_owns {w : World} {base n : Nat} {a : Option Addr} {cap k : Nat} (h : w.ownsRow base 50 1 (.slice a k cap) k (u32s (Num.limbs n))) : U32 w a (Num.limbs n) := u32_limbs h

set_option maxRecDepth 100000 in
set_option maxHeartbeats 1600000 in
theorem law_DecBack (g : Bool) (a : Option Addr) (cap : Nat) (e : Int) (xs : List Nat) (l : List UInt8) (w : World) (h : U32 w a xs) (hl : l.length ≤ 9223372036854775807) (htab : Pow w) :
    Calls Tryz.prog 7 #[.agg #[.bool g, .slice a xs.length cap, .int .i64 e], .string ⟨l.toArray⟩] w fun en w' => en = .returned (.bool true) ∧ Below w.heap.size w w' := by
  have CH := fun W (hp : Pow W) => law2_shown W hp
  have CN := fun W (hb : Below w.heap.size w W) => dec_Norm g a cap e xs W (h.below hb) (htab.next hb)
  have CT := fun W (hb : Below w.heap.size w W) => dec_Text g a cap e xs W (h.below hb) (htab.next hb)
  have CQ := fun W (hp : Pow W) => dec_Parse l hl W hp
  obtain ⟨n, hn⟩ : ∃ n, n = xs.length := ⟨_, rfl⟩
  obtain ⟨er, her⟩ : ∃ er, er = takenE g xs.length (Num.worth xs) e := ⟨_, rfl⟩
  obtain ⟨d, hd⟩ : ∃ d, d = takenD g xs.length (Num.worth xs) e := ⟨_, rfl⟩
  have hfacts : er = 0 → IsPlain d ∧ fitsB d = true := fun h0 => by rw [hd]; exact taken_facts (her ▸ h0)
  rw [← her, ← hd] at CN CT
  rw [← hn] at CN CT ⊢
  obtain ⟨T, hT⟩ : ∃ T, T = (if er = 0 then textL d else []) := ⟨_, rfl⟩
  rw [← hT] at CT
  have HT := hid (fun h0 : er = 0 => show T = textL d by rw [hT, if_pos h0])
  obtain ⟨T', hT'⟩ : ∃ T' : ByteArray, T' = ⟨T.toArray⟩ := ⟨_, rfl⟩
  have CT : ∀ W, Below w.heap.size w W → Calls Tryz.prog 16 #[.agg #[.bool g, .slice a n cap, .int .i64 e]] W fun en w' => en = .returned (.tuple #[.string T', .int .i64 er]) ∧ Below W.heap.size W w' := fun W hb => by rw [hT']; exact CT W hb
  have HT' := hid hT'
  obtain ⟨L, hL⟩ : ∃ L, L = Num.limbs d.m := ⟨_, rfl⟩
  have HL := hid hL
  obtain ⟨S, hS⟩ : ∃ S : ByteArray, S = ⟨l.toArray⟩ := ⟨_, rfl⟩
  rw [← hS] at CQ ⊢
  have CH := hid CH
  have CN := hid CN
  have CT := hid CT
  have CQ := hid CQ
  have HTAB := hid htab
  have HF := hid hfacts
  clear hfacts h htab hn her hd hS hl hT hT' hL
  go_enter Tryz.func7, Tryz.ntmps7
  go_wp2_with fail
  refine (CH.out _ (HTAB.out.alloc _)).mono ?_
  rintro e1 w1 ⟨rfl, hb1⟩
  have HB1 := hid (below_alloc hb1)
  have hk := blk_three (blk_below (blk_new w _) hb1)
  have HK1 := hid (blk_below (blk_new w _) hb1)
  obtain ⟨⟨k0, k1, k2⟩, _⟩ := hk
  clear hb1 CH
  go_wp2_with fail
  refine (CN.out _ HB1.out).mono ?_
  rintro e2 w2 ⟨a2, c2, rfl, ho2⟩
  have HB2 := hid (below_trans HB1.out ho2.1)
  have HI2 := hid ho2.inD
  have hk := blk_three (blk_below HK1.out ho2.1)
  have hz := blk_lt (blk_below HK1.out ho2.1)
  clear ho2 HB1 k0 k1 k2 HK1 CN
  obtain ⟨⟨k0, k1, k2⟩, _⟩ := hk
  unfold decV
  go_wp2_with fail
  refine (CT.out _ (HB2.out.alloc (HB2.out.size) _)).mono ?_
  rintro e3 w3 ⟨rfl, hb3⟩
  have HB3 := hid (below_trans HB2.out (below_alloc hb3))
  have HI3 := hid (HI2.out.below (below_alloc hb3))
  have HK3 := hid (blk_below (blk_new w2 _) hb3)
  clear hb3 HB2 HI2 k0 k1 k2 CT hz
  have her0 : ((er : Int) != (er : Int)) = false := by simp
  go_upto_if 33 with fail
  go_cut [4] from 18 (fun v w' => v = .bool false ∧ Below w.heap.size w w')
  case first =>
    by_cases h0 : er = 0
    · subst h0
      obtain ⟨hp, hf⟩ := HF.out rfl
      obtain ⟨r1, r2⟩ := text_parse hp hf
      have CP := fun W (hp : Pow W) => dec_Parse T (by rw [HT.out rfl]; omega) W hp
      rw [HT.out rfl, r1, ← HT.out rfl, ← HT'.out] at CP
      have CS := fun W b1 c1 b2 c2 (h1 : U32 W b1 (Num.limbs d.m)) (h2 : U32 W b2 (Num.limbs d.m)) => law2_same d.neg d.neg b1 b2 c1 c2 d.e d.e (Num.limbs d.m) (Num.limbs d.m) W h1 h2 (by have := limbs_400 (plain_bounds hp hf).1; omega)
      have CM := fun W b1 c1 (h1 : U32 W b1 (Num.limbs d.m)) (h2 : Pow W) => dec_May d.neg b1 c1 d.e (Num.limbs d.m) W h1 h2
      rw [may_self hp hf] at CM
      simp only [and_self, decide_true] at CS
      have CP := hid CP
      have CS := hid CS
      have CM := hid CM
      clear hp hf r1 r2
      have hk := blk_three HK3.out
      have hz := blk_lt HK3.out
      obtain ⟨⟨k0, k1, k2⟩, _⟩ := hk
      go_wp2_with fail
      refine (CP.out _ (HTAB.out.next HB3.out)).mono ?_
      rintro e4 w4 ⟨a4, c4, rfl, ho4⟩
      have HB4 := hid (below_trans HB3.out ho4.1)
      have HI4 := hid ho4.inD
      have HJ4 := hid (HI3.out.below ho4.1)
      have HK4 := hid (blk_below HK3.out ho4.1)
      have hk := blk_three HK4.out
      have hz := blk_lt HK4.out
      clear ho4 k0 k1 k2 CP
      obtain ⟨⟨k0, k1, k2⟩, _⟩ := hk
      unfold decV
      go_wp2_with fail
      refine (CS.out _ _ _ _ _ (HJ4.out.u.below ((Below.refl _ _).alloc (Nat.le_refl _) _)) (HI4.out.u.below ((Below.refl _ _).alloc (Nat.le_refl _) _))).mono ?_
      rintro e5 w5 ⟨rfl, hb5⟩
      have HB5 := hid (below_trans HB4.out (below_alloc hb5))
      have HJ5 := hid (HJ4.out.below (below_alloc hb5))
      have hk := blk_three (blk_below (blk_alloc HK4.out _) hb5)
      clear hb5 k0 k1 k2 CS
      obtain ⟨⟨k0, k1, k2⟩, _⟩ := hk
      go_wp2_with fail
      refine (CM.out _ _ _ HJ5.out.u (HTAB.out.next HB5.out)).mono ?_
      rintro e6 w6 ⟨rfl, hb6⟩
      have HB6 := hid (below_trans HB5.out hb6)
      clear hb6 k0 k1 k2 CM
      go_wp2_with fail
      go_meet
      case rel => exact ⟨rfl, HB6.out⟩
    · have h0 : ((er : Int) == 0) = false := by rw [beq_eq_false_iff_ne]; omega
      go_wp2_with fail
      go_meet
      case rel => exact ⟨rfl, HB3.out⟩
  case rest =>
    obtain ⟨rfl, hb⟩ := hcut
    have HB := hid hb
    clear hb HB3 HI3 HK3 her0 HT HT' HL HF
    by_cases h0 : (parseR l).2 = 0
    · obtain ⟨hp, hf⟩ := parse_facts h0
      obtain ⟨x, hx⟩ : ∃ x, x = (parseR l).1 := ⟨_, rfl⟩
      have CQ := CQ.out
      rw [h0, ← hx] at CQ
      rw [← hx] at hp hf
      obtain ⟨t1, t2⟩ := taken_self hp hf
      have CT := fun W b1 c1 (h1 : U32 W b1 (Num.limbs x.m)) (h2 : Pow W) => dec_Text x.neg b1 c1 x.e (Num.limbs x.m) W h1 h2
      rw [t1, t2, if_pos rfl] at CT
      obtain ⟨r1, r2⟩ := text_parse hp hf
      have CP := fun W (hp : Pow W) => dec_Parse (textL x) (by omega) W hp
      rw [r1] at CP
      obtain ⟨T2, hT2⟩ : ∃ T2 : ByteArray, T2 = ⟨(textL x).toArray⟩ := ⟨_, rfl⟩
      have CT : ∀ W b1 c1, U32 W b1 (Num.limbs x.m) → Pow W → Calls Tryz.prog 16 #[.agg #[.bool x.neg, .slice b1 (Num.limbs x.m).length c1, .int .i64 x.e]] W fun en w' => en = .returned (.tuple #[.string T2, .int .i64 0]) ∧ Below W.heap.size W w' := fun W b1 c1 h1 h2 => by rw [hT2]; exact CT W b1 c1 h1 h2
      rw [← hT2] at CP
      have CS := fun W b1 c1 b2 c2 (h1 : U32 W b1 (Num.limbs x.m)) (h2 : U32 W b2 (Num.limbs x.m)) => law2_same x.neg x.neg b1 b2 c1 c2 x.e x.e (Num.limbs x.m) (Num.limbs x.m) W h1 h2 (by have := limbs_400 (plain_bounds hp hf).1; omega)
      have CM := fun W b1 c1 (h1 : U32 W b1 (Num.limbs x.m)) (h2 : Pow W) => dec_May x.neg b1 c1 x.e (Num.limbs x.m) W h1 h2
      rw [may_self hp hf] at CM
      simp only [and_self, decide_true] at CS
      have CQ := hid CQ
      have CT := hid CT
      have CP := hid CP
      have CS := hid CS
      have CM := hid CM
      clear h0 hx hp hf t1 t2 r1 r2 hT2
      go_wp2_with fail
      refine (CQ.out _ (HTAB.out.next HB.out)).mono ?_
      rintro e4 w4 ⟨a4, c4, rfl, ho4⟩
      have HB4 := hid (below_trans HB.out ho4.1)
      have HI4 := hid ho4.inD
      clear ho4 HB CQ
      unfold decV
      go_wp2_with fail
      refine (CT.out _ _ _ (HI4.out.u.below ((Below.refl _ _).alloc (Nat.le_refl _) _)) ((HTAB.out.next HB4.out).alloc _)).mono ?_
      rintro e5 w5 ⟨rfl, hb5⟩
      have HB5 := hid (below_trans HB4.out (below_alloc hb5))
      have HI5 := hid (HI4.out.below (below_alloc hb5))
      have HK5 := hid (blk_below (blk_new w4 _) hb5)
      clear hb5 HB4 HI4 CT
      go_wp2_with fail
      refine (CP.out _ (HTAB.out.next HB5.out)).mono ?_
      rintro e6 w6 ⟨a6, c6, rfl, ho6⟩
      have HB6 := hid (below_trans HB5.out ho6.1)
      have HJ6 := hid ho6.inD
      have HI6 := hid (HI5.out.below ho6.1)
      have HK6 := hid (blk_below HK5.out ho6.1)
      have hk := blk_three HK6.out
      have hz := blk_lt HK6.out
      clear ho6 HB5 HI5 HK5 CP
      obtain ⟨⟨k0, k1, k2⟩, _⟩ := hk
      unfold decV
      go_wp2_with fail
      refine (CS.out _ _ _ _ _ (HI6.out.u.below ((Below.refl _ _).alloc (Nat.le_refl _) _)) (HJ6.out.u.below ((Below.refl _ _).alloc (Nat.le_refl _) _))).mono ?_
      rintro e7 w7 ⟨rfl, hb7⟩
      have HB7 := hid (below_trans HB6.out (below_alloc hb7))
      have HI7 := hid (HI6.out.below (below_alloc hb7))
      have hk := blk_three (blk_below (blk_alloc HK6.out _) hb7)
      clear hb7 k0 k1 k2 CS HB6 HI6 HJ6
      obtain ⟨⟨k0, k1, k2⟩, _⟩ := hk
      go_wp2_with fail
      refine (CM.out _ _ _ HI7.out.u (HTAB.out.next HB7.out)).mono ?_
      rintro e8 w8 ⟨rfl, hb8⟩
      have HB8 := hid (below_trans HB7.out hb8)
      clear hb8 k0 k1 k2 CM HB7 HI7
      go_wp2
      go_ret
      exact ⟨rfl, HB8.out⟩
    · have hz0 := parse_zero h0
      have CQ := CQ.out
      rw [hz0] at CQ
      obtain ⟨er2, her2⟩ : ∃ er2, er2 = (parseR l).2 := ⟨_, rfl⟩
      rw [← her2] at CQ h0
      have hne : ((er2 : Int) != 0) = true := by rw [bne_iff_ne]; omega
      have CQ := hid CQ
      clear h0 hz0 her2
      go_wp2_with fail
      refine (CQ.out _ (HTAB.out.next HB.out)).mono ?_
      rintro e4 w4 ⟨a4, c4, rfl, ho4⟩
      have HB4 := hid (below_trans HB.out ho4.1)
      clear ho4 HB CQ
      unfold decV
      have hl0 : (Num.limbs zeroD.m).length = 0 := rfl
      rw [hl0]
      go_wp2
      go_ret
      exact ⟨rfl, HB4.out.alloc (HB4.out.size) _⟩

end Go.Proofs.YtphdncifcljmpaaGreatDoor
