/- The law DecOfs: the walk. -/
import Derived.Test.YtphdncifcljmpaaGreatDoorRefP
import Derived.Test.YtphdncifcljmpaaGreatDoorRefB
import Derived.Test.YtphdncifcljmpaaGreatDoorDecF
import Derived.Test.YtphdncifcljmpaaGreatDoorLawLib
namespace Go.Proofs.YtphdncifcljmpaaGreatDoor
open Go.RowKit

theorem ofs_len (g : Bool) (k : Nat) (hk : k ≤ 9223372036854775808) : (Num.limbs (plainD g k 0).m).length ≤ 3 := limbs_length_le.2 (by rw [Num.B9_eq]; have := plain_m_le g k 0; omega)

set_option maxRecDepth 100000 in
set_option maxHeartbeats 1600000 in
theorem ofs_core (n : Int) (d : D) (w : World) (hd : (Num.limbs d.m).length ≤ 3) (CO : ∀ W, Pow W → Calls Tryz.prog 18 #[.int .i64 n] W (OutD W d)) (CR : ∀ W, Calls Tryz.prog 19 #[.int .i64 n] W (OutD W d)) (htab : Pow w) :
    Calls Tryz.prog 5 #[.int .i64 n] w fun en w' => en = .returned (.bool true) ∧ Below w.heap.size w w' := by
  have CH := fun W (hp : Pow W) => law2_shown W hp
  have CS := fun W b1 c1 b2 c2 (h1 : U32 W b1 (Num.limbs d.m)) (h2 : U32 W b2 (Num.limbs d.m)) => law2_same d.neg d.neg b1 b2 c1 c2 d.e d.e (Num.limbs d.m) (Num.limbs d.m) W h1 h2 (by omega)
  simp only [and_self, decide_true] at CS
  replace CH := hid CH
  replace CS := hid CS
  replace CO := hid CO
  replace CR := hid CR
  have HTAB := hid htab
  clear htab hd
  go_enter Tryz.func5, Tryz.ntmps5
  go_wp2_with fail
  refine (CH.out _ HTAB.out).mono ?_
  rintro e1 w1 ⟨rfl, hb1⟩
  have HB1 := hid hb1
  clear hb1 CH
  go_wp2_with fail
  refine (CO.out _ (HTAB.out.next HB1.out)).mono ?_
  rintro e2 w2 ⟨a2, c2, rfl, ho2⟩
  have HB2 := hid (below_trans HB1.out ho2.1)
  have HI2 := hid ho2.inD
  clear ho2 HB1 CO
  unfold decV
  go_wp2_with fail
  refine (CR.out _).mono ?_
  rintro e3 w3 ⟨a3, c3, rfl, ho3⟩
  have HB3 := hid (below_trans HB2.out ho3.1)
  have HI3 := hid ho3.inD
  have HJ3 := hid (HI2.out.below ho3.1)
  clear ho3 HB2 HI2 CR
  unfold decV
  go_wp2_with fail
  refine (CS.out _ _ _ _ _ HJ3.out.u HI3.out.u).mono ?_
  rintro e4 w4 ⟨rfl, hb4⟩
  have HB4 := hid (below_trans HB3.out hb4)
  clear hb4
  go_wp2
  go_ret
  exact ⟨rfl, HB4.out⟩

theorem law_DecOfs (n : Int) (w : World) (h1 : -9223372036854775808 ≤ n) (h2 : n ≤ 9223372036854775807) (htab : Pow w) :
    Calls Tryz.prog 5 #[.int .i64 n] w fun en w' => en = .returned (.bool true) ∧ Below w.heap.size w w' := by
  by_cases hn : 0 ≤ n
  · obtain ⟨k, rfl⟩ : ∃ k : Nat, n = k := ⟨n.toNat, by omega⟩
    exact ofs_core k (plainD false k 0) w (ofs_len _ _ (by omega)) (fun W hp => dec_Of_pos k W (by omega) hp) (fun W => ref2_Of_pos k W (by omega)) htab
  · obtain ⟨k, rfl⟩ : ∃ k : Nat, n = -(k : Int) := ⟨(-n).toNat, by omega⟩
    exact ofs_core (-(k : Int)) (plainD true k 0) w (ofs_len _ _ (by omega)) (fun W hp => dec_Of_neg k W (by omega) (by omega) hp) (fun W => ref2_Of_neg k W (by omega) (by omega)) htab

end Go.Proofs.YtphdncifcljmpaaGreatDoor
