/- ValueOrder: the law, on values in memory. -/
import Derived.Test.YtgbgkodjjgjhgaaGreatDoorLawVOrder
namespace Go.Proofs.YtgbgkodjjgjhgaaGreatDoor
open Go.RowKit

theorem law_ValueOrder (a : JV) (ca : List Value) (b : JV) (cb : List Value) (c : JV) (cc : List Value) (w : World) (sa : SmallV a) (ra : RdV w ca a) (sb : SmallV b) (rb : RdV w cb b) (sc : SmallV c) (rc : RdV w cc c) (hT : Tabs w) :
    Calls Tryz.prog 5 #[.agg ca.toArray, .agg cb.toArray, .agg cc.toArray] w fun en w' => en = .returned (.bool true) ∧ Below w.heap.size w w' := by
  have hS := fun W (hb : Below w.heap.size w W) => law11_shown W (hT.below hb)
  have hA := fun W (hb : Below w.heap.size w W) => value_May a ca W (ra.stay hb) (hT.below hb)
  have hB := fun W (hb : Below w.heap.size w W) => value_May b cb W (rb.stay hb) (hT.below hb)
  have hC := fun W (hb : Below w.heap.size w W) => value_May c cc W (rc.stay hb) (hT.below hb)
  have hab := fun W (hb : Below w.heap.size w W) => value_Cmp a b ca cb W sa sb (ra.stay hb) (rb.stay hb) (hT.below hb)
  have hba := fun W (hb : Below w.heap.size w W) => value_Cmp b a cb ca W sb sa (rb.stay hb) (ra.stay hb) (hT.below hb)
  have hbc := fun W (hb : Below w.heap.size w W) => value_Cmp b c cb cc W sb sc (rb.stay hb) (rc.stay hb) (hT.below hb)
  have hac := fun W (hb : Below w.heap.size w W) => value_Cmp a c ca cc W sa sc (ra.stay hb) (rc.stay hb) (hT.below hb)
  have haa := fun W (hb : Below w.heap.size w W) => value_Cmp a a ca ca W sa sa (ra.stay hb) (ra.stay hb) (hT.below hb)
  obtain ⟨ka, ga, pa, la, da, ea, za, qa, na, oa, ta, ua, va, rfl⟩ := ra.seven
  obtain ⟨kb, gb, pb, lb, db, eb, zb, qb, nb, ob, tb, ub, vb, rfl⟩ := rb.seven
  obtain ⟨kc, gc, pc, lc, dc, ec, zc, qc, nc, oc, tc, uc, vc, rfl⟩ := rc.seven
  have err : ∀ u v : JV, (((cmpVR u v).2 : Nat) : Int) = if mayJ 200 u = true ∧ mayJ 200 v = true then 0 else 1 := by
    intro u v
    unfold cmpVR
    split <;> rfl
  have erra : (((cmpVR a a).2 : Nat) : Int) = if mayJ 200 a = true then 0 else 1 := by
    rw [err]
    by_cases h : mayJ 200 a = true <;> simp [h]
  have hE : ((((cmpVR a b).2 : Nat) : Int) = if mayJ 200 a = true ∧ mayJ 200 b = true then 0 else 1) ∧ ((((cmpVR b a).2 : Nat) : Int) = if mayJ 200 a = true ∧ mayJ 200 b = true then 0 else 1) ∧ ((((cmpVR b c).2 : Nat) : Int) = if mayJ 200 b = true ∧ mayJ 200 c = true then 0 else 1) ∧
      ((((cmpVR a c).2 : Nat) : Int) = if mayJ 200 a = true ∧ mayJ 200 c = true then 0 else 1) ∧ ((((cmpVR a a).2 : Nat) : Int) = if mayJ 200 a = true then 0 else 1) := by
    refine ⟨err a b, ?_, err b c, err a c, erra⟩
    rw [err b a]
    by_cases h1 : mayJ 200 a = true <;> by_cases h2 : mayJ 200 b = true <;> simp [h1, h2]
  by_cases hall : mayJ 200 a = true ∧ mayJ 200 b = true ∧ mayJ 200 c = true
  · obtain ⟨ma, mb, mc⟩ := hall
    have F := order_facts ma mb mc
    have o := ord_order 201
    exact order_law ka kb kc ga gb gc pa pb pc la lb lc da db dc ea eb ec za zb zc qa qb qc na nb nc oa ob oc ta tb tc ua ub uc va vb vc w (mayJ 200 a) (mayJ 200 b) (mayJ 200 c) (orderJ 201 a b) (orderJ 201 b c) (orderJ 201 a c)
      (o.vals a b ⟨_, ma⟩ ⟨_, mb⟩) (o.vals b c ⟨_, mb⟩ ⟨_, mc⟩) (o.vals a c ⟨_, ma⟩ ⟨_, mc⟩) F.2.2.1 F.2.2.2.1 _ _ _ _ _ _ _ _ _ _ hS hA hB hC hab hba hbc hac haa hE
      (fun _ _ _ => ⟨by rw [cmpVR_yes ma mb], by rw [cmpVR_yes mb ma]; exact F.1, by rw [cmpVR_yes mb mc], by rw [cmpVR_yes ma mc], by rw [cmpVR_yes ma ma]; exact F.2.1⟩)
  · exact order_law ka kb kc ga gb gc pa pb pc la lb lc da db dc ea eb ec za zb zc qa qb qc na nb nc oa ob oc ta tb tc ua ub uc va vb vc w (mayJ 200 a) (mayJ 200 b) (mayJ 200 c) 0 0 0
      (by simp) (by simp) (by simp) (Or.inr (Or.inr (Int.le_refl _))) (Or.inr rfl) _ _ _ _ _ _ _ _ _ _ hS hA hB hC hab hba hbc hac haa hE
      (fun h1 h2 h3 => absurd ⟨h1, h2, h3⟩ hall)

end Go.Proofs.YtgbgkodjjgjhgaaGreatDoor
