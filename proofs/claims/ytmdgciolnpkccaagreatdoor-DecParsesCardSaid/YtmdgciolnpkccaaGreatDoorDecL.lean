/- Layer 2, twelfth part: Neg, level. -/
import Derived.Test.YtmdgciolnpkccaaGreatDoorDecK
namespace Go.Proofs.YtmdgciolnpkccaaGreatDoor
open Go.RowKit

/-- The opposite. -/
def negD (d : D) : D := if d.m = 0 then d else ⟨!d.neg, d.m, d.e⟩

set_option maxRecDepth 100000 in
set_option maxHeartbeats 800000 in
theorem dec_Neg (g : Bool) (a : Option Addr) (cap : Nat) (e : Int) (xs : List Nat) (w : World) (h : U32 w a xs) (htab : Pow w) :
    Calls Tryz.prog 53 #[.agg #[.bool g, .slice a xs.length cap, .int .i64 e]] w (OutDE w (negD (takenD g xs.length (Num.worth xs) e)) (takenE g xs.length (Num.worth xs) e)) := by
  have CT := fun W (hb : Below w.heap.size w W) => dec_taken g a cap e xs W (h.below hb) (htab.next hb)
  obtain ⟨d, hd⟩ : ∃ d, d = takenD g xs.length (Num.worth xs) e := ⟨_, rfl⟩
  obtain ⟨er, her⟩ : ∃ er, er = takenE g xs.length (Num.worth xs) e := ⟨_, rfl⟩
  obtain ⟨n, hn⟩ : ∃ n, n = xs.length := ⟨_, rfl⟩
  rw [← hd, ← her] at CT ⊢
  rw [← hn] at CT ⊢
  have CT := hid CT
  clear h htab hd her hn
  by_cases h0 : d.m = 0
  · have hr : negD d = d := if_pos h0
    rw [hr]
    have hl := (limbs_zero_iff d.m).2 h0
    obtain ⟨gn, m, ed⟩ := d
    simp only at h0 hl
    subst h0
    clear hr hl
    go_enter Tryz.func53, Tryz.ntmps53
    go_wp2_with fail
    refine (CT.out _ (((Below.refl _ _).alloc (Nat.le_refl _) _).alloc (by simp) _)).mono ?_
    rintro e1 w1 ⟨a1, c1, rfl, ho⟩
    have HB1 := hid (below_alloc (below_alloc ho.1))
    have hz1 : w.heap.size + 1 < w1.heap.size := by have := ho.1.size; simp at this; omega
    have HO := hid (owns_mono ho.2 (show w.heap.size + 2 ≤ _ by simp))
    have hk := blk_three (blk_below (blk_new2 w _ _) ho.1)
    obtain ⟨⟨k0, k1, k2⟩, f0, f1, f2⟩ := hk
    clear ho CT
    unfold decV
    rw [show (Num.limbs 0).length = 0 by rfl]
    go_wp2
    refine bodyPost_ret (v := .tuple #[decV ⟨gn, 0, ed⟩ a1 c1, .int .i64 er]) (by simp [results, Tryz.results53, go_sem, k0, k1, k2, decV, hz1]; try rfl) rfl ?_
    refine ⟨a1, c1, rfl, ?_, ?_⟩
    · exact (((HB1.out.setCell (Nat.le_succ _) _).setCell (Nat.le_succ _) _).setCell (Nat.le_succ _) _).alloc (by simpa using HB1.out.size) _
    · refine owns_mono (base := w.heap.size + 2) ?_ (by omega)
      exact owns_below (ownsRow_setCell_below (ownsRow_setCell_below (ownsRow_setCell_below HO.out (Nat.lt_succ_self _) _) (Nat.lt_succ_self _) _) (Nat.lt_succ_self _) _) ((Below.refl _ _).alloc (Nat.le_refl _) _)
  · have hr : negD d = ⟨!d.neg, d.m, d.e⟩ := if_neg h0
    rw [hr]
    have h1 : (Num.limbs d.m).length ≠ 0 := fun e => h0 ((limbs_zero_iff d.m).1 e)
    have hl : (0 : Int) < ((Num.limbs d.m).length : Int) := by omega
    clear h1
    obtain ⟨gn, m, ed⟩ := d
    simp only at hl
    obtain ⟨L, hL⟩ : ∃ L, L = (Num.limbs m).length := ⟨_, rfl⟩
    have HL := hid hL
    rw [← hL] at hl
    clear hr h0 hL
    cases gn with
    | false =>
      go_enter Tryz.func53, Tryz.ntmps53
      go_wp2_with fail
      refine (CT.out _ (((Below.refl _ _).alloc (Nat.le_refl _) _).alloc (by simp) _)).mono ?_
      rintro e1 w1 ⟨a1, c1, rfl, ho⟩
      have HB1 := hid (below_alloc (below_alloc ho.1))
      have hz1 : w.heap.size + 1 < w1.heap.size := by have := ho.1.size; simp at this; omega
      have HO := hid (owns_mono ho.2 (show w.heap.size + 2 ≤ _ by simp))
      have hk := blk_three (blk_below (blk_new2 w _ _) ho.1)
      obtain ⟨⟨k0, k1, k2⟩, f0, f1, f2⟩ := hk
      clear ho CT
      unfold decV
      simp only [← HL.out]
      go_wp2
      refine bodyPost_ret (v := .tuple #[decV ⟨true, m, ed⟩ a1 c1, .int .i64 er]) (by simp [results, Tryz.results53, go_sem, k0, k1, k2, decV, HL.out, hz1]) rfl ?_
      refine ⟨a1, c1, rfl, ?_, ?_⟩
      · exact (((HB1.out.setCell (Nat.le_succ _) _).setCell (Nat.le_succ _) _).setCell (Nat.le_succ _) _).alloc (by simpa using HB1.out.size) _
      · refine owns_mono (base := w.heap.size + 2) ?_ (by omega)
        exact owns_below (ownsRow_setCell_below (ownsRow_setCell_below (ownsRow_setCell_below HO.out (Nat.lt_succ_self _) _) (Nat.lt_succ_self _) _) (Nat.lt_succ_self _) _) ((Below.refl _ _).alloc (Nat.le_refl _) _)
    | true =>
      go_enter Tryz.func53, Tryz.ntmps53
      go_wp2_with fail
      refine (CT.out _ (((Below.refl _ _).alloc (Nat.le_refl _) _).alloc (by simp) _)).mono ?_
      rintro e1 w1 ⟨a1, c1, rfl, ho⟩
      have HB1 := hid (below_alloc (below_alloc ho.1))
      have hz1 : w.heap.size + 1 < w1.heap.size := by have := ho.1.size; simp at this; omega
      have HO := hid (owns_mono ho.2 (show w.heap.size + 2 ≤ _ by simp))
      have hk := blk_three (blk_below (blk_new2 w _ _) ho.1)
      obtain ⟨⟨k0, k1, k2⟩, f0, f1, f2⟩ := hk
      clear ho CT
      unfold decV
      simp only [← HL.out]
      go_wp2
      refine bodyPost_ret (v := .tuple #[decV ⟨false, m, ed⟩ a1 c1, .int .i64 er]) (by simp [results, Tryz.results53, go_sem, k0, k1, k2, decV, HL.out, hz1]) rfl ?_
      refine ⟨a1, c1, rfl, ?_, ?_⟩
      · exact (((HB1.out.setCell (Nat.le_succ _) _).setCell (Nat.le_succ _) _).setCell (Nat.le_succ _) _).alloc (by simpa using HB1.out.size) _
      · refine owns_mono (base := w.heap.size + 2) ?_ (by omega)
        exact owns_below (ownsRow_setCell_below (ownsRow_setCell_below (ownsRow_setCell_below HO.out (Nat.lt_succ_self _) _) (Nat.lt_succ_self _) _) (Nat.lt_succ_self _) _) ((Below.refl _ _).alloc (Nat.le_refl _) _)

end Go.Proofs.YtmdgciolnpkccaaGreatDoor
