/- lorgnetteref11.Fits, May. -/
import Derived.Test.YtldhebpkplglcaaGreatDoorMq
import Derived.Test.YtldhebpkplglcaaGreatDoorSeven
namespace Go.Proofs.YtldhebpkplglcaaGreatDoor
open Go.RowKit

theorem ref11_Fits : ∀ (n : Nat), n ≤ 200 → FitsC n
  | 0, _ => fun v cs w h => by
    obtain ⟨a, c, aa, ac, oa, oc, P⟩ := h.parts
    have e := P.cells
    subst e
    exact fits_walk 0 (by omega) (fun m hm => by omega) v a c aa ac oa oc w P
  | n + 1, hn => fun v cs w h => by
    obtain ⟨a, c, aa, ac, oa, oc, P⟩ := h.parts
    have e := P.cells
    subst e
    exact fits_walk (n + 1) hn (fun m hm => by obtain rfl : n = m := by omega
                                               exact ref11_Fits n (by omega)) v a c aa ac oa oc w P

theorem ref11_May (v : JV) (cs : List Value) (w : World) (h : RdV w cs v) : Calls Tryz.prog 24 #[.agg cs.toArray] w fun en w' => en = .returned (.bool (mayJ 200 v)) ∧ Below w.heap.size w w' := by
  have C := fun W (hb : Below w.heap.size w W) => ref11_Fits 200 (Nat.le_refl _) v cs W (h.stay hb)
  obtain ⟨k, g, a, ln, c, e, s, aa, an, ac, oa, on, oc, rfl⟩ := h.seven
  clear h
  generalize mayJ 200 v = R at *
  unfold valCs strV at *
  generalize (⟨s.toArray⟩ : ByteArray) = sb at *
  replace C := hid C
  go_enter Tryz.func24, Tryz.ntmps24
  go_wp2_with fail
  refine (C.out _ ((Below.refl _ _).alloc (Nat.le_refl _) _)).mono ?_
  rintro en w1 ⟨rfl, hb⟩
  have q := hid (below_trans ((Below.refl w.heap.size w).alloc (Nat.le_refl _) _) hb)
  clear hb
  go_wp2
  go_ret
  exact ⟨rfl, q.out⟩

end Go.Proofs.YtldhebpkplglcaaGreatDoor
