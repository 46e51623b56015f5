/- Words for the walks of chapter 03's laws: the calls of quot on numbers that were taken. -/
import Derived.Test.YtiblmkecipoanaaGreatDoorMi
import Derived.Test.YtiblmkecipoanaaGreatDoorAlgC
namespace Go.Proofs.YtiblmkecipoanaaGreatDoor
open Go.RowKit

section
variable {g g2 : Bool} {xs ys : List Nat} {e e2 : Int} {ex ey : Nat} {x y : D} (W : World) (b : Option Addr) (c : Nat) (b2 : Option Addr) (c2 : Nat)
theorem q_Div (hx : Is g xs e ex x) (hy : Is g2 ys e2 ey y) (h : U32 W b xs) (h2 : U32 W b2 ys) (hp : Pow W) :
    Calls Tryz.prog 11 #[.agg #[.bool g, .slice b xs.length c, .int .i64 e], .agg #[.bool g2, .slice b2 ys.length c2, .int .i64 e2]] W (OutDE W (divR (bothE ex ey) x y).1 (divR (bothE ex ey) x y).2) := by
  have := quot_Div g b c e xs g2 b2 c2 e2 ys W h h2 hp
  rw [hx.1, hx.2, hy.1, hy.2] at this; exact this
theorem q_Rem (hx : Is g xs e ex x) (hy : Is g2 ys e2 ey y) (h : U32 W b xs) (h2 : U32 W b2 ys) (hp : Pow W) :
    Calls Tryz.prog 14 #[.agg #[.bool g, .slice b xs.length c, .int .i64 e], .agg #[.bool g2, .slice b2 ys.length c2, .int .i64 e2]] W (OutDE W (remR (bothE ex ey) x y).1 (remR (bothE ex ey) x y).2) := by
  have := quot_Rem g b c e xs g2 b2 c2 e2 ys W h h2 hp
  rw [hx.1, hx.2, hy.1, hy.2] at this; exact this
theorem q_Trunc (hx : Is g xs e ex x) (h : U32 W b xs) (hp : Pow W) : Calls Tryz.prog 20 #[.agg #[.bool g, .slice b xs.length c, .int .i64 e]] W (OutDE W (roundR ex x 0).1 (roundR ex x 0).2) := by
  have := quot_Trunc g b c e xs W h hp
  rw [hx.1, hx.2] at this; exact this
theorem q_Floor (hx : Is g xs e ex x) (h : U32 W b xs) (hp : Pow W) : Calls Tryz.prog 21 #[.agg #[.bool g, .slice b xs.length c, .int .i64 e]] W (OutDE W (roundR ex x 1).1 (roundR ex x 1).2) := by
  have := quot_Floor g b c e xs W h hp
  rw [hx.1, hx.2] at this; exact this
theorem q_Ceil (hx : Is g xs e ex x) (h : U32 W b xs) (hp : Pow W) : Calls Tryz.prog 22 #[.agg #[.bool g, .slice b xs.length c, .int .i64 e]] W (OutDE W (roundR ex x 2).1 (roundR ex x 2).2) := by
  have := quot_Ceil g b c e xs W h hp
  rw [hx.1, hx.2] at this; exact this
theorem q_Round (hx : Is g xs e ex x) (h : U32 W b xs) (hp : Pow W) : Calls Tryz.prog 23 #[.agg #[.bool g, .slice b xs.length c, .int .i64 e]] W (OutDE W (roundR ex x 3).1 (roundR ex x 3).2) := by
  have := quot_Round g b c e xs W h hp
  rw [hx.1, hx.2] at this; exact this
theorem q_Abs (hx : Is g xs e ex x) (h : U32 W b xs) (hp : Pow W) : Calls Tryz.prog 24 #[.agg #[.bool g, .slice b xs.length c, .int .i64 e]] W (OutDE W (absD x) ex) := by
  have := quot_Abs g b c e xs W h hp
  rw [hx.1, hx.2] at this; exact this
theorem q_Whole (v : Bool) (hx : Is g xs e ex x) (hv : v = (decide (ex = 0) && decide (0 ≤ x.e))) (h : U32 W b xs) (hp : Pow W) : Calls Tryz.prog 18 #[.agg #[.bool g, .slice b xs.length c, .int .i64 e]] W fun en w' =>
    en = .returned (.bool v) ∧ Below W.heap.size W w' := by
  have := quot_Whole g b c e xs W h hp
  rw [hx.1, hx.2, ← hv] at this; exact this
theorem q_Int (hx : Is g xs e ex x) (h : U32 W b xs) (hp : Pow W) : Calls Tryz.prog 16 #[.agg #[.bool g, .slice b xs.length c, .int .i64 e]] W (OutIE W (intR ex x).1 (intR ex x).2) := by
  have := quot_Int g b c e xs W h hp
  rw [hx.1, hx.2] at this; exact this
theorem q_same (v : Bool) (d d2 : D) (hv : v = decide (d = d2)) (hx : IsPlain d ∧ fitsB d = true) (h : U32 W b (Num.limbs d.m)) (h2 : U32 W b2 (Num.limbs d2.m)) :
    Calls Tryz.prog 13 #[.agg #[.bool d.neg, .slice b (Num.limbs d.m).length c, .int .i64 d.e], .agg #[.bool d2.neg, .slice b2 (Num.limbs d2.m).length c2, .int .i64 d2.e]] W fun en w' => en = .returned (.bool v) ∧ Below W.heap.size W w' := by
  refine (law3_same d.neg d2.neg b b2 c c2 d.e d2.e _ _ W h h2 (by have := good_len hx; omega)).mono ?_
  rintro en w' ⟨rfl, hb⟩
  refine ⟨ret_bool (by rw [hv, decide_eq_decide]; exact ⟨fun ⟨h1, h3, h4⟩ => D_ext h1 h3 h4, fun h => by subst h; exact ⟨rfl, rfl, rfl⟩⟩), hb⟩
end

end Go.Proofs.YtiblmkecipoanaaGreatDoor
