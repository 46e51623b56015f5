/- Words for the walks of the laws: numbers in blocks, calls on them. -/
import Derived.Test.YtmdgciolnpkccaaGreatDoorDecP
import Derived.Test.YtmdgciolnpkccaaGreatDoorAlgB
import Derived.Test.YtmdgciolnpkccaaGreatDoorRefB
namespace Go.Proofs.YtmdgciolnpkccaaGreatDoor
open Go.RowKit

/-- Block N holds a number. -/
structure HasD (W : World) (N : Nat) (g : Bool) (xs : List Nat) (e : Int) (b : Option Addr) (c : Nat) : Prop where
  blk : W.heap[N]? = some (.cells #[.bool g, .slice b xs.length c, .int .i64 e] 25)
  u : U32 W b xs
theorem HasD.below {W W' : World} {N c : Nat} {g : Bool} {xs : List Nat} {e : Int} {b : Option Addr} (h : HasD W N g xs e b c) (hb : Below W.heap.size W W') : HasD W' N g xs e b c := ⟨blk_below h.blk hb, h.u.below hb⟩
theorem HasD.new {W : World} {d : D} {b : Option Addr} {c : Nat} (h : InD W d b c) : HasD (W.alloc (.cells #[.bool d.neg, .slice b (Num.limbs d.m).length c, .int .i64 d.e] 25)) W.heap.size d.neg (Num.limbs d.m) d.e b c :=
  ⟨blk_new W _, h.u.below ((Below.refl _ _).alloc (Nat.le_refl _) _)⟩
theorem HasD.pow {w W : World} (h : Pow w) (hb : Below w.heap.size w W) : Pow W := h.next hb
def boxD (g : Bool) (b : Option Addr) (n c : Nat) (e : Int) : Obj := .cells #[.bool g, .slice b n c, .int .i64 e] 25
theorem boxed1 {w W' : World} {g : Bool} {xs : List Nat} {e : Int} {b : Option Addr} {c : Nat} (h : U32 w b xs) (hb : Below (w.alloc (boxD g b xs.length c e)).heap.size (w.alloc (boxD g b xs.length c e)) W') :
    HasD W' w.heap.size g xs e b c ∧ Below w.heap.size w W' :=
  ⟨HasD.below ⟨blk_new w _, h.below ((Below.refl _ _).alloc (Nat.le_refl _) _)⟩ hb, below_alloc hb⟩
theorem boxed2 {w W' : World} {g g2 : Bool} {xs ys : List Nat} {e e2 : Int} {b b2 : Option Addr} {c c2 : Nat} (h : U32 w b xs) (h2 : U32 w b2 ys)
    (hb : Below ((w.alloc (boxD g b xs.length c e)).alloc (boxD g2 b2 ys.length c2 e2)).heap.size ((w.alloc (boxD g b xs.length c e)).alloc (boxD g2 b2 ys.length c2 e2)) W') :
    HasD W' w.heap.size g xs e b c ∧ HasD W' (w.heap.size + 1) g2 ys e2 b2 c2 ∧ Below w.heap.size w W' := by
  have k1 := (Below.refl w.heap.size w).alloc (Nat.le_refl _) (boxD g b xs.length c e)
  have := boxed1 (h2.below k1) hb
  rw [show (w.alloc (boxD g b xs.length c e)).heap.size = w.heap.size + 1 by simp] at this
  have h0 := boxed1 (c := c) (g := g) (e := e) h (below_alloc hb)
  exact ⟨h0.1, this.1, h0.2⟩
theorem boxed3 {w W' : World} {g g2 g3 : Bool} {xs ys zs : List Nat} {e e2 e3 : Int} {b b2 b3 : Option Addr} {c c2 c3 : Nat} (h : U32 w b xs) (h2 : U32 w b2 ys) (h3 : U32 w b3 zs)
    (hb : Below (((w.alloc (boxD g b xs.length c e)).alloc (boxD g2 b2 ys.length c2 e2)).alloc (boxD g3 b3 zs.length c3 e3)).heap.size (((w.alloc (boxD g b xs.length c e)).alloc (boxD g2 b2 ys.length c2 e2)).alloc (boxD g3 b3 zs.length c3 e3)) W') :
    HasD W' w.heap.size g xs e b c ∧ HasD W' (w.heap.size + 1) g2 ys e2 b2 c2 ∧ HasD W' (w.heap.size + 1 + 1) g3 zs e3 b3 c3 ∧ Below w.heap.size w W' := by
  have k1 := (Below.refl w.heap.size w).alloc (Nat.le_refl _) (boxD g b xs.length c e)
  have := boxed2 (h2.below k1) (h3.below k1) hb
  rw [show (w.alloc (boxD g b xs.length c e)).heap.size = w.heap.size + 1 by simp] at this
  have h0 := boxed1 (c := c) (g := g) (e := e) h (below_alloc (below_alloc hb))
  exact ⟨h0.1, this.1, this.2.1, h0.2⟩
/-- What a call takes of an argument. -/
def Is (g : Bool) (xs : List Nat) (e : Int) (ex : Nat) (x : D) : Prop := takenE g xs.length (Num.worth xs) e = ex ∧ takenD g xs.length (Num.worth xs) e = x
theorem is_arg (g : Bool) (xs : List Nat) (e : Int) : ∃ ex x, Is g xs e ex x ∧ Tk ex x ∧ (ex = 0 ∨ ex = 1 ∨ ex = 3) := ⟨_, _, ⟨rfl, rfl⟩, tk_taken _ _ _ _, takenE_vals _ _ _ _⟩
theorem is_own {d : D} (h : IsPlain d ∧ fitsB d = true) : Is d.neg (Num.limbs d.m) d.e 0 d := taken_self h.1 h.2
theorem good_len {d : D} (h : IsPlain d ∧ fitsB d = true) : (Num.limbs d.m).length ≤ 45 := limbs_400 (plain_bounds h.1 h.2).1

section
variable {g g2 : Bool} {xs ys : List Nat} {e e2 : Int} {ex ey : Nat} {x y : D} (W : World) (b : Option Addr) (c : Nat) (b2 : Option Addr) (c2 : Nat)
theorem c_Norm (hx : Is g xs e ex x) (h : U32 W b xs) (hp : Pow W) : Calls Tryz.prog 52 #[.agg #[.bool g, .slice b xs.length c, .int .i64 e]] W (OutDE W x ex) := by
  have := dec_Norm g b c e xs W h hp
  rw [hx.1, hx.2] at this; exact this
theorem c_Neg (hx : Is g xs e ex x) (h : U32 W b xs) (hp : Pow W) : Calls Tryz.prog 53 #[.agg #[.bool g, .slice b xs.length c, .int .i64 e]] W (OutDE W (negD x) ex) := by
  have := dec_Neg g b c e xs W h hp
  rw [hx.1, hx.2] at this; exact this
theorem c_Add (hx : Is g xs e ex x) (hy : Is g2 ys e2 ey y) (h : U32 W b xs) (h2 : U32 W b2 ys) (hp : Pow W) :
    Calls Tryz.prog 54 #[.agg #[.bool g, .slice b xs.length c, .int .i64 e], .agg #[.bool g2, .slice b2 ys.length c2, .int .i64 e2]] W (OutDE W (binR (bothE ex ey) (addR x y)).1 (binR (bothE ex ey) (addR x y)).2) := by
  have := dec_Add g b c e xs g2 b2 c2 e2 ys W h h2 hp
  rw [hx.1, hx.2, hy.1, hy.2] at this; exact this
theorem c_Mul (hx : Is g xs e ex x) (hy : Is g2 ys e2 ey y) (h : U32 W b xs) (h2 : U32 W b2 ys) (hp : Pow W) :
    Calls Tryz.prog 57 #[.agg #[.bool g, .slice b xs.length c, .int .i64 e], .agg #[.bool g2, .slice b2 ys.length c2, .int .i64 e2]] W (OutDE W (binR (bothE ex ey) (mulR x y)).1 (binR (bothE ex ey) (mulR x y)).2) := by
  have := dec_Mul g b c e xs g2 b2 c2 e2 ys W h h2 hp
  rw [hx.1, hx.2, hy.1, hy.2] at this; exact this
/-- What Cmp yields. -/
def OutIE (w : World) (m : Int) (er : Nat) (e : Ending) (w' : World) : Prop := e = .returned (.tuple #[.int .i64 m, .int .i64 er]) ∧ Below w.heap.size w w'
theorem c_Cmp (hx : Is g xs e ex x) (hy : Is g2 ys e2 ey y) (h : U32 W b xs) (h2 : U32 W b2 ys) (hp : Pow W) :
    Calls Tryz.prog 56 #[.agg #[.bool g, .slice b xs.length c, .int .i64 e], .agg #[.bool g2, .slice b2 ys.length c2, .int .i64 e2]] W (OutIE W (if bothE ex ey = 0 then cmpR x y else 0) (bothE ex ey)) := by
  have := dec_Cmp g b c e xs g2 b2 c2 e2 ys W h h2 hp
  rw [hx.1, hx.2, hy.1, hy.2] at this; exact this
instance decEqD : DecidableEq D := fun x y => if h : x.neg = y.neg ∧ x.m = y.m ∧ x.e = y.e then isTrue (by cases x; cases y; simp_all) else isFalse (fun e => h (by subst e; simp))
theorem limbs_inj {m n : Nat} (h : Num.limbs m = Num.limbs n) : m = n := by rw [← Num.worth_limbs m, h, Num.worth_limbs]
theorem D_ext {d d2 : D} (h1 : d.neg = d2.neg) (h3 : d.e = d2.e) (h4 : Num.limbs d.m = Num.limbs d2.m) : d = d2 := by
  obtain ⟨g, m, e⟩ := d
  obtain ⟨g', m', e'⟩ := d2
  simp only at h1 h3 h4
  rw [h1, h3, limbs_inj h4]
theorem c_same (d d2 : D) (hx : IsPlain d ∧ fitsB d = true) (h : U32 W b (Num.limbs d.m)) (h2 : U32 W b2 (Num.limbs d2.m)) :
    Calls Tryz.prog 21 #[.agg #[.bool d.neg, .slice b (Num.limbs d.m).length c, .int .i64 d.e], .agg #[.bool d2.neg, .slice b2 (Num.limbs d2.m).length c2, .int .i64 d2.e]] W fun en w' => en = .returned (.bool (decide (d = d2))) ∧ Below W.heap.size W w' := by
  refine (law2_same d.neg d2.neg b b2 c c2 d.e d2.e _ _ W h h2 (by have := good_len hx; omega)).mono ?_
  rintro en w' ⟨rfl, hb⟩
  refine ⟨ret_bool (by rw [decide_eq_decide]; exact ⟨fun ⟨h1, h3, h4⟩ => D_ext h1 h3 h4, fun h => by subst h; exact ⟨rfl, rfl, rfl⟩⟩), hb⟩
end

end Go.Proofs.YtmdgciolnpkccaaGreatDoor
