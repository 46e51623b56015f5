/- Layer 1, second part: the functions that hand a sum to 'carried'. -/
import Derived.Test.YtmdgciolnpkccaaGreatDoorLimbA
import Derived.Deep.QuietTactic
import Derived.BigQuiet
namespace Go.Proofs.YtmdgciolnpkccaaGreatDoor
open Go.RowKit

theorem small_of {s : Nat → Nat} {n : Nat} (h : ∀ i, i < n → s i ≤ 1000000000000000000) : Small s n := by
  intro i hi; have := h i hi; split <;> omega

/-- A call that yields limbs, in memory of its own. -/
def OutU (w : World) (xs : List Nat) (e : Ending) (w' : World) : Prop :=
  ∃ a cap, e = .returned (.slice a xs.length cap) ∧ Below w.heap.size w w' ∧ w'.ownsRow w.heap.size 70 1 (.slice a xs.length cap) xs.length (u32s xs)
theorem u32_limbs {w : World} {base n cap m : Nat} {a : Option Addr} (h : w.ownsRow base 70 1 (.slice a m cap) m (u32s (Num.limbs n))) : U32 w a (Num.limbs n) :=
  ⟨owned_row h, fun x hx => by have := Num.limbs_lt n x hx; omega⟩

theorem OutU.of_alloc {w w' : World} {o : Obj} {xs : List Nat} {e : Ending} (h : OutU (w.alloc o) xs e w') : OutU w xs e w' := by
  obtain ⟨a, cap, he, hb, ho⟩ := h
  exact ⟨a, cap, he, below_alloc hb, owns_mono ho (by simp)⟩
theorem OutU.of_below {w w1 w' : World} {xs : List Nat} {e : Ending} (h : OutU w1 xs e w') (hb : Below w.heap.size w w1) : OutU w xs e w' := by
  obtain ⟨a, cap, he, hb', ho⟩ := h
  exact ⟨a, cap, he, below_trans hb hb', owns_mono ho hb.size⟩
/-- A call that yields limbs and an error's number. -/
def OutUE (w : World) (xs : List Nat) (err : Nat) (e : Ending) (w' : World) : Prop :=
  ∃ a cap, e = .returned (.tuple #[.slice a xs.length cap, .int .i64 err]) ∧ Below w.heap.size w w' ∧ w'.ownsRow w.heap.size 70 1 (.slice a xs.length cap) xs.length (u32s xs)
theorem OutUE.nil {w w' : World} {err : Nat} (h : Below w.heap.size w w') : OutUE w [] err (.returned (.tuple #[.slice none 0 0, .int .i64 err])) w' := ⟨none, 0, rfl, h, World.ownsRow_nil _ _ _ _⟩

/-- 'carried' as its callers meet it. -/
theorem carried (n f : Nat) (cs : Array Value) (s : Nat → Nat) (w : World) (hn : n ≤ 1000000000) (hs : Small s n) (hcall : ∀ args W, (callFunc f args).run Tryz.prog W = .ok (.enter f args) W)
    (hF : ∀ i W, i < n → Below w.heap.size w W → Calls Tryz.prog f (#[.int .i64 (i : Nat)] ++ cs) W fun e W' => e = .returned (.int .u64 (s i : Nat)) ∧ ∃ q, W' = W.drewN q) :
    Calls Tryz.prog 168 #[.int .i64 n, .func (.func f) #[] cs] w (OutU w (Num.limbs (Num.laid s n))) := by
  refine (carried_any n f cs s w hn hs hcall hF).mono ?_
  rintro e w' ⟨v, rfl, hb, ho⟩
  obtain ⟨a, cap, rfl, _, _⟩ := owns_row ho
  exact ⟨a, cap, rfl, hb, ho⟩

/-- 'trim' on a row of the call's own. -/
theorem limb_trim_same (a : Option Addr) (n cap : Nat) (out : List Nat) (w wr : World) (hl : out.length = n) (h9 : ∀ x ∈ out, x < 1000000000) (ho : wr.ownsRow w.heap.size 70 1 (.slice a n cap) n (u32s out)) (hb : Below w.heap.size w wr) :
    Calls Tryz.prog 123 #[.slice a n cap] wr fun e w' => OutU w (Num.limbs (Num.worth out)) e w' ∧ wr = w' := by
  subst hl
  have hcap := owns_cap ho
  refine (limb_trim a cap out wr (owned_row ho) hcap.1 hcap.2).mono ?_
  rintro e w' ⟨rfl, rfl⟩
  have e1 : Num.trim out = Num.limbs (Num.worth out) := Num.trim_limbs out h9
  have e2 := owns_cut ho (trimLen out) (trimLen_le out)
  have e3 : (u32s out).take (trimLen out) = u32s (Num.trim out) := by rw [← take_trimLen]; simp [u32s, List.map_take]
  rw [e3, e1] at e2
  have e4 : trimLen out = (Num.limbs (Num.worth out)).length := by rw [trimLen, e1]
  rw [e4] at e2 ⊢
  exact ⟨⟨a, cap, rfl, hb, e2⟩, rfl⟩
theorem limb_trim_out (a : Option Addr) (n cap : Nat) (out : List Nat) (w wr : World) (hl : out.length = n) (h9 : ∀ x ∈ out, x < 1000000000) (ho : wr.ownsRow w.heap.size 70 1 (.slice a n cap) n (u32s out)) (hb : Below w.heap.size w wr) :
    Calls Tryz.prog 123 #[.slice a n cap] wr (OutU w (Num.limbs (Num.worth out))) :=
  (limb_trim_same a n cap out w wr hl h9 ho hb).mono fun _ _ h => h.1

theorem norm_sum (W : World) (p b off n cap i : Nat) (x : Int) (hi : i < n) (hp : W.cell? ⟨p, 0, none⟩ = some (.slice (some ⟨b, off, none⟩) n cap)) (hc : W.cell? ⟨b, off + i, none⟩ = some (.int .u32 x)) (h0 : 0 ≤ x) (h1 : x < 4294967296) :
    Calls Tryz.prog 179 #[.int .i64 i, .pointer (some ⟨p, 0, none⟩)] W fun e W' => e = .returned (.int .u64 x) ∧ ∃ q, W' = W.drewN q := by
  go_enter Tryz.func179, Tryz.ntmps179
  go_wp2
  go_ret
  exact ⟨rfl, 0, rfl⟩

theorem laid_list (xs : List Nat) : Num.laid (fun i => xs.getD i 0) xs.length = Num.worth xs := Num.upto_val _ xs

set_option maxHeartbeats 400000 in
theorem limb_Norm (a : Option Addr) (cap : Nat) (xs : List Nat) (w : World) (h : U32 w a xs) (hn : xs.length ≤ 1000000000) :
    Calls Tryz.prog 124 #[.slice a xs.length cap] w (OutU w (Num.limbs (Num.worth xs))) := by
  have H := hid h
  clear h
  go_enter Tryz.func124, Tryz.ntmps124
  go_wp2_with fail
  refine (carried xs.length 179 _ (fun i => xs.getD i 0) _ hn ?_ (run_callFunc Tryz.func179 (by kernel_rfl) (by kernel_rfl)) ?_).mono ?_
  · intro i _; show xs.getD i 0 + _ < _; have := H.out.getD_lt i; split <;> omega
  · intro i W hi hb
    have hb' := below_alloc hb
    obtain ⟨b, off, rfl⟩ := H.out.isSome (by intro e; subst e; simp at hi)
    exact norm_sum W _ b off xs.length cap i _ hi ((hb.cell (by simp)).trans (by simp)) ((hb'.cell (cell_lt (H.out.row.u32 hi))).trans (H.out.row.u32 hi)) (by omega) (by have := H.out.getD_lt i; omega)
  · rw [laid_list]
    rintro e w' ⟨a', cap', rfl, hb, ho⟩
    go_wp2
    go_ret
    exact OutU.of_alloc ⟨_, _, rfl, hb, ho⟩

theorem of_sum (W : World) (p i : Nat) (n : Int) (hp : W.cell? ⟨p, 0, none⟩ = some (.int .u64 n)) :
    Calls Tryz.prog 171 #[.int .i64 i, .pointer (some ⟨p, 0, none⟩)] W fun e W' => e = .returned (.int .u64 n) ∧ ∃ q, W' = W.drewN q := by
  go_enter Tryz.func171, Tryz.ntmps171
  go_wp2
  go_ret
  exact ⟨rfl, 0, rfl⟩
theorem limb_Of (n : Nat) (w : World) (hn : n ≤ 18446744073709551615) :
    Calls Tryz.prog 112 #[.int .u64 n] w (OutU w (Num.limbs n)) := by
  have H := hid hn
  clear hn
  go_enter Tryz.func112, Tryz.ntmps112
  go_wp2_with fail
  refine (carried 1 171 _ (fun _ => n) _ (by omega) ?_ (run_callFunc Tryz.func171 (by kernel_rfl) (by kernel_rfl)) ?_).mono ?_
  · intro i hi; show n + _ < _; have := H.out; split <;> omega
  · intro i W hi hb
    exact of_sum W _ i n ((hb.cell (by simp)).trans (by simp))
  · rw [show Num.laid (fun _ => n) 1 = n by simp [Num.laid, Num.upto]]
    rintro e w' ⟨a', cap', rfl, hb, ho⟩
    go_wp2
    go_ret
    exact OutU.of_alloc ⟨_, _, rfl, hb, ho⟩

theorem times_sum (W : World) (p p2 b off n cap i : Nat) (x m : Int) (hi : i < n) (hp : W.cell? ⟨p, 0, none⟩ = some (.slice (some ⟨b, off, none⟩) n cap)) (hp2 : W.cell? ⟨p2, 0, none⟩ = some (.int .u64 m)) (hc : W.cell? ⟨b, off + i, none⟩ = some (.int .u32 x)) (h0 : 0 ≤ x) (h1 : x < 4294967296) (h2 : 0 ≤ x * m) (h3 : x * m ≤ 18446744073709551615) :
    Calls Tryz.prog 196 #[.int .i64 i, .pointer (some ⟨p, 0, none⟩), .pointer (some ⟨p2, 0, none⟩)] W fun e W' => e = .returned (.int .u64 (x * m)) ∧ ∃ q, W' = W.drewN q := by
  go_enter Tryz.func196, Tryz.ntmps196
  go_wp2
  go_quiet (fail)
  go_wp2
  go_ret
  exact ⟨rfl, nq, rfl⟩

theorem quiet_same {P : Program} {f : FuncId} {args : Array Value} {w : World} {n : Nat} {v : Value}
    (h : Calls P f args (w.drewN n) fun e w' => e = .returned v ∧ w.drewN n = w') : Calls P f args (w.drewN n) fun e w'' => e = .returned v ∧ ∃ m, w'' = w.drewN m :=
  h.mono fun _ _ ⟨he, hm⟩ => ⟨he, n, hm.symm⟩

/-- 'times': a list of limbs by one limb. -/
theorem limb_times (a : Option Addr) (cap m : Nat) (xs : List Nat) (w : World) (h : U32 w a xs) (hx : ∀ x ∈ xs, x < 1000000000) (hn : xs.length ≤ 1000000000) (hm : m ≤ 1000000000) :
    Calls Tryz.prog 150 #[.slice a xs.length cap, .int .u64 m] w (OutU w (Num.limbs (Num.worth xs * m))) := by
  have H := hid h
  have HX := hid hx
  have HM := hid hm
  clear h hx hm
  have hb : ∀ i, xs.getD i 0 * m ≤ 999999999 * 1000000000 := fun i => by
    refine Nat.mul_le_mul ?_ HM.out
    by_cases hi : i < xs.length
    · have := HX.out (xs.getD i 0) (by simp [hi]); omega
    · simp [List.getElem?_eq_none (show xs.length ≤ i by omega)]
  have HB := hid hb
  clear hb
  go_enter Tryz.func150, Tryz.ntmps150
  go_wp2_with fail
  refine (carried xs.length 196 _ (fun i => xs.getD i 0 * m) _ hn ?_ (run_callFunc Tryz.func196 (by kernel_rfl) (by kernel_rfl)) ?_).mono ?_
  · intro i _; show xs.getD i 0 * m + _ < _; have := HB.out i; split <;> omega
  · intro i W hi hb
    have hb' := below_alloc (below_alloc hb)
    obtain ⟨b, off, rfl⟩ := H.out.isSome (by intro e; subst e; simp at hi)
    have hc := H.out.row.u32 hi
    have e1 : ((xs.getD i 0 * m : Nat) : Int) = ((xs.getD i 0 : Nat) : Int) * (m : Int) := by simp
    have := HB.out i
    rw [e1]
    exact times_sum W _ _ b off xs.length cap i _ m hi ((hb.cell (by simp <;> omega)).trans (by simp)) ((hb.cell (by simp)).trans (by simp)) ((hb'.cell (cell_lt hc)).trans hc) (by omega) (by have := H.out.getD_lt i; omega) (by rw [← e1]; omega) (by rw [← e1]; omega)
  · rw [show Num.laid (fun i => xs.getD i 0 * m) xs.length = Num.worth xs * m by unfold Num.laid; rw [Num.upto_mul]; exact congrArg (· * m) (laid_list xs)]
    rintro e w' ⟨a', cap', rfl, hb, ho⟩
    go_wp2
    go_ret
    exact OutU.of_alloc (OutU.of_alloc ⟨_, _, rfl, hb, ho⟩)

theorem add_sum (W : World) (p p2 : Nat) (a a2 : Option Addr) (cap cap2 i : Nat) (xs ys : List Nat) (h : U32 W a xs) (h2 : U32 W a2 ys) (hn : xs.length ≤ 1000000000) (hn2 : ys.length ≤ 1000000000)
    (hp : W.cell? ⟨p, 0, none⟩ = some (.slice a xs.length cap)) (hp2 : W.cell? ⟨p2, 0, none⟩ = some (.slice a2 ys.length cap2)) :
    Calls Tryz.prog 169 #[.int .i64 i, .pointer (some ⟨p, 0, none⟩), .pointer (some ⟨p2, 0, none⟩)] W fun e W' => e = .returned (.int .u64 ((xs.getD i 0 + ys.getD i 0 : Nat) : Int)) ∧ ∃ q, W' = W.drewN q := by
  have hx := h.getD_lt i
  have hy := h2.getD_lt i
  obtain ⟨x, hxe⟩ : ∃ x, x = xs.getD i 0 := ⟨_, rfl⟩
  obtain ⟨y, hye⟩ : ∃ y, y = ys.getD i 0 := ⟨_, rfl⟩
  rw [← hxe] at hx ⊢
  rw [← hye] at hy ⊢
  have C1 : ∀ n, Calls Tryz.prog 170 #[.slice a xs.length cap, .int .i64 i] (W.drewN n) fun e w' => e = .returned (.int .u64 (x : Int)) ∧ W.drewN n = w' := fun n => by
    rw [hxe]; exact limb_at a cap i xs _ h.row (by omega) h.lt
  have C2 : ∀ n, Calls Tryz.prog 170 #[.slice a2 ys.length cap2, .int .i64 i] (W.drewN n) fun e w' => e = .returned (.int .u64 (y : Int)) ∧ W.drewN n = w' := fun n => by
    rw [hye]; exact limb_at a2 cap2 i ys _ h2.row (by omega) h2.lt
  have C1 := hid C1
  have C2 := hid C2
  clear h h2 hxe hye
  go_enter Tryz.func169, Tryz.ntmps169
  go_wp2_with fail
  go_quiet ((first | (with_reducible exact quiet_same (C1.out _)) | (with_reducible exact quiet_same (C2.out _))))
  go_wp2
  go_ret
  exact ⟨by simp, nq, rfl⟩

theorem add_carried (a a2 : Option Addr) (cap cap2 k : Nat) (xs ys : List Nat) (w : World) (h : U32 w a xs) (h2 : U32 w a2 ys) (hk1 : xs.length ≤ k) (hk2 : ys.length ≤ k) (hk3 : k ≤ 1000000000) :
    Calls Tryz.prog 168 #[.int .i64 k, .func (.func 169) #[] #[.pointer (some ⟨w.heap.size, 0, none⟩), .pointer (some ⟨w.heap.size + 1, 0, none⟩)]]
      ((w.alloc (.cells #[.slice a xs.length cap] 23)).alloc (.cells #[.slice a2 ys.length cap2] 23)) (OutU w (Num.limbs (Num.worth xs + Num.worth ys))) := by
  refine (carried k 169 _ (fun i => xs.getD i 0 + ys.getD i 0) _ hk3 ?_ (run_callFunc Tryz.func169 (by kernel_rfl) (by kernel_rfl)) ?_).mono ?_
  · exact small_of fun i _ => by have := h.getD_lt i; have := h2.getD_lt i; omega
  · intro i W hi hb
    have hb' := below_alloc (below_alloc hb)
    exact add_sum W _ _ a a2 cap cap2 i xs ys (h.below hb') (h2.below hb') (by omega) (by omega) ((hb.cell (by simp <;> omega)).trans (by simp)) ((hb.cell (by simp)).trans (by simp))
  · rw [show Num.laid (fun i => xs.getD i 0 + ys.getD i 0) k = Num.worth xs + Num.worth ys by
      unfold Num.laid Num.worth; rw [Num.upto_add, Num.upto_val_ge _ _ _ hk1, Num.upto_val_ge _ _ _ hk2]]
    exact fun e w' h => OutU.of_alloc (OutU.of_alloc h)

theorem limb_Add (a a2 : Option Addr) (cap cap2 : Nat) (xs ys : List Nat) (w : World) (h : U32 w a xs) (h2 : U32 w a2 ys) (hn : xs.length ≤ 1000000000) (hn2 : ys.length ≤ 1000000000) :
    Calls Tryz.prog 109 #[.slice a xs.length cap, .slice a2 ys.length cap2] w (OutU w (Num.limbs (Num.worth xs + Num.worth ys))) := by
  have H := hid h
  have H2 := hid h2
  clear h h2
  go_enter Tryz.func109, Tryz.ntmps109
  go_wp2_with fail
  all_goals
    refine (add_carried a a2 cap cap2 _ xs ys w H.out H2.out (by omega) (by omega) (by omega)).mono ?_
    rintro e w' ⟨a', cap', rfl, hb, ho⟩
    go_wp2
    go_ret
    exact ⟨_, _, rfl, hb, ho⟩

/-- -1, 0, 1. -/
def cmpN (x y : Nat) : Int := if x < y then -1 else if y < x then 1 else 0
theorem compare_int (x y : Nat) (w : World) (_hx : x ≤ 1000000000) (hy : y ≤ 1000000000) :
    Calls Tryz.prog 132 #[.int .i64 x, .int .i64 y] w fun e w' => e = .returned (.int .i64 (cmpN x y)) ∧ w = w' := by
  rcases Nat.lt_trichotomy x y with h | h | h
  · have e : cmpN x y = -1 := by simp [cmpN, h]
    rw [e]
    go_enter Tryz.func132, Tryz.ntmps132
    go_wp2
    go_ret
    exact ⟨rfl, rfl⟩
  · subst h
    have e : cmpN x x = 0 := by simp [cmpN]
    rw [e]
    go_enter Tryz.func132, Tryz.ntmps132
    go_wp2
    go_ret
    exact ⟨rfl, rfl⟩
  · have e : cmpN x y = 1 := by unfold cmpN; rw [if_neg (by omega), if_pos h]
    rw [e]
    go_enter Tryz.func132, Tryz.ntmps132
    go_wp2
    go_ret
    exact ⟨rfl, rfl⟩

end Go.Proofs.YtmdgciolnpkccaaGreatDoor
