/- Layer 2, fourteenth part: Cmp. -/
import Derived.Test.YtmdgciolnpkccaaGreatDoorDecM
import Derived.Test.YtmdgciolnpkccaaGreatDoorBackA
namespace Go.Proofs.YtmdgciolnpkccaaGreatDoor
open Go.RowKit

/-- Two numbers held against each other. -/
def cmpR (x y : D) : Int := if signD x < signD y then -1 else if signD y < signD x then 1 else if signD x = 0 then 0 else signD x * sizeC x y

/-- But for block R the world w' is, as far as w goes, as w was. -/
structure But (R : Nat) (w w' : World) : Prop where
  os : w'.os = w.os
  tape : w'.tape = w.tape
  output : w'.output = w.output
  size : w.heap.size ≤ w'.heap.size
  block : ∀ k, k < w.heap.size → k ≠ R → w'.heap[k]? = w.heap[k]?
theorem But.refl (R : Nat) (w : World) : But R w w := ⟨rfl, rfl, rfl, Nat.le_refl _, fun _ _ _ => rfl⟩
theorem But.drew {R : Nat} {w w' : World} (h : But R w w') : But R w w'.drew := ⟨h.os, h.tape, h.output, h.size, h.block⟩
theorem But.step {R : Nat} {w w1 w2 : World} (h : But R w w1) (hb : Below w1.heap.size w1 w2) : But R w w2 :=
  ⟨hb.os.trans h.os, hb.tape.trans h.tape, hb.output.trans h.output, Nat.le_trans h.size hb.size, fun k hk hr => (hb.block k (Nat.lt_of_lt_of_le hk h.size)).trans (h.block k hk hr)⟩
theorem But.setCell {R : Nat} {w w1 : World} (h : But R w w1) (o : Nat) (u : Value) : But R w (w1.setCell ⟨R, o, none⟩ u) :=
  ⟨h.os, h.tape, h.output, by simpa [World.setCell] using h.size, fun k hk hr => (Below.heap_setCell _ _ _ _ hr).trans (h.block k hk hr)⟩
theorem But.below {R B : Nat} {a w w' : World} (h : But R w w') (hb : Below B a w) (h1 : B ≤ R) (h2 : B ≤ w.heap.size) : Below B a w' :=
  hb.trans ⟨h.os, h.tape, h.output, h.size, fun k hk => h.block k (by omega) (by omega)⟩
theorem But.owns {R : Nat} {w w' : World} {base : Nat} {e : TypeId} {size : Nat} {v : Value} {n : Nat} {xs : List Value} (hb : But R w w') (h : w.ownsRow base e size v n xs) (hR : R < base) : w'.ownsRow base e size v n xs := by
  refine ⟨h.1, ?_⟩
  rcases h.2 with h | ⟨g, cap, cur, h1, h2, h3, h4⟩
  · exact .inl h
  · exact .inr ⟨g, cap, cur, h1, h2, by rw [hb.block g (Array.getElem?_eq_some_iff.1 h3).1 (by omega)]; exact h3, h4⟩

/-- Two numbers that were taken, in blocks of their own, from block B on. -/
structure TwoD (w : World) (B : Nat) (w' : World) (x y : D) (N M : Nat) (b1 : Option Addr) (c1 : Nat) (b2 : Option Addr) (c2 : Nat) : Prop where
  h1 : w'.heap[N]? = some (.cells #[.bool x.neg, .slice b1 (Num.limbs x.m).length c1, .int .i64 x.e] 25)
  h2 : w'.heap[M]? = some (.cells #[.bool y.neg, .slice b2 (Num.limbs y.m).length c2, .int .i64 y.e] 25)
  l1 : B ≤ N
  l2 : B ≤ M
  o1 : w'.ownsRow B 70 1 (.slice b1 (Num.limbs x.m).length c1) (Num.limbs x.m).length (u32s (Num.limbs x.m))
  o2 : w'.ownsRow B 70 1 (.slice b2 (Num.limbs y.m).length c2) (Num.limbs y.m).length (u32s (Num.limbs y.m))
  bel : Below w.heap.size w w'
theorem TwoD.i1 {w w' : World} {B : Nat} {x y : D} {N M c1 c2 : Nat} {b1 b2 : Option Addr} (h : TwoD w B w' x y N M b1 c1 b2 c2) : InD w' x b1 c1 := ⟨u32_limbs h.o1⟩
theorem TwoD.i2 {w w' : World} {B : Nat} {x y : D} {N M c1 c2 : Nat} {b1 b2 : Option Addr} (h : TwoD w B w' x y N M b1 c1 b2 c2) : InD w' y b2 c2 := ⟨u32_limbs h.o2⟩
theorem keepT {B : Nat} {w W' w1 : World} {N M : Nat} {x y z u v t : Value} (h : W'.cell? ⟨N, 0, none⟩ = some x ∧ W'.cell? ⟨N, 1, none⟩ = some y ∧ W'.cell? ⟨N, 2, none⟩ = some z ∧ W'.cell? ⟨M, 0, none⟩ = some u ∧ W'.cell? ⟨M, 1, none⟩ = some v ∧ W'.cell? ⟨M, 2, none⟩ = some t ∧ Below B w W') (hB : B ≤ w.heap.size) (hb : Below W'.heap.size W' w1) :
    w1.cell? ⟨N, 0, none⟩ = some x ∧ w1.cell? ⟨N, 1, none⟩ = some y ∧ w1.cell? ⟨N, 2, none⟩ = some z ∧ w1.cell? ⟨M, 0, none⟩ = some u ∧ w1.cell? ⟨M, 1, none⟩ = some v ∧ w1.cell? ⟨M, 2, none⟩ = some t ∧ Below B w w1 := by
  obtain ⟨h0, h1, h2, h3, h4, h5, h6⟩ := h
  have B' := (bcell hb).1
  exact ⟨(B' _ _ (cell_lt h0)).trans h0, (B' _ _ (cell_lt h1)).trans h1, (B' _ _ (cell_lt h2)).trans h2, (B' _ _ (cell_lt h3)).trans h3, (B' _ _ (cell_lt h4)).trans h4, (B' _ _ (cell_lt h5)).trans h5, h6.trans (hb.mono (Nat.le_trans hB h6.size))⟩

theorem TwoD.new {w w0 w1 : World} {x y : D} {b1 b2 : Option Addr} {c1 c2 B : Nat} (hb : Below w.heap.size w w1) (hB : B ≤ w0.heap.size) (o1 : OwnD w0 w1 x b1 c1) (o2 : OwnD w0 w1 y b2 c2) :
    TwoD w B ((w1.alloc (.cells #[.bool x.neg, .slice b1 (Num.limbs x.m).length c1, .int .i64 x.e] 25)).alloc (.cells #[.bool y.neg, .slice b2 (Num.limbs y.m).length c2, .int .i64 y.e] 25)) x y w1.heap.size (w1.heap.size + 1) b1 c1 b2 c2 := by
  have k1 := (Below.refl w1.heap.size w1).alloc (Nat.le_refl _) (.cells #[.bool x.neg, .slice b1 (Num.limbs x.m).length c1, .int .i64 x.e] 25)
  have k2 := k1.alloc (by simp) (.cells #[.bool y.neg, .slice b2 (Num.limbs y.m).length c2, .int .i64 y.e] 25)
  have hs := o1.1.size
  exact ⟨blk_alloc (blk_new w1 _) _, blk_new2 w1 _ _, by omega, by omega, owns_mono (owns_below o1.2 k2) hB, owns_mono (owns_below o2.2 k2) hB, below_trans hb k2⟩

theorem cmpN_bd (x y : Nat) : -1 ≤ cmpN x y ∧ cmpN x y ≤ 1 := by unfold cmpN; split <;> (try split) <;> omega
theorem sizeC_bd (x y : D) : -1 ≤ sizeC x y ∧ sizeC x y ≤ 1 := by
  unfold sizeC; split
  · split <;> omega
  · exact cmpN_bd _ _
theorem signD_cases (x : D) : signD x = 0 ∨ signD x = 1 ∨ signD x = -1 := by unfold signD; split <;> (try split) <;> simp
theorem bothE_zero {x y : Nat} (h : bothE x y = 0) : x = 0 ∧ y = 0 := by unfold bothE at h; split at h <;> (try split at h) <;> omega

set_option maxRecDepth 100000 in
set_option maxHeartbeats 3200000 in
theorem cmp_walk (g : Bool) (a : Option Addr) (n cap : Nat) (e : Int) (g2 : Bool) (a2 : Option Addr) (n2 cap2 : Nat) (e2 : Int) (w : World) (htab : Pow w) (x y : D) (er : Nat)
    (CB : ∀ W, Below w.heap.size w W → Calls Tryz.prog 105 #[.agg #[.bool g, .slice a n cap, .int .i64 e], .agg #[.bool g2, .slice a2 n2 cap2, .int .i64 e2]] W (OutDD W x y er))
    (hp : er = 0 → IsPlain x ∧ fitsB x = true ∧ IsPlain y ∧ fitsB y = true) :
    Calls Tryz.prog 56 #[.agg #[.bool g, .slice a n cap, .int .i64 e], .agg #[.bool g2, .slice a2 n2 cap2, .int .i64 e2]] w fun en w' =>
      en = .returned (.tuple #[.int .i64 (if er = 0 then cmpR x y else 0), .int .i64 er]) ∧ Below w.heap.size w w' := by
  obtain ⟨V, hV⟩ : ∃ V, V = (if er = 0 then cmpR x y else 0) := ⟨_, rfl⟩
  rw [← hV]
  replace hV := hid hV
  replace CB := hid CB
  replace hp := hid hp
  replace htab := hid htab
  go_enter Tryz.func56, Tryz.ntmps56
  go_upto_region 1 with fail
  go_cut [6, 7, 8] from 11 (fun v6 v7 v8 w' => ∃ N M b1 c1 b2 c2, v6 = .pointer (some ⟨N, 0, none⟩) ∧ v7 = .pointer (some ⟨M, 0, none⟩) ∧ v8 = .int .i64 er ∧ TwoD w w.heap.size w' x y N M b1 c1 b2 c2)
  case first =>
    go_wp2_with fail
    refine (CB.out _ (((Below.refl _ _).alloc (Nat.le_refl _) _).alloc (by simp) _)).mono ?_
    rintro e1 w1 ⟨b1, c1, b2, c2, rfl, ho1, ho2⟩
    have HB1 := hid (below_alloc (below_alloc ho1.1))
    have I1 := hid ho1
    have I2 := hid ho2
    clear ho1 ho2 CB
    unfold decV
    go_wp2_with fail
    go_meet
    case rel =>
      refine ⟨w1.heap.size, w1.heap.size + 1, b1, c1, b2, c2, rfl, rfl, rfl, ?_⟩
      exact TwoD.new HB1.out (by simp; omega) I1.out I2.out
  case rest =>
    obtain ⟨N, M, b1, c1, b2, c2, rfl, rfl, rfl, two⟩ := hcut
    have h1 := blk_three two.h1
    have h2 := blk_three two.h2
    have z1 := blk_lt two.h1
    have z2 := blk_lt two.h2
    obtain ⟨⟨k0, k1, k2⟩, _⟩ := h1
    obtain ⟨⟨q0, q1, q2⟩, _⟩ := h2
    have TW := hid two
    clear CB two
    by_cases h0 : er = 0
    · obtain ⟨px, fx, py, fy⟩ := hp.out h0
      have bx := plain_bounds px fx
      have bY := plain_bounds py fy
      have CX := fun W => dec_sign x b1 c1 W
      have CY := fun W => dec_sign y b2 c2 W
      have CZ := fun W (h1 : InD W x b1 c1) (h2 : InD W y b2 c2) (h3 : Pow W) => dec_size x y b1 c1 b2 c2 W h1 h2 bx.1 bY.1 (by omega) (by omega) h3
      have hsb := sizeC_bd x y
      obtain ⟨z, hz⟩ : ∃ z, z = sizeC x y := ⟨_, rfl⟩
      have hr : V = if signD x < signD y then -1 else if signD y < signD x then 1 else if signD x = 0 then 0 else signD x * z := by rw [hV.out, if_pos h0, hz]; rfl
      rw [← hz] at CZ hsb
      have hs1 := signD_cases x
      have hs2 := signD_cases y
      obtain ⟨s, hs⟩ : ∃ s, s = signD x := ⟨_, rfl⟩
      obtain ⟨t, ht⟩ : ∃ t, t = signD y := ⟨_, rfl⟩
      rw [← hs] at CX hs1 hr
      rw [← ht] at CY hs2 hr
      unfold decV at CX CY CZ
      replace CX := hid CX
      replace CY := hid CY
      replace CZ := hid CZ
      subst h0
      have HV := hid hr
      clear hp px fx py fy bx bY hz hr hs ht hV
      go_upto_region 4 with fail
      go_cut [6, 7, 9, 10] from 11 (fun v6 v7 v9 v10 w' => v6 = .pointer (some ⟨N, 0, none⟩) ∧ v7 = .pointer (some ⟨M, 0, none⟩) ∧ v9 = .int .i64 s ∧ v10 = .int .i64 t ∧ Below wc.heap.size wc w')
      case first =>
        go_region_held3 (fun w' => w'.cell? ⟨N, 0, none⟩ = some (.bool x.neg) ∧ w'.cell? ⟨N, 1, none⟩ = some (.slice b1 (Num.limbs x.m).length c1) ∧ w'.cell? ⟨N, 2, none⟩ = some (.int .i64 x.e) ∧ w'.cell? ⟨M, 0, none⟩ = some (.bool y.neg) ∧ w'.cell? ⟨M, 1, none⟩ = some (.slice b2 (Num.limbs y.m).length c2) ∧ w'.cell? ⟨M, 2, none⟩ = some (.int .i64 y.e) ∧ Below wc.heap.size wc w') (first | (exact ⟨k0, k1, k2, q0, q1, q2, (Below.refl _ _).drew⟩) | (exact keepT (by assumption) (Nat.le_refl _) (by assumption))) ((first | (go_at_call 113; (with_reducible refine (CX.out _).mono ?_); rintro e w' ⟨rfl, hb⟩) | (go_at_call 113; (with_reducible refine (CY.out _).mono ?_); rintro e w' ⟨rfl, hb⟩)))
        all_goals
          rename_i hHeld
          obtain ⟨_, _, _, _, _, _, hH⟩ := hHeld
          go_wp2_with fail
          go_meet
          case rel => exact ⟨rfl, rfl, rfl, rfl, hH⟩
      case rest =>
        rename_i wc2
        obtain ⟨rfl, rfl, rfl, rfl, hb⟩ := hcut
        have HB := hid (TW.out.bel.trans (hb.mono TW.out.bel.size))
        by_cases hlt : s < t
        · have HV1 := hid (show V = -1 by rw [HV.out, if_pos hlt])
          clear HV
          go_wp2
          go_ret2
          exact ⟨by rw [HV1.out]; rfl, HB.out⟩
        · by_cases hgt : t < s
          · have HV1 := hid (show V = 1 by rw [HV.out, if_neg hlt, if_pos hgt])
            clear HV
            go_wp2
            go_ret2
            exact ⟨by rw [HV1.out]; rfl, HB.out⟩
          · obtain rfl : s = t := by omega
            by_cases hs0 : s = 0
            · have HV1 := hid (show V = 0 by rw [HV.out, if_neg hlt, if_neg hlt, if_pos hs0])
              subst hs0
              clear HV hs1 hs2 hlt hgt
              go_wp2
              go_ret2
              exact ⟨by rw [HV1.out]; rfl, HB.out⟩
            · have HV1 := hid (show V = s * z by rw [HV.out, if_neg hlt, if_neg hlt, if_neg hs0])
              have hne : (s == 0) = false := by simpa using hs0
              have hs3 : s = 1 ∨ s = -1 := by omega
              have CI1 := hid (TW.out.i1.below hb)
              have CI2 := hid (TW.out.i2.below hb)
              clear HV hs1 hs2 hlt hgt
              have e1 := blk_three (blk_below TW.out.h1 hb)
              have e2 := blk_three (blk_below TW.out.h2 hb)
              have HTB := hid (htab.out.next HB.out)
              clear k0 k1 k2 q0 q1 q2 z1 z2 hb
              obtain ⟨⟨k0, k1, k2⟩, _⟩ := e1
              obtain ⟨⟨q0, q1, q2⟩, _⟩ := e2
              rcases hs3 with hs3 | hs3
              all_goals
                subst hs3
                go_wp2_with fail
                refine (CZ.out _ CI1.out CI2.out HTB.out).mono ?_
                rintro e3 w3 ⟨rfl, hb3⟩
                have HB3 := hid (below_trans HB.out hb3)
                clear hb3
                go_wp2
                go_ret2
                exact ⟨by rw [HV1.out]; (try rw [Int.one_mul]); (try rw [Int.neg_mul, Int.one_mul]); rfl, HB3.out⟩
    · have hne : ((er : Int) != 0) = true := by rw [bne_iff_ne]; omega
      have HV := hid (show V = 0 by rw [hV.out, if_neg h0])
      clear h0 hp hV
      go_wp2
      go_ret2
      exact ⟨by rw [HV.out]; rfl, TW.out.bel⟩

theorem dec_Cmp (g : Bool) (a : Option Addr) (cap : Nat) (e : Int) (xs : List Nat) (g2 : Bool) (a2 : Option Addr) (cap2 : Nat) (e2 : Int) (ys : List Nat) (w : World) (h : U32 w a xs) (h2 : U32 w a2 ys) (htab : Pow w) :
    Calls Tryz.prog 56 #[.agg #[.bool g, .slice a xs.length cap, .int .i64 e], .agg #[.bool g2, .slice a2 ys.length cap2, .int .i64 e2]] w fun en w' =>
      en = .returned (.tuple #[.int .i64 (if bothE (takenE g xs.length (Num.worth xs) e) (takenE g2 ys.length (Num.worth ys) e2) = 0 then cmpR (takenD g xs.length (Num.worth xs) e) (takenD g2 ys.length (Num.worth ys) e2) else 0), .int .i64 (bothE (takenE g xs.length (Num.worth xs) e) (takenE g2 ys.length (Num.worth ys) e2) : Nat)]) ∧ Below w.heap.size w w' := by
  refine cmp_walk g a xs.length cap e g2 a2 ys.length cap2 e2 w htab _ _ _ (fun W hb => dec_both g a cap e xs g2 a2 cap2 e2 ys W (h.below hb) (h2.below hb) (htab.next hb)) ?_
  intro h0
  obtain ⟨z1, z2⟩ := bothE_zero h0
  have q1 := taken_facts z1
  have q2 := taken_facts z2
  exact ⟨q1.1, q1.2, q2.1, q2.2⟩

end Go.Proofs.YtmdgciolnpkccaaGreatDoor
