/- Layer 2, fifteenth part: Mul. -/
import Derived.Test.YtmdgciolnpkccaaGreatDoorDecN
import Derived.Test.YtmdgciolnpkccaaGreatDoorAlgA
namespace Go.Proofs.YtmdgciolnpkccaaGreatDoor
open Go.RowKit

/-- Block R has three cells that may be written. -/
def Cells3 (W : World) (R : Nat) : Prop := ∃ x y z T, W.heap[R]? = some (.cells #[x, y, z] T)
theorem Cells3.below {W W' : World} {R : Nat} (h : Cells3 W R) (hb : Below W.heap.size W W') : Cells3 W' R := by
  obtain ⟨x, y, z, T, h⟩ := h
  exact ⟨x, y, z, T, blk_below h hb⟩
theorem Cells3.frozen {W : World} {R : Nat} (h : Cells3 W R) (j : Nat) : W.frozen? ⟨R, j, none⟩ = false := by
  obtain ⟨x, y, z, T, h⟩ := h
  exact blk_frozen h j
theorem Cells3.get {W : World} {R : Nat} (h : Cells3 W R) : ∃ x y z, W.cell? ⟨R, 0, none⟩ = some x ∧ W.cell? ⟨R, 1, none⟩ = some y ∧ W.cell? ⟨R, 2, none⟩ = some z := by
  obtain ⟨x, y, z, T, h⟩ := h
  exact ⟨x, y, z, (blk_three h).1⟩
theorem Cells3.set3 {W : World} {R : Nat} (h : Cells3 W R) (u v t : Value) : Cells3 (((W.setCell ⟨R, 0, none⟩ u).setCell ⟨R, 1, none⟩ v).setCell ⟨R, 2, none⟩ t) R := by
  obtain ⟨x, y, z, T, h⟩ := h
  exact ⟨u, v, t, T, by simp [World.setCell, Array.getElem?_modify, h]⟩

/-- What is held of the world while a statement goes on that ends with a store into block R. -/
theorem keepR {W0 W w1 : World} {N M R : Nat} {x y z u v t : Value} (h : W.cell? ⟨N, 0, none⟩ = some x ∧ W.cell? ⟨N, 1, none⟩ = some y ∧ W.cell? ⟨N, 2, none⟩ = some z ∧ W.cell? ⟨M, 0, none⟩ = some u ∧ W.cell? ⟨M, 1, none⟩ = some v ∧ W.cell? ⟨M, 2, none⟩ = some t ∧
      W.frozen? ⟨R, 0, none⟩ = false ∧ W.frozen? ⟨R, 1, none⟩ = false ∧ W.frozen? ⟨R, 2, none⟩ = false ∧ Cells3 W R ∧ But R W0 W) (hb : Below W.heap.size W w1) :
    w1.cell? ⟨N, 0, none⟩ = some x ∧ w1.cell? ⟨N, 1, none⟩ = some y ∧ w1.cell? ⟨N, 2, none⟩ = some z ∧ w1.cell? ⟨M, 0, none⟩ = some u ∧ w1.cell? ⟨M, 1, none⟩ = some v ∧ w1.cell? ⟨M, 2, none⟩ = some t ∧
      w1.frozen? ⟨R, 0, none⟩ = false ∧ w1.frozen? ⟨R, 1, none⟩ = false ∧ w1.frozen? ⟨R, 2, none⟩ = false ∧ Cells3 w1 R ∧ But R W0 w1 := by
  obtain ⟨h0, h1, h2, h3, h4, h5, _, _, _, h6, h7⟩ := h
  have B' := (bcell hb).1
  have c6 := h6.below hb
  exact ⟨(B' _ _ (cell_lt h0)).trans h0, (B' _ _ (cell_lt h1)).trans h1, (B' _ _ (cell_lt h2)).trans h2, (B' _ _ (cell_lt h3)).trans h3, (B' _ _ (cell_lt h4)).trans h4, (B' _ _ (cell_lt h5)).trans h5, c6.frozen 0, c6.frozen 1, c6.frozen 2, c6, h7.step hb⟩
theorem keepRs {W0 W : World} {N M R : Nat} {x y z u v t : Value} (h : W.cell? ⟨N, 0, none⟩ = some x ∧ W.cell? ⟨N, 1, none⟩ = some y ∧ W.cell? ⟨N, 2, none⟩ = some z ∧ W.cell? ⟨M, 0, none⟩ = some u ∧ W.cell? ⟨M, 1, none⟩ = some v ∧ W.cell? ⟨M, 2, none⟩ = some t ∧
      W.frozen? ⟨R, 0, none⟩ = false ∧ W.frozen? ⟨R, 1, none⟩ = false ∧ W.frozen? ⟨R, 2, none⟩ = false ∧ Cells3 W R ∧ But R W0 W) (p q r : Value) (hN : N ≠ R) (hM : M ≠ R) (w1 : World) (hw : w1 = ((W.setCell ⟨R, 0, none⟩ p).setCell ⟨R, 1, none⟩ q).setCell ⟨R, 2, none⟩ r) :
    w1.cell? ⟨N, 0, none⟩ = some x ∧ w1.cell? ⟨N, 1, none⟩ = some y ∧ w1.cell? ⟨N, 2, none⟩ = some z ∧ w1.cell? ⟨M, 0, none⟩ = some u ∧ w1.cell? ⟨M, 1, none⟩ = some v ∧ w1.cell? ⟨M, 2, none⟩ = some t ∧
      w1.frozen? ⟨R, 0, none⟩ = false ∧ w1.frozen? ⟨R, 1, none⟩ = false ∧ w1.frozen? ⟨R, 2, none⟩ = false ∧ Cells3 w1 R ∧ But R W0 w1 := by
  subst hw
  obtain ⟨h0, h1, h2, h3, h4, h5, _, _, _, h6, h7⟩ := h
  have c6 := h6.set3 p q r
  have hc : ∀ (K j : Nat), K ≠ R → (((W.setCell ⟨R, 0, none⟩ p).setCell ⟨R, 1, none⟩ q).setCell ⟨R, 2, none⟩ r).cell? ⟨K, j, none⟩ = W.cell? ⟨K, j, none⟩ := fun K j hK => by
    refine World.cell?_of_block ?_
    simp only
    rw [Below.heap_setCell _ _ _ _ hK, Below.heap_setCell _ _ _ _ hK, Below.heap_setCell _ _ _ _ hK]
  exact ⟨(hc _ _ hN).trans h0, (hc _ _ hN).trans h1, (hc _ _ hN).trans h2, (hc _ _ hM).trans h3, (hc _ _ hM).trans h4, (hc _ _ hM).trans h5, c6.frozen 0, c6.frozen 1, c6.frozen 2, c6, ((h7.setCell _ _).setCell _ _).setCell _ _⟩

theorem owns_set3 {w : World} {base : Nat} {e : TypeId} {size : Nat} {v : Value} {n : Nat} {xs : List Value} (h : w.ownsRow base e size v n xs) {R : Nat} (hR : R < base) (p q r : Value) :
    (((w.setCell ⟨R, 0, none⟩ p).setCell ⟨R, 1, none⟩ q).setCell ⟨R, 2, none⟩ r).ownsRow base e size v n xs :=
  ownsRow_setCell_below (ownsRow_setCell_below (ownsRow_setCell_below h hR p) hR q) hR r

/-- What a call tells that takes two. -/
def binR (er : Nat) (r : D × Nat) : D × Nat := if er = 0 then r else (zeroD, er)
theorem tell_yes {d : D} (h : fitsB d = true) : tellR d = (d, 0) := if_pos h
theorem tell_no {d : D} (h : ¬ fitsB d = true) : tellR d = (zeroD, 3) := if_neg h

theorem digs_mul_le {m n : Nat} (hm : (Num.digs 10 m).length ≤ 400) (hn : (Num.digs 10 n).length ≤ 400) : (Num.digs 10 (m * n)).length ≤ 800 := by
  obtain ⟨k, hk⟩ : ∃ k : Nat, k = 400 := ⟨_, rfl⟩
  rw [← hk] at hm hn
  have h1 : m < 10 ^ k := (Num.digs_length_le (by decide)).1 hm
  have h2 : n < 10 ^ k := (Num.digs_length_le (by decide)).1 hn
  rw [show 800 = k + k by omega]
  refine (Num.digs_length_le (by decide)).2 ?_
  rw [Nat.pow_add]
  exact Nat.mul_lt_mul'' h1 h2

set_option maxRecDepth 100000 in
set_option maxHeartbeats 3200000 in
theorem mul_walk (g : Bool) (a : Option Addr) (n cap : Nat) (e : Int) (g2 : Bool) (a2 : Option Addr) (n2 cap2 : Nat) (e2 : Int) (w : World) (htab : Pow w) (x y : D) (er : Nat)
    (CB : ∀ W, Below w.heap.size w W → Calls Tryz.prog 105 #[.agg #[.bool g, .slice a n cap, .int .i64 e], .agg #[.bool g2, .slice a2 n2 cap2, .int .i64 e2]] W (OutDD W x y er))
    (hp : er = 0 → IsPlain x ∧ fitsB x = true ∧ IsPlain y ∧ fitsB y = true) :
    Calls Tryz.prog 57 #[.agg #[.bool g, .slice a n cap, .int .i64 e], .agg #[.bool g2, .slice a2 n2 cap2, .int .i64 e2]] w (OutDE w (binR er (mulR x y)).1 (binR er (mulR x y)).2) := by
  obtain ⟨r, hr⟩ : ∃ r, r = binR er (mulR x y) := ⟨_, rfl⟩
  rw [← hr]
  replace hr := hid hr
  replace CB := hid CB
  replace hp := hid hp
  replace htab := hid htab
  go_enter Tryz.func57, Tryz.ntmps57
  go_upto_region 1 with fail
  go_cut [6, 7, 8] from 9 (fun v6 v7 v8 w' => ∃ N M b1 c1 b2 c2, v6 = .pointer (some ⟨N, 0, none⟩) ∧ v7 = .pointer (some ⟨M, 0, none⟩) ∧ v8 = .int .i64 er ∧ TwoD w (w.heap.size + 1 + 1 + 1) w' x y N M b1 c1 b2 c2 ∧ Cells3 w' (w.heap.size + 1 + 1))
  case first =>
    go_wp2_with fail
    refine (CB.out _ ((((Below.refl _ _).alloc (Nat.le_refl _) _).alloc (by simp) _).alloc (by simp; omega) _)).mono ?_
    rintro e1 w1 ⟨b1, c1, b2, c2, rfl, ho1, ho2⟩
    have HB1 := hid (below_alloc (below_alloc (below_alloc ho1.1)))
    have R3 := hid (show Cells3 w1 (w.heap.size + 1 + 1) from Cells3.below ⟨_, _, _, _, by simpa using blk_new2 (w.alloc _) _ _⟩ ho1.1)
    have I1 := hid ho1
    have I2 := hid ho2
    clear ho1 ho2 CB
    unfold decV
    go_wp2_with fail
    go_meet
    case rel =>
      exact ⟨w1.heap.size, w1.heap.size + 1, b1, c1, b2, c2, rfl, rfl, rfl, TwoD.new HB1.out (by simp) I1.out I2.out, R3.out.below (((Below.refl _ _).alloc (Nat.le_refl _) _).alloc (by simp) _)⟩
  case rest =>
    obtain ⟨N, M, b1, c1, b2, c2, rfl, rfl, rfl, two, R3⟩ := hcut
    have h1 := blk_three two.h1
    have h2 := blk_three two.h2
    have z1 := blk_lt two.h1
    have z2 := blk_lt two.h2
    have l1 := two.l1
    have l2 := two.l2
    have HN := hid (show N ≠ w.heap.size + 1 + 1 by omega)
    have HM := hid (show M ≠ w.heap.size + 1 + 1 by omega)
    obtain ⟨⟨k0, k1, k2⟩, _⟩ := h1
    obtain ⟨⟨q0, q1, q2⟩, _⟩ := h2
    obtain ⟨r0, r1, r2, p0, p1, p2⟩ := R3.get
    have f0 := R3.frozen 0
    have f1 := R3.frozen 1
    have f2 := R3.frozen 2
    have TW := hid two
    replace R3 := hid R3
    clear CB two
    by_cases h0 : er = 0
    · obtain ⟨px, fx, py, fy⟩ := hp.out h0
      have bx := plain_bounds px fx
      have bY := plain_bounds py fy
      have hb1 := bx.2
      have hb2 := bY.2
      have hlx := limbs_400 bx.1
      have hly := limbs_400 bY.1
      have HTB : ∀ W, But (w.heap.size + 1 + 1) wc W → Pow W := fun W hW => htab.out.next (hW.below TW.out.bel (by omega) TW.out.bel.size)
      have CM := fun W (hW : But (w.heap.size + 1 + 1) wc W) => limb_Mul b1 b2 c1 c2 (Num.limbs x.m) (Num.limbs y.m) W (u32_limbs (hW.owns TW.out.o1 (by omega))) (u32_limbs (hW.owns TW.out.o2 (by omega))) (by omega) (by omega)
      simp only [Num.worth_limbs] at CM
      have hP : (Num.digs 10 (x.m * y.m)).length ≤ 800 := digs_mul_le bx.1 bY.1
      obtain ⟨P, hPe⟩ : ∃ P, P = x.m * y.m := ⟨_, rfl⟩
      rw [← hPe] at CM hP
      have hPl : (Num.limbs P).length ≤ 89 := limbs_pow hP (by decide)
      obtain ⟨d, hd⟩ : ∃ d, d = plainD (x.neg != y.neg) P (x.e + y.e) := ⟨_, rfl⟩
      have CP := fun W (am : Option Addr) (cm : Nat) (hu : U32 W am (Num.limbs P)) (hW : But (w.heap.size + 1 + 1) wc W) => dec_plain (x.neg != y.neg) am cm (x.e + y.e) (Num.limbs P) W hu (by omega) (by rw [Num.worth_limbs]; omega) (by omega) (HTB W hW)
      simp only [Num.worth_limbs, ← hd] at CP
      simp only [bne] at CP
      have hde := plain_e (x.neg != y.neg) P (x.e + y.e) (by omega) (by omega)
      rw [← hd] at hde
      have hdm : (Num.limbs d.m).length ≤ 89 := Nat.le_trans (Num.digs_length_mono Num.two_le_B9 (by rw [hd]; exact plain_m_le _ _ _)) hPl
      have CT := fun W (ap : Option Addr) (cp : Nat) (hi : InD W d ap cp) (hW : But (w.heap.size + 1 + 1) wc W) => dec_told d ap cp W hi (by omega) (by omega) (HTB W hW)
      have hr1 : r = tellR d := by rw [hr.out, hd, hPe]; unfold binR; rw [if_pos h0]; rfl
      have hne : ((er : Int) != 0) = false := by rw [bne_eq_false_iff_eq]; omega
      have wrap : IntKind.i64.wrap (x.e + y.e) = x.e + y.e := by rw [IntKind.wrap_i64]; omega
      clear h0 hp hr px fx py fy bx bY hlx hly hP hPe hPl hd hde hdm HTB
      by_cases hf : fitsB d = true
      · simp only [if_pos hf] at CT
        have CT : ∀ W (ap : Option Addr) (cp : Nat), InD W d ap cp → But (w.heap.size + 1 + 1) wc W → Calls Tryz.prog 108 #[decV d ap cp] W fun en w' => en = .returned (.tuple #[.agg #[.bool d.neg, .slice ap (Num.limbs d.m).length cp, .int .i64 d.e], .int .i64 0]) ∧ Below W.heap.size W w' := CT
        have HR := hid (hr1.trans (tell_yes hf))
        replace CM := hid CM
        replace CP := hid CP
        replace CT := hid CT
        clear hr1 hf
        go_wp2_with fail
        go_region_held3 (fun w' => w'.cell? ⟨N, 0, none⟩ = some (.bool x.neg) ∧ w'.cell? ⟨N, 1, none⟩ = some (.slice b1 (Num.limbs x.m).length c1) ∧ w'.cell? ⟨N, 2, none⟩ = some (.int .i64 x.e) ∧ w'.cell? ⟨M, 0, none⟩ = some (.bool y.neg) ∧ w'.cell? ⟨M, 1, none⟩ = some (.slice b2 (Num.limbs y.m).length c2) ∧ w'.cell? ⟨M, 2, none⟩ = some (.int .i64 y.e) ∧ w'.frozen? ⟨w.heap.size + 1 + 1, 0, none⟩ = false ∧ w'.frozen? ⟨w.heap.size + 1 + 1, 1, none⟩ = false ∧ w'.frozen? ⟨w.heap.size + 1 + 1, 2, none⟩ = false ∧ Cells3 w' (w.heap.size + 1 + 1) ∧ But (w.heap.size + 1 + 1) wc w') (first | (exact ⟨k0, k1, k2, q0, q1, q2, f0, f1, f2, R3.out, (But.refl _ _).drew⟩) | (exact keepR (by assumption) (by assumption)) | (exact keepRs (by assumption) _ _ _ HN.out HM.out _ rfl)) ((first | (go_at_call 115; (with_reducible refine (CM.out _ ?_).mono ?_); (simp only [*]); rintro e1 w1 ⟨am, cm, rfl, hb1, ho1⟩; have hu1 := u32_limbs ho1) | (go_at_call 61; (with_reducible refine (CP.out _ _ _ (by assumption) ?_).mono ?_); (simp only [*]); rintro e2 w2 ⟨ap, cp, rfl, hb2⟩; have hu2 := hb2.inD; have hb2' := hb2.1) | (go_at_call 108; (with_reducible refine (CT.out _ _ _ (by assumption) ?_).mono ?_); (simp only [*]); rintro e3 w3 ⟨rfl, hb3⟩; have hc2 : Cells3 w2 (w.heap.size + 1 + 1) := (by simp only [*]); obtain ⟨_, _, _, s0, s1, s2⟩ := (hc2.below hb3).get; have hc3 := hc2.below hb3)))
        rename_i hHeld
        obtain ⟨_, _, _, _, _, _, _, _, _, _, hB⟩ := hHeld
        have hz : wc.heap.size ≤ w1.heap.size := hb1.size
        have hw := TW.out.bel.size
        have HO := hid (owns_mono (owns_set3 (R := w.heap.size + 1 + 1) (owns_below hb2.2 hb3) (by omega) (.bool d.neg) (.slice ap (Num.limbs d.m).length cp) (.int .i64 d.e)) (show w.heap.size ≤ _ by omega))
        have HB := hid (hB.below TW.out.bel (by omega) TW.out.bel.size)
        clear hB hb1 ho1 hb2 hb2' hb3 hu1 hu2 hc2 hc3 CM CP CT
        go_wp2_with fail
        refine bodyPost_ret (v := .tuple #[decV d ap cp, .int .i64 0]) (by simp [results, Tryz.results57, go_sem, s0, s1, s2, decV]) rfl ?_
        rw [HR.out]
        exact ⟨ap, cp, rfl, HB.out, HO.out⟩
      · simp only [if_neg hf] at CT
        have CT : ∀ W (ap : Option Addr) (cp : Nat), InD W d ap cp → But (w.heap.size + 1 + 1) wc W → Calls Tryz.prog 108 #[decV d ap cp] W fun en w' => en = .returned (.tuple #[.agg #[.bool false, .slice none 0 0, .int .i64 0], .int .i64 3]) ∧ Below W.heap.size W w' := CT
        have HR := hid (hr1.trans (tell_no hf))
        replace CM := hid CM
        replace CP := hid CP
        replace CT := hid CT
        clear hr1 hf
        go_wp2_with fail
        go_region_held3 (fun w' => w'.cell? ⟨N, 0, none⟩ = some (.bool x.neg) ∧ w'.cell? ⟨N, 1, none⟩ = some (.slice b1 (Num.limbs x.m).length c1) ∧ w'.cell? ⟨N, 2, none⟩ = some (.int .i64 x.e) ∧ w'.cell? ⟨M, 0, none⟩ = some (.bool y.neg) ∧ w'.cell? ⟨M, 1, none⟩ = some (.slice b2 (Num.limbs y.m).length c2) ∧ w'.cell? ⟨M, 2, none⟩ = some (.int .i64 y.e) ∧ w'.frozen? ⟨w.heap.size + 1 + 1, 0, none⟩ = false ∧ w'.frozen? ⟨w.heap.size + 1 + 1, 1, none⟩ = false ∧ w'.frozen? ⟨w.heap.size + 1 + 1, 2, none⟩ = false ∧ Cells3 w' (w.heap.size + 1 + 1) ∧ But (w.heap.size + 1 + 1) wc w') (first | (exact ⟨k0, k1, k2, q0, q1, q2, f0, f1, f2, R3.out, (But.refl _ _).drew⟩) | (exact keepR (by assumption) (by assumption)) | (exact keepRs (by assumption) _ _ _ HN.out HM.out _ rfl)) ((first | (go_at_call 115; (with_reducible refine (CM.out _ ?_).mono ?_); (simp only [*]); rintro e1 w1 ⟨am, cm, rfl, hb1, ho1⟩; have hu1 := u32_limbs ho1) | (go_at_call 61; (with_reducible refine (CP.out _ _ _ (by assumption) ?_).mono ?_); (simp only [*]); rintro e2 w2 ⟨ap, cp, rfl, hb2⟩; have hu2 := hb2.inD; have hb2' := hb2.1) | (go_at_call 108; (with_reducible refine (CT.out _ _ _ (by assumption) ?_).mono ?_); (simp only [*]); rintro e3 w3 ⟨rfl, hb3⟩; have hc2 : Cells3 w2 (w.heap.size + 1 + 1) := (by simp only [*]); obtain ⟨_, _, _, s0, s1, s2⟩ := (hc2.below hb3).get; have hc3 := hc2.below hb3)))
        rename_i hHeld
        obtain ⟨_, _, _, _, _, _, _, _, _, _, hB⟩ := hHeld
        have HB := hid (hB.below TW.out.bel (by omega) TW.out.bel.size)
        clear hB hb1 ho1 hb2 hb2' hb3 hu1 hu2 hc2 hc3 CM CP CT
        go_wp2_with fail
        refine bodyPost_ret (v := .tuple #[decV zeroD none 0, .int .i64 3]) (by simp [results, Tryz.results57, go_sem, s0, s1, s2, decV, zeroD]; rfl) rfl ?_
        rw [HR.out]
        exact ⟨none, 0, rfl, HB.out, World.ownsRow_nil _ _ _ _⟩
    · have hne : ((er : Int) != 0) = true := by rw [bne_iff_ne]; omega
      have HR := hid (show r = (zeroD, er) by rw [hr.out]; unfold binR; rw [if_neg h0])
      clear h0 hp hr
      go_wp2
      refine bodyPost_ret (v := .tuple #[decV zeroD none 0, .int .i64 er]) (by simp [results, Tryz.results57, go_sem, p0, p1, p2, decV, zeroD]; rfl) rfl ?_
      rw [HR.out]
      refine ⟨none, 0, rfl, ?_, ?_⟩
      · exact ((TW.out.bel.setCell (by simp only; omega) _).setCell (by simp only; omega) _).setCell (by simp only; omega) _
      · exact World.ownsRow_nil _ _ _ _

theorem dec_Mul (g : Bool) (a : Option Addr) (cap : Nat) (e : Int) (xs : List Nat) (g2 : Bool) (a2 : Option Addr) (cap2 : Nat) (e2 : Int) (ys : List Nat) (w : World) (h : U32 w a xs) (h2 : U32 w a2 ys) (htab : Pow w) :
    Calls Tryz.prog 57 #[.agg #[.bool g, .slice a xs.length cap, .int .i64 e], .agg #[.bool g2, .slice a2 ys.length cap2, .int .i64 e2]] w
      (OutDE w (binR (bothE (takenE g xs.length (Num.worth xs) e) (takenE g2 ys.length (Num.worth ys) e2)) (mulR (takenD g xs.length (Num.worth xs) e) (takenD g2 ys.length (Num.worth ys) e2))).1
        (binR (bothE (takenE g xs.length (Num.worth xs) e) (takenE g2 ys.length (Num.worth ys) e2)) (mulR (takenD g xs.length (Num.worth xs) e) (takenD g2 ys.length (Num.worth ys) e2))).2) := by
  refine mul_walk g a xs.length cap e g2 a2 ys.length cap2 e2 w htab _ _ _ (fun W hb => dec_both g a cap e xs g2 a2 cap2 e2 ys W (h.below hb) (h2.below hb) (htab.next hb)) ?_
  intro h0
  obtain ⟨z1, z2⟩ := bothE_zero h0
  have q1 := taken_facts z1
  have q2 := taken_facts z2
  exact ⟨q1.1, q1.2, q2.1, q2.2⟩

end Go.Proofs.YtmdgciolnpkccaaGreatDoor
