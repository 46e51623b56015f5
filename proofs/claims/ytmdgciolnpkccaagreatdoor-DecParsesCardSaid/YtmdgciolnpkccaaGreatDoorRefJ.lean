/- The document's answer, eighth part: Take, Norm, May. -/
import Derived.Test.YtmdgciolnpkccaaGreatDoorRefI
import Derived.Test.YtmdgciolnpkccaaGreatDoorLawLib
namespace Go.Proofs.YtmdgciolnpkccaaGreatDoor
open Go.RowKit

/-- Block R holds a bool, a slice and a number. -/
def Rec (W : World) (R : Nat) : Prop := ∃ g a n c e T, W.heap[R]? = some (.cells #[.bool g, .slice a n c, .int .i64 e] T)
theorem Rec.cells {W : World} {R : Nat} (h : Rec W R) : Cells3 W R := by obtain ⟨g, a, n, c, e, T, h⟩ := h; exact ⟨_, _, _, T, h⟩
theorem Rec.below {W W' : World} {R : Nat} (h : Rec W R) (hb : Below W.heap.size W W') : Rec W' R := by obtain ⟨g, a, n, c, e, T, h⟩ := h; exact ⟨g, a, n, c, e, T, blk_below h hb⟩
theorem Rec.lt {W : World} {R : Nat} (h : Rec W R) : R < W.heap.size := by obtain ⟨g, a, n, c, e, T, h⟩ := h; exact blk_lt h
theorem Rec.drew {W : World} {R : Nat} (h : Rec W R) : Rec W.drew R := h
/-- A store of a whole number into block R. -/
def put3 (W : World) (R : Nat) (g : Bool) (a : Option Addr) (n c : Nat) (e : Int) : World := ((W.setCell ⟨R, 0, none⟩ (.bool g)).setCell ⟨R, 1, none⟩ (.slice a n c)).setCell ⟨R, 2, none⟩ (.int .i64 e)
theorem Rec.put {W : World} {R : Nat} (h : Rec W R) (g : Bool) (a : Option Addr) (n c : Nat) (e : Int) : Rec (put3 W R g a n c e) R := by
  obtain ⟨g0, a0, n0, c0, e0, T, h⟩ := h
  exact ⟨g, a, n, c, e, T, by simp [put3, World.setCell, Array.getElem?_modify, h]⟩
theorem put3_other {W : World} {R K : Nat} (hK : K ≠ R) (g : Bool) (a : Option Addr) (n c : Nat) (e : Int) : (put3 W R g a n c e).heap[K]? = W.heap[K]? := by
  unfold put3
  rw [Below.heap_setCell _ _ _ _ hK, Below.heap_setCell _ _ _ _ hK, Below.heap_setCell _ _ _ _ hK]
theorem Rec.other {W : World} {R K : Nat} (h : Rec W K) (hK : K ≠ R) (g : Bool) (a : Option Addr) (n c : Nat) (e : Int) : Rec (put3 W R g a n c e) K := by
  obtain ⟨g0, a0, n0, c0, e0, T, h⟩ := h
  exact ⟨g0, a0, n0, c0, e0, T, by rw [put3_other hK]; exact h⟩
theorem U8.put {W : World} {b : Option Addr} {ds : List Nat} {R : Nat} (h : U8 W b ds) (r : Rec W R) (g : Bool) (a : Option Addr) (n c : Nat) (e : Int) : U8 (put3 W R g a n c e) b ds := by
  refine ⟨fun j x hx => ?_, h.lt⟩
  obtain ⟨bk, off, rfl, hc⟩ := h.row j x hx
  refine ⟨bk, off, rfl, ?_⟩
  have hne : bk ≠ R := by
    rintro rfl
    obtain ⟨g0, a0, n0, c0, e0, T, hr⟩ := r
    rw [blk_cell hr] at hc
    obtain ⟨y, _, rfl⟩ : ∃ y, y ∈ ds ∧ x = .int .u8 ((y : Nat) : Int) := by
      have := List.mem_of_getElem? hx
      obtain ⟨y, hy, rfl⟩ := List.mem_map.1 (show x ∈ ds.map _ from this)
      exact ⟨y, hy, rfl⟩
    generalize off + j = k at hc
    match k, hc with
    | 0, hc => simp at hc
    | 1, hc => simp at hc
    | 2, hc => simp at hc
    | k + 3, hc => simp at hc
  rw [← hc]
  exact World.cell?_of_block (put3_other hne _ _ _ _ _)
theorem RdD.put {W : World} {d : D} {b : Option Addr} {cap : Nat} {R : Nat} (h : RdD W d b cap) (r : Rec W R) (g : Bool) (a : Option Addr) (n c : Nat) (e : Int) : RdD (put3 W R g a n c e) d b cap := ⟨h.1.put r g a n c e, h.2⟩
theorem below_put {B : Nat} {w W : World} (h : Below B w W) {R : Nat} (hR : B ≤ R) (g : Bool) (a : Option Addr) (n c : Nat) (e : Int) : Below B w (put3 W R g a n c e) :=
  ((h.setCell (p := ⟨R, 0, none⟩) hR _).setCell (p := ⟨R, 1, none⟩) hR _).setCell (p := ⟨R, 2, none⟩) hR _
theorem owns_put {W : World} {base : Nat} {e : TypeId} {size : Nat} {v : Value} {k : Nat} {xs : List Value} (h : W.ownsRow base e size v k xs) {R : Nat} (hR : R < base) (g : Bool) (a : Option Addr) (n c : Nat) (x : Int) : (put3 W R g a n c x).ownsRow base e size v k xs := owns_set3 h hR _ _ _

theorem keepJ {B R : Nat} {w W w1 : World} {N : Nat} {x y z : Value} (h : W.cell? ⟨N, 0, none⟩ = some x ∧ W.cell? ⟨N, 1, none⟩ = some y ∧ W.cell? ⟨N, 2, none⟩ = some z ∧ Rec W R ∧ Below B w W) (hB : B ≤ w.heap.size) (hb : Below W.heap.size W w1) :
    w1.cell? ⟨N, 0, none⟩ = some x ∧ w1.cell? ⟨N, 1, none⟩ = some y ∧ w1.cell? ⟨N, 2, none⟩ = some z ∧ Rec w1 R ∧ Below B w w1 := by
  obtain ⟨h0, h1, h2, h3, h4⟩ := h
  have B' := (bcell hb).1
  exact ⟨(B' _ _ (cell_lt h0)).trans h0, (B' _ _ (cell_lt h1)).trans h1, (B' _ _ (cell_lt h2)).trans h2, h3.below hb, h4.trans (hb.mono (Nat.le_trans hB h4.size))⟩

theorem keepP {B R M : Nat} {w W : World} {N : Nat} {x y z : Value} (h : W.cell? ⟨N, 0, none⟩ = some x ∧ W.cell? ⟨N, 1, none⟩ = some y ∧ W.cell? ⟨N, 2, none⟩ = some z ∧ Rec W R ∧ Below B w W) (g : Bool) (a : Option Addr) (n c : Nat) (e : Int) (hN : N ≠ M) (hR : R ≠ M) (hB : B ≤ M) (w1 : World) (hw : w1 = put3 W M g a n c e) :
    w1.cell? ⟨N, 0, none⟩ = some x ∧ w1.cell? ⟨N, 1, none⟩ = some y ∧ w1.cell? ⟨N, 2, none⟩ = some z ∧ Rec w1 R ∧ Below B w w1 := by
  subst hw
  obtain ⟨h0, h1, h2, h3, h4⟩ := h
  have hc : ∀ j, (put3 W M g a n c e).cell? ⟨N, j, none⟩ = W.cell? ⟨N, j, none⟩ := fun j => World.cell?_of_block (put3_other hN _ _ _ _ _)
  exact ⟨(hc 0).trans h0, (hc 1).trans h1, (hc 2).trans h2, h3.other hR _ _ _ _ _, below_put h4 hB _ _ _ _ _⟩
/-- Block N holds this number of the document's answer. -/
def HasR (W : World) (N : Nat) (d : D) (b : Option Addr) (c : Nat) : Prop := ∃ T, W.heap[N]? = some (.cells #[.bool d.neg, .slice b (Num.digs 10 d.m).length c, .int .i64 d.e] T)
theorem HasR.below {W W' : World} {N c : Nat} {d : D} {b : Option Addr} (h : HasR W N d b c) (hb : Below W.heap.size W W') : HasR W' N d b c := by obtain ⟨T, h⟩ := h; exact ⟨T, blk_below h hb⟩
theorem HasR.lt {W : World} {N c : Nat} {d : D} {b : Option Addr} (h : HasR W N d b c) : N < W.heap.size := by obtain ⟨T, h⟩ := h; exact blk_lt h
theorem HasR.get {W : World} {N c : Nat} {d : D} {b : Option Addr} (h : HasR W N d b c) : (W.cell? ⟨N, 0, none⟩ = some (.bool d.neg) ∧ W.cell? ⟨N, 1, none⟩ = some (.slice b (Num.digs 10 d.m).length c) ∧ W.cell? ⟨N, 2, none⟩ = some (.int .i64 d.e)) ∧ (W.frozen? ⟨N, 0, none⟩ = false ∧ W.frozen? ⟨N, 1, none⟩ = false ∧ W.frozen? ⟨N, 2, none⟩ = false) := by obtain ⟨T, h⟩ := h; exact blk_three h
theorem HasR.of_put {W : World} {R : Nat} (h : Rec W R) (d : D) (b : Option Addr) (c : Nat) : HasR (put3 W R d.neg b (Num.digs 10 d.m).length c d.e) R d b c := by
  obtain ⟨g0, a0, n0, c0, e0, T, h⟩ := h
  exact ⟨T, by simp [put3, World.setCell, Array.getElem?_modify, h]⟩
theorem HasR.new (W : World) (d : D) (b : Option Addr) (c : Nat) (T : TypeId) : HasR (W.alloc (.cells #[.bool d.neg, .slice b (Num.digs 10 d.m).length c, .int .i64 d.e] T)) W.heap.size d b c := ⟨T, blk_new W _⟩

theorem keepA {B R : Nat} {w W : World} {o o' : Obj} {N : Nat} {x y z : Value} (h : (W.alloc o).cell? ⟨N, 0, none⟩ = some x ∧ (W.alloc o).cell? ⟨N, 1, none⟩ = some y ∧ (W.alloc o).cell? ⟨N, 2, none⟩ = some z ∧ Rec (W.alloc o) R ∧ Below B w (W.alloc o)) (hN : N < W.heap.size) (hR : R < W.heap.size) (hB : B ≤ W.heap.size) (hs : w.heap.size ≤ W.heap.size) :
    (W.alloc o').cell? ⟨N, 0, none⟩ = some x ∧ (W.alloc o').cell? ⟨N, 1, none⟩ = some y ∧ (W.alloc o').cell? ⟨N, 2, none⟩ = some z ∧ Rec (W.alloc o') R ∧ Below B w (W.alloc o') := by
  have hb : ∀ k, k < W.heap.size → (W.alloc o').heap[k]? = (W.alloc o).heap[k]? := fun k hk => by rw [Below.heap_alloc _ _ _ hk, Below.heap_alloc _ _ _ hk]
  have hc : ∀ j, (W.alloc o').cell? ⟨N, j, none⟩ = (W.alloc o).cell? ⟨N, j, none⟩ := fun j => World.cell?_of_block (hb N hN)
  obtain ⟨h0, h1, h2, ⟨g, a, n, c, e, T, h3⟩, h4⟩ := h
  exact ⟨(hc 0).trans h0, (hc 1).trans h1, (hc 2).trans h2, ⟨g, a, n, c, e, T, (hb R hR).trans h3⟩, ⟨h4.os, h4.tape, h4.output, by simp; omega, fun k hk => (hb k (by omega)).trans (h4.block k hk)⟩⟩

set_option maxRecDepth 100000 in
set_option maxHeartbeats 3200000 in
theorem ref2_Take (g : Bool) (a : Option Addr) (cap : Nat) (e : Int) (xs : List Nat) (w : World) (h : U32 w a xs) :
    Calls Tryz.prog 99 #[.agg #[.bool g, .slice a xs.length cap, .int .i64 e]] w (OutRDE w (takenD g xs.length (Num.worth xs) e) (takenE g xs.length (Num.worth xs) e)) := by
  obtain ⟨rd, hrd⟩ : ∃ r, r = takenD g xs.length (Num.worth xs) e := ⟨_, rfl⟩
  obtain ⟨re, hre⟩ : ∃ r, r = takenE g xs.length (Num.worth xs) e := ⟨_, rfl⟩
  rw [← hrd, ← hre]
  unfold takenD at hrd
  unfold takenE at hre
  by_cases hn : nearB xs.length e = true
  · rw [if_pos hn] at hrd hre
    obtain ⟨h1, h2, h3⟩ := nearB_iff.1 hn
    obtain ⟨hb1, hb2⟩ := digs_bound h.lt h1
    have CF := fun W (hb : Below w.heap.size w W) => ref1_From a cap xs W (h.below hb) h1
    have CM := fun W b c (hu : U8 W b (Num.digs 10 (Num.worth xs))) (hc : (Num.digs 10 (Num.worth xs)).length ≤ c) (hc2 : c ≤ 9223372036854775807) => ref2_Make g b c (Num.worth xs) e W hu hc hc2 (by omega) (by omega)
    have pe := plain_e g (Num.worth xs) e (by omega) ⟨h2, h3⟩
    have pm := plain_m_le g (Num.worth xs) e
    have pd : (Num.digs 10 (plainD g (Num.worth xs) e).m).length ≤ 1809 := Nat.le_trans (Num.digs_length_mono (by decide) pm) hb1
    obtain ⟨d, hd⟩ : ∃ d, d = plainD g (Num.worth xs) e := ⟨_, rfl⟩
    rw [← hd] at CM pe pd hrd hre
    obtain ⟨m, hm⟩ : ∃ m, m = Num.worth xs := ⟨_, rfl⟩
    rw [← hm] at CF CM
    have CI := fun W b c => ref2_Fits d b c W (by omega) (by omega)
    obtain ⟨n, hnn⟩ : ∃ n, n = xs.length := ⟨_, rfl⟩
    rw [← hnn] at CF h1 ⊢
    replace CF := hid CF
    replace CM := hid CM
    have i1 : ¬ (200 : Int) < (n : Int) := by omega
    have i2 : ¬ e < -30000 := by omega
    have i3 : ¬ 30000 < e := by omega
    clear h hn hb1 hb2 pm hd hm hnn pe pd h1 h2 h3
    obtain ⟨fb, hfb⟩ : ∃ fb, fb = fitsB d := ⟨_, rfl⟩
    rw [← hfb] at CI hrd hre
    unfold refV at CI
    replace CI := hid CI
    replace hrd := hid hrd
    replace hre := hid hre
    clear hfb
    go_enter Tryz.func99, Tryz.ntmps99
    go_upto_region 3 with fail
    obtain ⟨wi, hwi⟩ : ∃ W, W = (w.alloc (.cells #[.bool g, .slice a n cap, .int .i64 e] 25)).alloc (.cells #[.bool false, .slice none 0 0, .int .i64 0] 88) := ⟨_, rfl⟩
    rw [← hwi]
    have hbi : Below w.heap.size w wi := by rw [hwi]; exact ((Below.refl _ _).alloc (Nat.le_refl _) _).alloc (by simp) _
    have hsz : wi.heap.size = w.heap.size + 1 + 1 := by rw [hwi]; simp
    have hk := blk_three (show wi.heap[w.heap.size]? = _ by rw [hwi]; exact blk_alloc (blk_new w _) _)
    have R3 : Rec wi (w.heap.size + 1) := ⟨_, _, _, _, _, _, by rw [hwi]; exact blk_new2 w _ _⟩
    obtain ⟨⟨k0, k1, k2⟩, _⟩ := hk
    have hszi : w.heap.size + 1 < wi.heap.size := by omega
    replace R3 := hid R3
    have HBI := hid hbi
    clear hwi hbi hsz
    go_cut [1, 2, 4] from 5 (fun v1 v2 v4 w' => ∃ N b c, v1 = .pointer (some ⟨w.heap.size, 0, none⟩) ∧ v2 = .pointer (some ⟨w.heap.size + 1, 0, none⟩) ∧ v4 = .pointer (some ⟨N, 0, none⟩) ∧ HasR w' N d b c ∧ w.heap.size + 1 < N ∧ RdD w' d b c ∧ Rec w' (w.heap.size + 1) ∧ Below w.heap.size w w')
    case first =>
      go_region_held3 (fun w' => w'.cell? ⟨w.heap.size, 0, none⟩ = some (.bool g) ∧ w'.cell? ⟨w.heap.size, 1, none⟩ = some (.slice a n cap) ∧ w'.cell? ⟨w.heap.size, 2, none⟩ = some (.int .i64 e) ∧ Rec w' (w.heap.size + 1) ∧ Below w.heap.size w w') (first | (exact ⟨k0, k1, k2, R3.out, HBI.out.drew⟩) | (exact keepJ (by assumption) (Nat.le_refl _) (by assumption)) | (exact keepA (by assumption) (by omega) hsz2 (by omega) (by omega)) | (exact keepP (M := wi.heap.size) (by assumption) _ _ _ _ _ (by omega) (by omega) (by omega) _ rfl) | (exact keepP (M := w1.heap.size) (by assumption) _ _ _ _ _ (by omega) (by omega) (by omega) _ rfl) | (exact keepJ (by assumption) (Nat.le_refl _) ((Below.refl _ _).alloc (Nat.le_refl _) _))) ((first | (go_at_call 165; (with_reducible refine (CF.out _ ?_).mono ?_); (simp only [*]); rintro e1 w1 ⟨am, cm, rfl, hb1, hu1, hc1, hc2, _⟩; have hs1 : wi.heap.size ≤ w1.heap.size := (by first | exact hb1.size | (have hh := hb1.size; simp at hh; omega)); (try have hqa : Rec w1 wi.heap.size := (by first | exact Rec.below (Rec.drew ⟨_, _, _, _, _, _, blk_new wi _⟩) hb1 | exact Rec.below ⟨_, _, _, _, _, _, blk_new wi.drew _⟩ hb1))) | (go_at_call 66; (with_reducible refine (CM.out _ _ _ (by first | assumption | exact hu1.below ((Below.refl _ _).alloc (Nat.le_refl _) _)) (by assumption) (by assumption)).mono ?_); rintro e2 w2 ⟨ap, cp, rfl, hb2, hr2⟩; have hs2 : w1.heap.size ≤ w2.heap.size := (by first | exact hb2.size | (have hh := hb2.size; simp at hh; omega)); have hsz2 : w.heap.size + 1 < w2.heap.size := (by omega); (try have hqb : Rec w2 w1.heap.size := Rec.below ⟨_, _, _, _, _, _, blk_new _ _⟩ hb2); (try have hqb : Rec w2 wi.heap.size := hqa.below hb2); (try obtain ⟨_, _, _, u0, u1, u2⟩ := hqb.cells.get); (try have v0 := hqb.cells.frozen 0); (try have v1 := hqb.cells.frozen 1); (try have v2 := hqb.cells.frozen 2); unfold refV)))
      all_goals
        rename_i hHeld
        obtain ⟨_, _, _, hR, hH⟩ := hHeld
        go_wp2_with fail
        go_meet
        case rel =>
          refine ⟨_, ap, cp, rfl, rfl, rfl, ?_, ?_, ?_, hR, hH⟩
          · first | exact HasR.of_put hqb d ap cp | exact HasR.new _ _ _ _ _
          · omega
          · first | exact hr2.put hqb _ _ _ _ _ | exact hr2.below ((Below.refl _ _).alloc (Nat.le_refl _) _)
    case rest =>
      obtain ⟨N, b, c, rfl, rfl, rfl, hN, hl, hr, hrec, hb⟩ := hcut
      obtain ⟨⟨q0, q1, q2⟩, _⟩ := hN.get
      have zN := hN.lt
      have HRD := hid hr
      have HREC := hid hrec
      have HB := hid hb
      have HN := hid hN
      clear k0 k1 k2 hszi R3 HBI CF CM hr hrec hb hN
      go_wp2_with fail
      refine (CI.out _ _ _).mono ?_
      rintro e1 w1 ⟨rfl, hb1⟩
      replace HRD := hid (HRD.out.below hb1)
      replace HREC := hid (HREC.out.below hb1)
      replace HB := hid (below_trans HB.out hb1)
      replace HN := hid (HN.out.below hb1)
      clear hb1 q0 q1 q2 zN CI
      obtain ⟨⟨q0, q1, q2⟩, _⟩ := HN.out.get
      obtain ⟨_, _, _, p0, p1, p2⟩ := HREC.out.cells.get
      have f0 := HREC.out.cells.frozen 0
      have f1 := HREC.out.cells.frozen 1
      have f2 := HREC.out.cells.frozen 2
      cases fb with
      | true =>
        go_wp2
        refine bodyPost_ret (v := .tuple #[refV d b c, .int .i64 0]) (by simp [results, Tryz.results99, go_sem, p0, p1, p2, refV]) rfl ?_
        rw [hrd.out, hre.out]
        exact ⟨b, c, rfl, below_put HB.out (Nat.le_succ _) _ _ _ _ _, HRD.out.put HREC.out _ _ _ _ _⟩
      | false =>
        go_wp2
        refine bodyPost_ret (v := .tuple #[refV zeroD none 0, .int .i64 3]) (by simp [results, Tryz.results99, go_sem, p0, p1, p2, refV, zeroD]; rfl) rfl ?_
        rw [hrd.out, hre.out]
        exact ⟨none, 0, rfl, below_put HB.out (Nat.le_succ _) false none 0 0 0, rd_zero _⟩

  · rw [if_neg hn] at hrd hre
    have h3 : 200 < xs.length ∨ (¬ 200 < xs.length ∧ e < -30000) ∨ (¬ 200 < xs.length ∧ ¬ e < -30000 ∧ 30000 < e) := by
      have := mt nearB_iff.2 hn
      omega
    obtain ⟨n, hnn⟩ : ∃ n, n = xs.length := ⟨_, rfl⟩
    rw [← hnn] at h3 ⊢
    replace hrd := hid hrd
    replace hre := hid hre
    clear h hn hnn
    rcases h3 with h1 | ⟨h1, h2⟩ | ⟨h1, h2, h3⟩
    all_goals
      go_enter Tryz.func99, Tryz.ntmps99
      go_wp2
      refine bodyPost_ret (v := .tuple #[refV zeroD none 0, .int .i64 1]) (by simp [results, Tryz.results99, go_sem, refV, zeroD]; rfl) rfl ?_
      rw [hrd.out, hre.out]
      exact ⟨none, 0, rfl, ((Below.refl _ _).alloc (Nat.le_refl _) _).alloc (by simp) _, rd_zero _⟩

end Go.Proofs.YtmdgciolnpkccaaGreatDoor
