/- Layer 2, third part: taken, Norm. -/
import Derived.Test.YtmdgciolnpkccaaGreatDoorDecB
namespace Go.Proofs.YtmdgciolnpkccaaGreatDoor
open Go.RowKit

def zeroD : D := ⟨false, 0, 0⟩
/-- What a call takes of a number, and an error's number. -/
def takenE (g : Bool) (n m : Nat) (e : Int) : Nat := if nearB n e = true then (if fitsB (plainD g m e) = true then 0 else 3) else 1
def takenD (g : Bool) (n m : Nat) (e : Int) : D := if nearB n e = true then (if fitsB (plainD g m e) = true then plainD g m e else zeroD) else zeroD

/-- A call that yields a number and an error's number. -/
def OutDE (w : World) (d : D) (err : Nat) (e : Ending) (w' : World) : Prop := ∃ a cap, e = .returned (.tuple #[decV d a cap, .int .i64 err]) ∧ OwnD w w' d a cap

theorem digs_bound {xs : List Nat} (h : ∀ x ∈ xs, x < 4294967296) (hl : xs.length ≤ 200) : (Num.digs 10 (Num.worth xs)).length ≤ 1809 ∧ (Num.limbs (Num.worth xs)).length ≤ 201 := by
  have h1 := worth_lt h (Nat.le_refl _)
  have h2 := digs_le_limbs (Num.worth xs)
  omega
theorem nearB_iff {n : Nat} {e : Int} : nearB n e = true ↔ n ≤ 200 ∧ -30000 ≤ e ∧ e ≤ 30000 := by simp [nearB, and_assoc]
theorem plain_e (g : Bool) (m : Nat) (e : Int) (hd : (Num.digs 10 m).length ≤ 30000) (he : -30000 ≤ e ∧ e ≤ 30000) : -30000 ≤ (plainD g m e).e ∧ (plainD g m e).e ≤ 60000 := by
  unfold plainD
  split
  · simp
  · have := tz_le m; dsimp only; omega
theorem plain_m_le (g : Bool) (m : Nat) (e : Int) : (plainD g m e).m ≤ m := by
  unfold plainD
  split
  · simp
  · exact Nat.div_le_self _ _

set_option maxRecDepth 100000 in
set_option maxHeartbeats 1000000 in
theorem dec_taken (g : Bool) (a : Option Addr) (cap : Nat) (e : Int) (xs : List Nat) (w : World) (h : U32 w a xs) (htab : Pow w) :
    Calls Tryz.prog 104 #[.agg #[.bool g, .slice a xs.length cap, .int .i64 e]] w (OutDE w (takenD g xs.length (Num.worth xs) e) (takenE g xs.length (Num.worth xs) e)) := by
  have CN := fun W => dec_near g a xs.length cap e W
  by_cases hn : nearB xs.length e = true
  · obtain ⟨h1, h2, h3⟩ := nearB_iff.1 hn
    obtain ⟨hb1, hb2⟩ := digs_bound h.lt h1
    have CP := fun W (hb : Below w.heap.size w W) => dec_plain g a cap e xs W (h.below hb) (by omega) (by omega) (by omega) (htab.next hb)
    have pe := plain_e g (Num.worth xs) e (by omega) ⟨h2, h3⟩
    have pm := plain_m_le g (Num.worth xs) e
    have hD : takenD g xs.length (Num.worth xs) e = if fitsB (plainD g (Num.worth xs) e) = true then plainD g (Num.worth xs) e else zeroD := by unfold takenD; rw [if_pos hn]
    have hE : takenE g xs.length (Num.worth xs) e = if fitsB (plainD g (Num.worth xs) e) = true then 0 else 3 := by unfold takenE; rw [if_pos hn]
    have hlm : (Num.limbs (plainD g (Num.worth xs) e).m).length ≤ 201 := Nat.le_trans (Num.digs_length_mono Num.two_le_B9 pm) hb2
    rw [hD, hE]
    rw [hn] at CN
    obtain ⟨d, hd⟩ : ∃ d, d = plainD g (Num.worth xs) e := ⟨_, rfl⟩
    rw [← hd] at CP pe hlm ⊢
    have CF := fun W a1 c1 (hi : InD W d a1 c1) (hp : Pow W) => dec_fits d a1 c1 W hi (by omega) (by omega) hp
    have CP := hid CP
    have CN := hid CN
    have HTAB := hid htab
    clear hD hE hn hd pm h htab h1 hb1 hb2 h2 h3
    by_cases hf : fitsB d = true
    · rw [if_pos hf, if_pos hf]
      rw [hf] at CF
      have CF := hid CF
      clear hf
      go_enter Tryz.func104, Tryz.ntmps104
      go_wp2_with fail
      refine (CN.out _).mono ?_
      rintro e1 w1 ⟨rfl, hb1⟩
      have HB1 := hid (below_alloc (below_alloc hb1))
      have hk := blk_three (blk_below (blk_alloc (blk_new w _) _) hb1)
      have HK := hid (blk_below (blk_new2 w _ _) hb1)
      have hz1 : w.heap.size + 2 ≤ w1.heap.size := by simpa using hb1.size
      obtain ⟨⟨k0, k1, k2⟩, _⟩ := hk
      clear hb1 CN
      go_wp2_with fail
      refine (CP.out w1 HB1.out).mono ?_
      rintro e2 w2 ⟨a1, c1, he, ho⟩
      unfold decV at he
      subst he
      have HK2 := hid (blk_below HK.out ho.1)
      have HO := hid (owns_mono ho.2 hz1)
      have HB2 := hid (below_trans HB1.out ho.1)
      have HI := hid ho.inD
      have hz2 : w.heap.size + 2 ≤ w2.heap.size := Nat.le_trans hz1 ho.1.size
      clear ho k0 k1 k2 HK CP HB1 hz1
      go_wp2_with fail
      refine (CF.out _ a1 c1 (HI.out.below ((Below.refl _ _).alloc (Nat.le_refl _) _)) ((HTAB.out.next HB2.out).alloc _)).mono ?_
      rintro e3 w3 ⟨rfl, hb3⟩
      have hp := blk_three (blk_below (blk_new w2 _) hb3)
      have hk := blk_three (blk_below (blk_alloc HK2.out _) hb3)
      have HO3 := hid (owns_below HO.out (below_alloc hb3))
      have HB3 := hid (below_trans HB2.out (below_alloc hb3))
      obtain ⟨⟨p0, p1, p2⟩, _⟩ := hp
      obtain ⟨⟨k0, k1, k2⟩, f0, f1, f2⟩ := hk
      clear hb3 HI HK2 HO HB2 CF
      go_wp2
      refine bodyPost_ret (v := .tuple #[decV d a1 c1, .int .i64 0]) (by simp [results, Tryz.results104, go_sem, k0, k1, k2, decV]) rfl ?_
      refine ⟨a1, c1, rfl, ?_, ?_⟩
      · exact ((HB3.out.setCell (Nat.le_succ _) _).setCell (Nat.le_succ _) _).setCell (Nat.le_succ _) _
      · refine owns_mono (base := w.heap.size + 2) ?_ (by omega)
        exact ownsRow_setCell_below (ownsRow_setCell_below (ownsRow_setCell_below HO3.out (Nat.lt_succ_self _) _) (Nat.lt_succ_self _) _) (Nat.lt_succ_self _) _
    · rw [if_neg hf, if_neg hf]
      have hf' : fitsB d = false := by simpa using hf
      rw [hf'] at CF
      have CF := hid CF
      clear hf hf'
      go_enter Tryz.func104, Tryz.ntmps104
      go_wp2_with fail
      refine (CN.out _).mono ?_
      rintro e1 w1 ⟨rfl, hb1⟩
      have HB1 := hid (below_alloc (below_alloc hb1))
      have hk := blk_three (blk_below (blk_alloc (blk_new w _) _) hb1)
      have HK := hid (blk_below (blk_new2 w _ _) hb1)
      have hz1 : w.heap.size + 2 ≤ w1.heap.size := by simpa using hb1.size
      obtain ⟨⟨k0, k1, k2⟩, _⟩ := hk
      clear hb1 CN
      go_wp2_with fail
      refine (CP.out w1 HB1.out).mono ?_
      rintro e2 w2 ⟨a1, c1, he, ho⟩
      unfold decV at he
      subst he
      have HK2 := hid (blk_below HK.out ho.1)
      have HO := hid (owns_mono ho.2 hz1)
      have HB2 := hid (below_trans HB1.out ho.1)
      have HI := hid ho.inD
      have hz2 : w.heap.size + 2 ≤ w2.heap.size := Nat.le_trans hz1 ho.1.size
      clear ho k0 k1 k2 HK CP HB1 hz1
      go_wp2_with fail
      refine (CF.out _ a1 c1 (HI.out.below ((Below.refl _ _).alloc (Nat.le_refl _) _)) ((HTAB.out.next HB2.out).alloc _)).mono ?_
      rintro e3 w3 ⟨rfl, hb3⟩
      have hp := blk_three (blk_below (blk_new w2 _) hb3)
      have hk := blk_three (blk_below (blk_alloc HK2.out _) hb3)
      have HO3 := hid (owns_below HO.out (below_alloc hb3))
      have HB3 := hid (below_trans HB2.out (below_alloc hb3))
      obtain ⟨⟨p0, p1, p2⟩, _⟩ := hp
      obtain ⟨⟨k0, k1, k2⟩, f0, f1, f2⟩ := hk
      clear hb3 HI HK2 HO HB2 CF
      go_wp2
      refine bodyPost_ret (v := .tuple #[decV zeroD none 0, .int .i64 3]) (by simp [results, Tryz.results104, go_sem, k0, k1, k2, decV, zeroD]; rfl) rfl ?_
      refine ⟨none, 0, rfl, ?_, World.ownsRow_nil _ _ _ _⟩
      · exact ((HB3.out.setCell (Nat.le_succ _) _).setCell (Nat.le_succ _) _).setCell (Nat.le_succ _) _
  · have hn' : nearB xs.length e = false := by simpa using hn
    have hD : takenD g xs.length (Num.worth xs) e = zeroD := by unfold takenD; rw [if_neg hn]
    have hE : takenE g xs.length (Num.worth xs) e = 1 := by unfold takenE; rw [if_neg hn]
    rw [hD, hE]
    rw [hn'] at CN
    have CN := hid CN
    clear hn hn' hD hE h htab
    go_enter Tryz.func104, Tryz.ntmps104
    go_wp2_with fail
    refine (CN.out _).mono ?_
    rintro e1 w1 ⟨rfl, hb1⟩
    have HB1 := hid (below_alloc (below_alloc hb1))
    have hk := blk_three (blk_below (blk_new2 w _ _) hb1)
    obtain ⟨⟨k0, k1, k2⟩, f0, f1, f2⟩ := hk
    clear hb1 CN
    go_wp2
    refine bodyPost_ret (v := .tuple #[decV zeroD none 0, .int .i64 1]) (by simp [results, Tryz.results104, go_sem, k0, k1, k2, decV, zeroD]; rfl) rfl ?_
    refine ⟨none, 0, rfl, ?_, World.ownsRow_nil _ _ _ _⟩
    exact ((HB1.out.setCell (Nat.le_succ _) _).setCell (Nat.le_succ _) _).setCell (Nat.le_succ _) _

theorem OutDE.of_below {w w1 w' : World} {d : D} {err : Nat} {e : Ending} (h : OutDE w1 d err e w') (hb : Below w.heap.size w w1) : OutDE w d err e w' := by
  obtain ⟨a, cap, he, ho⟩ := h
  exact ⟨a, cap, he, below_trans hb ho.1, owns_mono ho.2 hb.size⟩

set_option maxRecDepth 100000 in
set_option maxHeartbeats 400000 in
theorem dec_Norm (g : Bool) (a : Option Addr) (cap : Nat) (e : Int) (xs : List Nat) (w : World) (h : U32 w a xs) (htab : Pow w) :
    Calls Tryz.prog 52 #[.agg #[.bool g, .slice a xs.length cap, .int .i64 e]] w (OutDE w (takenD g xs.length (Num.worth xs) e) (takenE g xs.length (Num.worth xs) e)) := by
  have C := fun W (hb : Below w.heap.size w W) => dec_taken g a cap e xs W (h.below hb) (htab.next hb)
  obtain ⟨d, hd⟩ : ∃ d, d = takenD g xs.length (Num.worth xs) e := ⟨_, rfl⟩
  obtain ⟨er, he⟩ : ∃ er, er = takenE g xs.length (Num.worth xs) e := ⟨_, rfl⟩
  rw [← hd, ← he] at C ⊢
  have C := hid C
  clear hd he h htab
  go_enter Tryz.func52, Tryz.ntmps52
  go_wp2_with fail
  refine (C.out _ (((Below.refl _ _).alloc (Nat.le_refl _) _).alloc (by simp) _)).mono ?_
  rintro e1 w1 ⟨a1, c1, he, ho⟩
  unfold decV at he
  subst he
  have HB := hid (below_alloc (below_alloc ho.1))
  have HO := hid (owns_mono ho.2 (show w.heap.size + 2 ≤ _ by simp))
  have hk := blk_three (blk_below (blk_new2 w _ _) ho.1)
  obtain ⟨⟨k0, k1, k2⟩, f0, f1, f2⟩ := hk
  clear ho C
  go_wp2
  refine bodyPost_ret (v := .tuple #[decV d a1 c1, .int .i64 er]) (by simp [results, Tryz.results52, go_sem, k0, k1, k2, decV]) rfl ?_
  refine ⟨a1, c1, rfl, ?_, ?_⟩
  · exact ((HB.out.setCell (Nat.le_succ _) _).setCell (Nat.le_succ _) _).setCell (Nat.le_succ _) _
  · refine owns_mono (base := w.heap.size + 2) ?_ (by omega)
    exact ownsRow_setCell_below (ownsRow_setCell_below (ownsRow_setCell_below HO.out (Nat.lt_succ_self _) _) (Nat.lt_succ_self _) _) (Nat.lt_succ_self _) _

end Go.Proofs.YtmdgciolnpkccaaGreatDoor
