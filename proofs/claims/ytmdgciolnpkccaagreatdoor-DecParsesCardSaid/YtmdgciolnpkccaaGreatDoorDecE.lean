/- Layer 2, fifth part: Text. -/
import Derived.Test.YtmdgciolnpkccaaGreatDoorDecD
namespace Go.Proofs.YtmdgciolnpkccaaGreatDoor
open Go.RowKit

theorem keep3 {w W' w1 : World} {N : Nat} {z x y : Value} (h : W'.cell? ⟨N, 0, none⟩ = some z ∧ W'.cell? ⟨N, 1, none⟩ = some x ∧ W'.cell? ⟨N, 2, none⟩ = some y ∧ Below w.heap.size w W') (hb : Below W'.heap.size W' w1) :
    w1.cell? ⟨N, 0, none⟩ = some z ∧ w1.cell? ⟨N, 1, none⟩ = some x ∧ w1.cell? ⟨N, 2, none⟩ = some y ∧ Below w.heap.size w w1 :=
  ⟨(hb.cell (cell_lt h.1)).trans h.1, (hb.cell (cell_lt h.2.1)).trans h.2.1, (hb.cell (cell_lt h.2.2.1)).trans h.2.2.1, below_trans h.2.2.2 hb⟩

/-- A number's text. -/
def textL (d : D) : List UInt8 := if d.m = 0 then [48] else (if d.neg = true then [45] else []) ++ figL (Lib.decDigits d.m) d.e (d.e + (Num.digs 10 d.m).length - 1)

/-- A call that yields a text and an error's number. -/
def OutSE (w : World) (l : List UInt8) (err : Nat) (e : Ending) (w' : World) : Prop := e = .returned (.tuple #[.string ⟨l.toArray⟩, .int .i64 err]) ∧ Below w.heap.size w w'

theorem taken_zero {g : Bool} {n m : Nat} {e : Int} (h : takenE g n m e = 0) : nearB n e = true ∧ takenD g n m e = plainD g m e ∧ fitsB (plainD g m e) = true := by
  unfold takenE at h
  split at h
  · rename_i h1
    split at h
    · rename_i h2
      exact ⟨h1, by unfold takenD; rw [if_pos h1, if_pos h2], h2⟩
    · cases h
  · cases h
theorem takenE_cases (g : Bool) (n m : Nat) (e : Int) : takenE g n m e = 0 ∨ (takenE g n m e ≠ 0 ∧ takenD g n m e = zeroD) := by
  unfold takenE takenD
  split
  · split
    · exact .inl rfl
    · exact .inr ⟨by decide, rfl⟩
  · exact .inr ⟨by decide, rfl⟩
theorem fits_iff {d : D} (h : fitsB d = true) (h0 : d.m ≠ 0) : (Num.digs 10 d.m).length ≤ 400 ∧ -10000 ≤ d.e + (Num.digs 10 d.m).length - 1 ∧ d.e + (Num.digs 10 d.m).length - 1 ≤ 10000 := by
  simpa [fitsB, h0, and_assoc] using h

theorem figL_len (m : List UInt8) (exp h : Int) (k : Nat) (hm : m.length ≤ k) (he : -20000 ≤ exp ∧ exp ≤ 20000) (hh : -1000000 ≤ h ∧ h ≤ 1000000) : (figL m exp h).length ≤ k + 30000 := by
  unfold figL
  have := itoa_len h hh
  split
  · simp; omega
  · split
    · simp; omega
    · split <;> simp <;> omega

set_option maxRecDepth 100000 in
set_option maxHeartbeats 2000000 in
theorem dec_Text (g : Bool) (a : Option Addr) (cap : Nat) (e : Int) (xs : List Nat) (w : World) (h : U32 w a xs) (htab : Pow w) :
    Calls Tryz.prog 58 #[.agg #[.bool g, .slice a xs.length cap, .int .i64 e]] w
      (OutSE w (if takenE g xs.length (Num.worth xs) e = 0 then textL (takenD g xs.length (Num.worth xs) e) else []) (takenE g xs.length (Num.worth xs) e)) := by
  have C := fun W (hb : Below w.heap.size w W) => dec_taken g a cap e xs W (h.below hb) (htab.next hb)
  rcases takenE_cases g xs.length (Num.worth xs) e with h0 | ⟨h0, hz⟩
  · obtain ⟨hn, hd, hf⟩ := taken_zero h0
    rw [if_pos h0, h0]
    rw [h0] at C
    obtain ⟨h1, h2, h3⟩ := nearB_iff.1 hn
    obtain ⟨hb1, hb2⟩ := digs_bound h.lt h1
    have pm := plain_m_le g (Num.worth xs) e
    have hlm : (Num.limbs (plainD g (Num.worth xs) e).m).length ≤ 201 := Nat.le_trans (Num.digs_length_mono Num.two_le_B9 pm) hb2
    have pe := plain_e g (Num.worth xs) e (by omega) ⟨h2, h3⟩
    rw [← hd] at hlm hf pe
    obtain ⟨d, hdd⟩ : ∃ d, d = takenD g xs.length (Num.worth xs) e := ⟨_, rfl⟩
    rw [← hdd] at C hlm hf pe ⊢
    have HTAB := hid htab
    have C := hid C
    clear h htab h0 hn hd h1 h2 h3 hb1 hb2 pm hdd
    by_cases hm : d.m = 0
    · have ht : textL d = [48] := by unfold textL; rw [if_pos hm]
      rw [ht]
      have hL : Num.limbs d.m = [] := by rw [hm]; rfl
      have HL := hid hL
      clear ht hm hL
      go_enter Tryz.func58, Tryz.ntmps58
      go_wp2_with fail
      refine (C.out _ ((Below.refl _ _).alloc (Nat.le_refl _) _)).mono ?_
      rintro e1 w1 ⟨a1, c1, he, ho⟩
      unfold decV at he
      rw [HL.out] at he
      subst he
      have HB := hid (below_alloc ho.1)
      clear ho C
      go_wp2
      go_ret2
      exact ⟨rfl, HB.out.alloc (HB.out.size) _⟩
    · have ff := fits_iff hf hm
      have hn1 : 1 ≤ (Num.digs 10 d.m).length := Num.length_pos (by decide) hm
      obtain ⟨F, hF⟩ : ∃ F, F = figL (Lib.decDigits d.m) d.e (d.e + (Num.digs 10 d.m).length - 1) := ⟨_, rfl⟩
      obtain ⟨Z, hZ⟩ : ∃ Z, Z = textL d := ⟨_, rfl⟩
      have ht : Z = (if d.neg = true then [45] else []) ++ F := by rw [hZ]; unfold textL; rw [if_neg hm, hF]
      rw [← hZ]
      have HZ := hid ht
      have CT := fun W a1 c1 (hi : InD W d a1 c1) (hp : Pow W) => limb_Text a1 c1 (Num.limbs d.m) W hi.u (by omega) hp
      have CH := fun W a1 c1 (hi : InD W d a1 c1) (hp : Pow W) => dec_head d.neg a1 c1 d.e (Num.limbs d.m) W hi.u (by omega) (by omega) (by rw [Num.worth_limbs]; omega) hp
      have CG := fun W (hp : Pow W) => dec_figures ⟨(Lib.decDigits d.m).toArray⟩ d.e (d.e + (Num.digs 10 d.m).length - 1) W (by
        have := Num.decDigits_len d.m hm
        simp [ByteArray.size]; omega) (by omega) (by omega) hp
      simp only [Num.worth_limbs] at CT CH
      have hdl := Num.decDigits_len d.m hm
      have hFl : F.length ≤ 400 + 30000 := by rw [hF]; exact figL_len _ _ _ 400 (by omega) (by omega) (by omega)
      obtain ⟨H, hH⟩ : ∃ H, H = d.e + (Num.digs 10 d.m).length - 1 := ⟨_, rfl⟩
      obtain ⟨T, hT⟩ : ∃ T : ByteArray, T = ⟨(Lib.decDigits d.m).toArray⟩ := ⟨_, rfl⟩
      have hTd : T.data.toList = Lib.decDigits d.m := by rw [hT]
      simp only [← hT, ← hH] at CT CH CG hF
      simp only [← hF] at CG
      have hL0 : (((Num.limbs d.m).length : Int) == 0) = false := by
        rw [beq_eq_false_iff_ne]; intro e
        exact hm ((Num.digs_eq_nil Num.two_le_B9).1 (List.length_eq_zero_iff.1 (Int.ofNat_eq_zero.1 e)))
      obtain ⟨L, hL⟩ : ∃ L, L = Num.limbs d.m := ⟨_, rfl⟩
      have HIN := hid (fun W a1 c1 (hi : InD W d a1 c1) => hi.below (w' := W))
      obtain ⟨gn, hgn⟩ : ∃ gn, gn = d.neg := ⟨_, rfl⟩
      rw [← hL] at CT CH hL0
      simp only [← hgn] at CH
      have HZ := hid (show Z = (if gn = true then [45] else []) ++ F by rw [hgn]; exact ht)
      have HG := hid hgn
      have CT := hid CT
      have CH := hid CH
      have CG := hid CG
      have HLL := hid hL
      clear ff hn1 hF ht hZ hdl hH hT hTd hL hm hf hgn
      cases gn
      all_goals
        go_enter Tryz.func58, Tryz.ntmps58
        go_wp2_with fail
        refine (C.out _ ((Below.refl _ _).alloc (Nat.le_refl _) _)).mono ?_
        rintro e1 w1 ⟨a1, c1, he, ho⟩
        have HI := hid ho.inD
        unfold decV at he
        rw [← HLL.out, ← HG.out] at he
        subst he
        have HB := hid (below_alloc ho.1)
        have hp1 := HTAB.out.next HB.out
        have HP := hid hp1
        clear ho hp1
        go_wp2_with fail
      · go_region_held3 (fun w' => w'.cell? ⟨w1.heap.size, 0, none⟩ = some (.bool false) ∧ w'.cell? ⟨w1.heap.size, 1, none⟩ = some (.slice a1 L.length c1) ∧ w'.cell? ⟨w1.heap.size, 2, none⟩ = some (.int .i64 d.e) ∧ Below w1.heap.size w1 w') (first | (exact ⟨by simp, by simp, by simp, ((Below.refl _ _).alloc (Nat.le_refl _) _).drew⟩) | (exact keep3 (by assumption) (by assumption))) ((first | (go_at_call 117; refine (CT.out _ a1 c1 (HI.out.below ?_) (HP.out.next ?_)).mono ?_; (simp only [*]); (simp only [*]); rintro e w' ⟨rfl, hb⟩) | (go_at_call 106; refine (CH.out _ a1 c1 (HI.out.below ?_) (HP.out.next ?_)).mono ?_; (simp only [*]); (simp only [*]); rintro e w' ⟨rfl, hb⟩) | (go_at_call 116; refine (CG.out _ (HP.out.next ?_)).mono ?_; (simp only [*]); rintro e w' ⟨rfl, hb⟩)))
        have hH : w'.cell? ⟨w1.heap.size, 0, none⟩ = some (.bool false) ∧ w'.cell? ⟨w1.heap.size, 1, none⟩ = some (.slice a1 L.length c1) ∧ w'.cell? ⟨w1.heap.size, 2, none⟩ = some (.int .i64 d.e) ∧ Below w1.heap.size w1 w' := by assumption
        have k0 := hH.1
        have HBB := hid (below_trans HB.out hH.2.2.2)
        have HZ' := hid (show Z = F by simpa using HZ.out)
        clear hH
        go_wp2
        go_ret2
        exact ⟨by rw [HZ'.out]; rfl, HBB.out⟩
      · go_region_held3 (fun w' => w'.cell? ⟨w1.heap.size, 0, none⟩ = some (.bool true) ∧ w'.cell? ⟨w1.heap.size, 1, none⟩ = some (.slice a1 L.length c1) ∧ w'.cell? ⟨w1.heap.size, 2, none⟩ = some (.int .i64 d.e) ∧ Below w1.heap.size w1 w') (first | (exact ⟨by simp, by simp, by simp, ((Below.refl _ _).alloc (Nat.le_refl _) _).drew⟩) | (exact keep3 (by assumption) (by assumption))) ((first | (go_at_call 117; refine (CT.out _ a1 c1 (HI.out.below ?_) (HP.out.next ?_)).mono ?_; (simp only [*]); (simp only [*]); rintro e w' ⟨rfl, hb⟩) | (go_at_call 106; refine (CH.out _ a1 c1 (HI.out.below ?_) (HP.out.next ?_)).mono ?_; (simp only [*]); (simp only [*]); rintro e w' ⟨rfl, hb⟩) | (go_at_call 116; refine (CG.out _ (HP.out.next ?_)).mono ?_; (simp only [*]); rintro e w' ⟨rfl, hb⟩)))
        have hH : w'.cell? ⟨w1.heap.size, 0, none⟩ = some (.bool true) ∧ w'.cell? ⟨w1.heap.size, 1, none⟩ = some (.slice a1 L.length c1) ∧ w'.cell? ⟨w1.heap.size, 2, none⟩ = some (.int .i64 d.e) ∧ Below w1.heap.size w1 w' := by assumption
        have k0 := hH.1
        have HBB := hid (below_trans HB.out hH.2.2.2)
        have HZ' := hid (show Z = 45 :: F by simpa using HZ.out)
        clear hH
        obtain ⟨S, hS⟩ : ∃ S : ByteArray, S = ⟨F.toArray⟩ := ⟨_, rfl⟩
        have hSl : S.size ≤ 400 + 30000 := by rw [hS]; simpa [ByteArray.size] using hFl
        have HS := hid (show S.data.toList = F by rw [hS])
        rw [← hS]
        clear hS
        go_wp2
        go_ret2
        refine ⟨?_, HBB.out⟩
        have e1 : (ByteArray.mk #[45] ++ S) = ⟨Z.toArray⟩ := bytes_ext (by rw [append_data, HS.out, HZ'.out]; rfl)
        rw [← e1]
        rfl
  · rw [if_neg h0]
    rw [hz] at C
    obtain ⟨er, her⟩ : ∃ er, er = takenE g xs.length (Num.worth xs) e := ⟨_, rfl⟩
    rw [← her] at C h0 ⊢
    have h0' : ((er : Int) != 0) = true := by simpa using h0
    have C := hid C
    clear h htab h0 hz her
    go_enter Tryz.func58, Tryz.ntmps58
    go_wp2_with fail
    refine (C.out _ ((Below.refl _ _).alloc (Nat.le_refl _) _)).mono ?_
    rintro e1 w1 ⟨a1, c1, he, ho⟩
    unfold decV at he
    subst he
    have HB := hid (below_alloc ho.1)
    clear ho C
    go_wp2
    go_ret2
    exact ⟨rfl, HB.out.alloc (HB.out.size) _⟩

end Go.Proofs.YtmdgciolnpkccaaGreatDoor
