/- Layer 2, tenth part: Parse. -/
import Derived.Test.YtmdgciolnpkccaaGreatDoorDecI
namespace Go.Proofs.YtmdgciolnpkccaaGreatDoor
open Go.RowKit

/-- What Parse tells. -/
def parseR (l : List UInt8) : D × Nat :=
  match scanL l with
  | none => (zeroD, 2)
  | some (n, wh, be, ex) =>
    if 1000 < l.length then (zeroD, 3)
    else if fitsB (plainD n (num10 (wh ++ be) 0) (ex - be.length)) = true then (plainD n (num10 (wh ++ be) 0) (ex - be.length), 0)
    else (zeroD, 3)

theorem tail_bound {l : List UInt8} {x : Int} (h : tailL l = some x) : -999999 ≤ x ∧ x ≤ 999999 := by
  unfold tailL at h
  split at h
  · simp at h; omega
  · rename_i c r
    split at h
    · simp only at h
      have h2 := smallN_le _ (take_digs (Lib.trimPrefix r [45]))
      have h3 := smallN_le _ (take_digs (Lib.trimPrefix r [43]))
      by_cases hp : Lib.hasPrefix r [45] = true
      · simp only [hp, if_true] at h
        split at h
        · cases h
        · injection h with h; omega
      · simp only [hp, if_false, Bool.false_eq_true] at h
        split at h
        · cases h
        · injection h with h; omega
    · cases h
theorem scan_facts {l wh be : List UInt8} {n : Bool} {ex : Int} (h : scanL l = some (n, wh, be, ex)) :
    Digs wh ∧ Digs be ∧ wh ≠ [] ∧ wh.length + be.length ≤ l.length ∧ -999999 ≤ ex ∧ ex ≤ 999999 := by
  unfold scanL at h
  simp only at h
  have l0 := trimPrefix_le l [45]
  have l1 : ((Lib.trimPrefix l [45]).takeWhile isD).length + ((Lib.trimPrefix l [45]).dropWhile isD).length = (Lib.trimPrefix l [45]).length := by
    rw [← List.length_append, List.takeWhile_append_dropWhile]
  split at h
  · cases h
  · rename_i h1
    have hne : (Lib.trimPrefix l [45]).takeWhile isD ≠ [] := fun e => h1 (.inl e)
    split at h
    · split at h
      · cases h
      · cases ht : tailL ((Lib.trimPrefix ((Lib.trimPrefix l [45]).dropWhile isD) [46]).dropWhile isD) with
        | none => rw [ht] at h; cases h
        | some x =>
          rw [ht] at h
          simp only [Option.map_some, Option.some.injEq, Prod.mk.injEq] at h
          obtain ⟨_, rfl, rfl, rfl⟩ := h
          have l2 := trimPrefix_le ((Lib.trimPrefix l [45]).dropWhile isD) [46]
          have l3 := takeWhile_le (Lib.trimPrefix ((Lib.trimPrefix l [45]).dropWhile isD) [46]) isD
          exact ⟨take_digs _, take_digs _, hne, by omega, tail_bound ht⟩
    · cases ht : tailL ((Lib.trimPrefix l [45]).dropWhile isD) with
      | none => rw [ht] at h; cases h
      | some x =>
        rw [ht] at h
        simp only [Option.map_some, Option.some.injEq, Prod.mk.injEq] at h
        obtain ⟨_, rfl, rfl, rfl⟩ := h
        exact ⟨take_digs _, fun c hc => by simp at hc, hne, by simp; omega, tail_bound ht⟩

theorem pow_step (K J : Nat) (h : K ≤ 9 * J) : 10 ^ K ≤ Num.B9 ^ J := by
  show 10 ^ K ≤ (10 ^ 9) ^ J
  rw [← Nat.pow_mul]
  exact Nat.pow_le_pow_right (by decide) h
theorem limbs_pow {m K J : Nat} (h : (Num.digs 10 m).length ≤ K) (hK : K ≤ 9 * J) : (Num.limbs m).length ≤ J :=
  limbs_length_le.2 (Nat.lt_of_lt_of_le ((Num.digs_length_le (by decide)).1 h) (pow_step K J hK))
theorem num10_lt_pow (l : List UInt8) (h : Digs l) (K : Nat) (hK : l.length ≤ K) : num10 l 0 < 10 ^ K := Nat.lt_of_lt_of_le (num10_lt _ h) (Nat.pow_le_pow_right (by decide) hK)
theorem digs_num10 (l : List UInt8) (h : Digs l) (K : Nat) (hK : l.length ≤ K) : (Num.digs 10 (num10 l 0)).length ≤ K := (Num.digs_length_le (by decide)).2 (num10_lt_pow l h K hK)

set_option maxRecDepth 100000 in
set_option maxHeartbeats 1600000 in
theorem dec_Parse (l : List UInt8) (hl : l.length ≤ 9223372036854775807) (w : World) (htab : Pow w) :
    Calls Tryz.prog 19 #[.string ⟨l.toArray⟩] w (OutDE w (parseR l).1 (parseR l).2) := by
  have CS := fun W => dec_scan l hl W
  have hsz : (⟨l.toArray⟩ : ByteArray).size = l.length := rfl
  unfold parseR
  cases hs : scanL l with
  | none =>
    simp only
    rw [hs] at CS
    obtain ⟨s, hss⟩ : ∃ s : ByteArray, s = ⟨l.toArray⟩ := ⟨_, rfl⟩
    rw [← hss] at CS ⊢
    have CS := hid CS
    clear hs hss htab hsz
    go_enter Tryz.func19, Tryz.ntmps19
    go_wp2_with fail
    refine (CS.out _).mono ?_
    rintro e1 w1 ⟨rfl, hb1⟩
    have HB1 := hid (below_alloc hb1)
    have hk := blk_three (blk_below (blk_new w _) hb1)
    obtain ⟨⟨k0, k1, k2⟩, f0, f1, f2⟩ := hk
    clear hb1 CS
    go_wp2
    refine bodyPost_ret (v := .tuple #[decV zeroD none 0, .int .i64 2]) (by simp [results, Tryz.results19, go_sem, k0, k1, k2, decV, zeroD]; rfl) rfl ?_
    refine ⟨none, 0, rfl, ?_, World.ownsRow_nil _ _ _ _⟩
    exact ((HB1.out.setCell (Nat.le_refl _) _).setCell (Nat.le_refl _) _).setCell (Nat.le_refl _) _
  | some q =>
    obtain ⟨n, wh, be, ex⟩ := q
    simp only
    rw [hs] at CS
    obtain ⟨dw, db, hne, hlen, hx1, hx2⟩ := scan_facts hs
    by_cases hbig : 1000 < l.length
    · rw [if_pos hbig]
      obtain ⟨s, hss⟩ : ∃ s : ByteArray, s = ⟨l.toArray⟩ := ⟨_, rfl⟩
      rw [← hss] at CS hsz ⊢
      have CS := hid CS
      have hbig : (1000 : Int) < (s.size : Int) := by omega
      clear hs hss htab hsz dw db hne hlen
      go_enter Tryz.func19, Tryz.ntmps19
      go_wp2_with fail
      refine (CS.out _).mono ?_
      rintro e1 w1 ⟨rfl, hb1⟩
      have HB1 := hid (below_alloc hb1)
      have hk := blk_three (blk_below (blk_new w _) hb1)
      obtain ⟨⟨k0, k1, k2⟩, f0, f1, f2⟩ := hk
      clear hb1 CS
      go_wp2
      refine bodyPost_ret (v := .tuple #[decV zeroD none 0, .int .i64 3]) (by simp [results, Tryz.results19, go_sem, k0, k1, k2, decV, zeroD]; rfl) rfl ?_
      refine ⟨none, 0, rfl, ?_, World.ownsRow_nil _ _ _ _⟩
      exact ((HB1.out.setCell (Nat.le_refl _) _).setCell (Nat.le_refl _) _).setCell (Nat.le_refl _) _
    · rw [if_neg hbig]
      have hdig : Digs (wh ++ be) := fun c hc => (List.mem_append.1 hc).elim (dw c) (db c)
      have hln : (wh ++ be).length ≤ 1000 := by rw [List.length_append]; omega
      obtain ⟨m, hm⟩ : ∃ m, m = num10 (wh ++ be) 0 := ⟨_, rfl⟩
      obtain ⟨Wh, hWh⟩ : ∃ Wh : ByteArray, Wh = ⟨wh.toArray⟩ := ⟨_, rfl⟩
      obtain ⟨Be, hBe⟩ : ∃ Be : ByteArray, Be = ⟨be.toArray⟩ := ⟨_, rfl⟩
      have hBl : Be.size = be.length := by rw [hBe]; rfl
      have hap : (Wh ++ Be).data.toList = wh ++ be := by rw [append_data, hWh, hBe]
      have hap2 : (Wh ++ Be).size = (wh ++ be).length := by rw [← hap]; rfl
      have hp1 : 1 ≤ (wh ++ be).length := by
        rw [List.length_append]
        have : 1 ≤ wh.length := by cases wh with | nil => exact absurd rfl hne | cons _ _ => simp
        omega
      have CP := fun W => limb_Parse (Wh ++ Be) W (by rw [hap]; exact hdig) (by omega) (by omega)
      rw [hap, ← hm] at CP
      have hmd : (Num.digs 10 m).length ≤ 1000 := by rw [hm]; exact digs_num10 _ hdig 1000 hln
      have hml : (Num.limbs m).length ≤ 1000 := limbs_pow hmd (by decide)
      have CS : ∀ W, Calls Tryz.prog 59 #[.string ⟨l.toArray⟩] W (OutSc W n Wh Be ex true) := fun W => by rw [hWh, hBe]; exact CS W
      rw [← hm]
      have CD := fun W a cap (h : U32 W a (Num.limbs m)) (hp : Pow W) => dec_plain n a cap (ex - be.length) (Num.limbs m) W h (by omega) (by rw [Num.worth_limbs]; omega) (by omega) hp
      simp only [Num.worth_limbs] at CD
      have pm := plain_m_le n m (ex - be.length)
      have pe : -3000000 ≤ (plainD n m (ex - be.length)).e ∧ (plainD n m (ex - be.length)).e ≤ 3000000 := by
        unfold plainD
        split
        · exact ⟨by simp, by simp⟩
        · have := tz_le m
          simp only; omega
      have plm : (Num.limbs (plainD n m (ex - be.length)).m).length ≤ 1000 := Nat.le_trans (Num.digs_length_mono Num.two_le_B9 pm) hml
      obtain ⟨d, hd⟩ : ∃ d, d = plainD n m (ex - be.length) := ⟨_, rfl⟩
      rw [← hBl] at CD hd
      have hxb : IntKind.i64.wrap (ex - (Be.size : Int)) = ex - (Be.size : Int) := by rw [IntKind.wrap_i64]; omega
      rw [← hBl, ← hd] at pe plm ⊢
      rw [← hd] at CD
      have CF := fun W a1 c1 (hi : InD W d a1 c1) (hp : Pow W) => dec_fits d a1 c1 W hi (by omega) pe hp
      obtain ⟨s, hss⟩ : ∃ s : ByteArray, s = ⟨l.toArray⟩ := ⟨_, rfl⟩
      rw [← hss] at CS hsz ⊢
      have CS := hid CS
      have CP := hid CP
      have CD := hid CD
      have hbig : ((s.size : Nat) : Int) ≤ 1000 := by omega
      have hBs : Be.size ≤ 1000 := by rw [List.length_append] at hln; omega
      have hWs : Wh.size ≤ 1000 := by have : Wh.size = wh.length := by rw [hWh]; rfl
                                      rw [List.length_append] at hln; omega
      have HTAB := hid htab
      obtain ⟨L, hL⟩ : ∃ L, L = Num.limbs m := ⟨_, rfl⟩
      rw [← hL] at CP CD
      have HU := hid (fun (W : World) (a : Option Addr) (cap : Nat) (base : Nat) (h : W.ownsRow base 70 1 (.slice a L.length cap) L.length (u32s L)) => u32_limbs (by rw [hL] at h; exact h))
      rw [← hL] at HU
      clear hs hsz hss htab dw db hne hlen hdig hln hm hWh hBe hBl hap hap2 hp1 hmd hml hL hd pm plm hl
      by_cases hf : fitsB d = true
      · rw [if_pos hf]
        rw [hf] at CF
        have CF := hid CF
        clear hf
        go_enter Tryz.func19, Tryz.ntmps19
        go_wp2_with fail
        refine (CS.out _).mono ?_
        rintro e1 w1 ⟨rfl, hb1⟩
        have HB1 := hid (below_alloc hb1)
        have HK1 := hid (blk_below (blk_new w _) hb1)
        have hz1 : w.heap.size + 1 ≤ w1.heap.size := by simpa using hb1.size
        clear hb1 CS
        go_wp2_with fail
        refine (CP.out _).mono ?_
        rintro e2 w2 ⟨a1, c1, rfl, hb2, ho2⟩
        have HB2 := hid (below_trans HB1.out hb2)
        have HK2 := hid (blk_below HK1.out hb2)
        have HU2 := hid (HU.out _ _ _ _ ho2)
        have hz2 : w.heap.size + 1 ≤ w2.heap.size := Nat.le_trans hz1 hb2.size
        clear hb2 ho2 HB1 HK1 hz1 CP
        go_wp2_with fail
        refine (CD.out w2 a1 c1 HU2.out (HTAB.out.next HB2.out)).mono ?_
        rintro e3 w3 ⟨a2, c2, he, ho⟩
        unfold decV at he
        subst he
        have HK3 := hid (blk_below HK2.out ho.1)
        have HO := hid (owns_mono ho.2 hz2)
        have HB3 := hid (below_trans HB2.out ho.1)
        have HI := hid ho.inD
        clear ho HB2 HK2 hz2 CD HU2
        go_wp2_with fail
        refine (CF.out _ a2 c2 (HI.out.below ((Below.refl _ _).alloc (Nat.le_refl _) _)) ((HTAB.out.next HB3.out).alloc _)).mono ?_
        rintro e4 w4 ⟨rfl, hb4⟩
        have hp := blk_three (blk_below (blk_new w3 _) hb4)
        have hk := blk_three (blk_below (blk_alloc HK3.out _) hb4)
        have HO4 := hid (owns_below HO.out (below_alloc hb4))
        have HB4 := hid (below_trans HB3.out (below_alloc hb4))
        obtain ⟨⟨p0, p1, p2⟩, _⟩ := hp
        obtain ⟨⟨k0, k1, k2⟩, f0, f1, f2⟩ := hk
        clear hb4 HI HK3 HO HB3 CF
        go_wp2
        refine bodyPost_ret (v := .tuple #[decV d a2 c2, .int .i64 0]) (by simp [results, Tryz.results19, go_sem, k0, k1, k2, decV]) rfl ?_
        refine ⟨a2, c2, rfl, ?_, ?_⟩
        · exact ((HB4.out.setCell (Nat.le_refl _) _).setCell (Nat.le_refl _) _).setCell (Nat.le_refl _) _
        · refine owns_mono (base := w.heap.size + 1) ?_ (by omega)
          exact ownsRow_setCell_below (ownsRow_setCell_below (ownsRow_setCell_below HO4.out (Nat.lt_succ_self _) _) (Nat.lt_succ_self _) _) (Nat.lt_succ_self _) _
      · rw [if_neg hf]
        have hf' : fitsB d = false := by simpa using hf
        rw [hf'] at CF
        have CF := hid CF
        clear hf hf'
        go_enter Tryz.func19, Tryz.ntmps19
        go_wp2_with fail
        refine (CS.out _).mono ?_
        rintro e1 w1 ⟨rfl, hb1⟩
        have HB1 := hid (below_alloc hb1)
        have HK1 := hid (blk_below (blk_new w _) hb1)
        have hz1 : w.heap.size + 1 ≤ w1.heap.size := by simpa using hb1.size
        clear hb1 CS
        go_wp2_with fail
        refine (CP.out _).mono ?_
        rintro e2 w2 ⟨a1, c1, rfl, hb2, ho2⟩
        have HB2 := hid (below_trans HB1.out hb2)
        have HK2 := hid (blk_below HK1.out hb2)
        have HU2 := hid (HU.out _ _ _ _ ho2)
        have hz2 : w.heap.size + 1 ≤ w2.heap.size := Nat.le_trans hz1 hb2.size
        clear hb2 ho2 HB1 HK1 hz1 CP
        go_wp2_with fail
        refine (CD.out w2 a1 c1 HU2.out (HTAB.out.next HB2.out)).mono ?_
        rintro e3 w3 ⟨a2, c2, he, ho⟩
        unfold decV at he
        subst he
        have HK3 := hid (blk_below HK2.out ho.1)
        have HB3 := hid (below_trans HB2.out ho.1)
        have HI := hid ho.inD
        clear ho HB2 HK2 hz2 CD HU2
        go_wp2_with fail
        refine (CF.out _ a2 c2 (HI.out.below ((Below.refl _ _).alloc (Nat.le_refl _) _)) ((HTAB.out.next HB3.out).alloc _)).mono ?_
        rintro e4 w4 ⟨rfl, hb4⟩
        have hk := blk_three (blk_below (blk_alloc HK3.out _) hb4)
        have HB4 := hid (below_trans HB3.out (below_alloc hb4))
        obtain ⟨⟨k0, k1, k2⟩, f0, f1, f2⟩ := hk
        clear hb4 HI HK3 HB3 CF
        go_wp2
        refine bodyPost_ret (v := .tuple #[decV zeroD none 0, .int .i64 3]) (by simp [results, Tryz.results19, go_sem, k0, k1, k2, decV, zeroD]; rfl) rfl ?_
        refine ⟨none, 0, rfl, ?_, World.ownsRow_nil _ _ _ _⟩
        exact ((HB4.out.setCell (Nat.le_refl _) _).setCell (Nat.le_refl _) _).setCell (Nat.le_refl _) _

end Go.Proofs.YtmdgciolnpkccaaGreatDoor
