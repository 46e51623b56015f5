/- format.coded: base64 read. -/
import Derived.Test.YtafeofgjmlhklaaGreatDoorFg
import Derived.Test.YtafeofgjmlhklaaGreatDoorFc
import Derived.Test.YtafeofgjmlhklaaGreatDoorFf
namespace Go.Proofs.YtafeofgjmlhklaaGreatDoor
open Go.RowKit

theorem idx64 (c : UInt8) : Lib.indexByte signL c = match signIx c with | none => -1 | some k => (k : Int) := by
  have h : ∀ n : Nat, n < 256 → Lib.indexByte signL (UInt8.ofNat n) = match signIx (UInt8.ofNat n) with | none => -1 | some k => (k : Int) := by decide +kernel
  have := h c.toNat (u8_lt c)
  rwa [UInt8.ofNat_toNat] at this
theorem signIx_lt (c : UInt8) : ∀ k, signIx c = some k → k < 64 := by
  have h : ∀ n : Nat, n < 256 → ∀ k, signIx (UInt8.ofNat n) = some k → k < 64 := by
    intro n _ k hk
    unfold signIx at hk
    have := List.findIdx?_eq_some_iff_getElem.1 hk
    obtain ⟨h1, _⟩ := this
    exact h1
  have := h c.toNat (u8_lt c)
  rwa [UInt8.ofNat_toNat] at this
/-- What format.coded answers. -/
def codedR (s : List UInt8) : List UInt8 × Bool := match debL 0 0 (Lib.trimRightB s 61) with
  | none => ([], false)
  | some out => (out, decide (s = b64 out) || decide (s = Lib.trimRightB (b64 out) 61))

theorem wraps_u32c (n : Int) (h₀ : 0 ≤ n) (h₁ : n < 2 ^ 32) : IntKind.u32.wrap n = n := by rw [IntKind.wrap_u32]; omega
theorem or6 (n x : Nat) (hn : n < 64) (hx : x < 64) : bits BinOp.or IntKind.u32 ((n : Int) * 64) (x : Int) = ((n * 64 + x : Nat) : Int) := by
  rw [bits_join .u32 32 (by decide) wraps_u32c 6 ((n : Int) * 64) (x : Int) (by omega) (by omega) (by omega) (by omega) (by omega) (by omega)]
  omega
theorem and_m (v i : Nat) (hi : i ≤ 32) (hv : v < 4294967296) : bits BinOp.and IntKind.u32 (v : Int) (2 ^ i - 1) = ((v % 2 ^ i : Nat) : Int) := by
  rw [bits_mask .u32 32 (by decide) wraps_u32c i hi (v : Int) (by omega) (by omega)]
  simp
theorem cells_snoc (done : List UInt8) (m : Nat) (hm : m < 256) (z : Int) (hz : z = (m : Nat)) : Lib.byteCells (done ++ [UInt8.ofNat m]) = Lib.byteCells done ++ [.int .u8 z] := by
  rw [Lib.byteCells_append]
  subst hz
  show _ ++ [Value.int .u8 ((UInt8.ofNat m).toNat : Int)] = _
  rw [UInt8.toNat_ofNat', Nat.mod_eq_of_lt hm]

set_option maxRecDepth 100000 in
set_option maxHeartbeats 6400000 in
theorem format_coded (s : List UInt8) (w : World) (hs : s.length ≤ 17592186044415) :
    Calls Tryz.prog 32 #[.string ⟨s.toArray⟩] w fun e w' => e = .returned (.tuple #[.string ⟨(codedR s).1.toArray⟩, .bool (codedR s).2]) ∧ Below w.heap.size w w' := by
  have CT : ∀ (l : List UInt8) W, l.length ≤ 9223372036854775807 → Calls Tryz.prog 61 #[.string ⟨l.toArray⟩, .string ⟨#[61]⟩] W fun e w' => e = .returned (.string ⟨(Lib.trimRightB l 61).toArray⟩) ∧ w' = W := fun l W h => Tryz.strings_TrimRight_one ⟨l.toArray⟩ 61 (by decide) W h
  have hlt : (Lib.trimRightB s 61).length ≤ s.length := by
    unfold Lib.trimRightB
    rw [List.length_reverse]
    refine Nat.le_trans (List.dropWhile_sublist _).length_le ?_
    rw [List.length_reverse]
    exact Nat.le_refl _
  have C1 := hid (CT s w (by omega))
  obtain ⟨t, ht⟩ : ∃ t, t = Lib.trimRightB s 61 := ⟨_, rfl⟩
  rw [← ht] at C1 hlt
  obtain ⟨sb, hsb⟩ : ∃ sb : ByteArray, sb = ⟨s.toArray⟩ := ⟨_, rfl⟩
  rw [← hsb] at C1 ⊢
  replace hsb := hid hsb
  replace ht := hid ht
  go_enter Tryz.func32, Tryz.ntmps32
  go_wp2_with fail
  refine C1.out.mono ?_
  rintro e w1 ⟨rfl, hw⟩
  rw [hw]
  clear hw w1
  go_wp2_with fail
  refine upon_bytesW Tryz.underlying9 Tryz.underlying66 Tryz.underlying5 ?_
  intro cap w1 hcb hb1 hlt1
  have HCB := hid hcb
  have HB1 := hid hb1
  clear hcb hb1
  go_wp2_with fail
  go_loopw [5, 6, 7, 17] (fun v5 v6 v7 v17 wr => ∃ (k n h : Nat) (done : List UInt8), v17 = .int .i64 (k : Nat) ∧ k ≤ t.length ∧ v6 = .int .u32 (n : Nat) ∧ v7 = .int .i64 (h : Nat) ∧ (h = 0 ∨ h = 2 ∨ h = 4 ∨ h = 6) ∧ n < 2 ^ h ∧ done.length ≤ k ∧
    debL 0 0 t = (debL n h (t.drop k)).map (done ++ ·) ∧ wr.ownsRow (w.heap.size + 1) 5 1 v5 done.length (Lib.byteCells done) ∧ Below (w.heap.size + 1) w1 wr) (fun _ _ _ v17 _ => t.length - (intOf v17).toNat)
  case atStart => exact ⟨0, 0, 0, [], rfl, Nat.zero_le _, rfl, rfl, Or.inl rfl, by decide, Nat.zero_le _, by simp, World.ownsRow_nil _ _ _ _, Below.refl _ _⟩
  case round =>
    obtain ⟨k, n, h, done, rfl, hk, rfl, rfl, hh, hn, hdk, hdeb, hown, hb⟩ := hrel
    have HDB := hid hdeb
    have HO := hid hown
    have HB := hid hb
    have hszw := Nat.le_trans (Nat.succ_le_of_lt hlt1) hb.size
    clear hdeb hown hb
    by_cases hke : k = t.length
    · have hres : Hid (codedR s = (done, decide (s = b64 done) || decide (s = Lib.trimRightB (b64 done) 61))) := by
        show codedR s = _
        unfold codedR
        rw [← ht.out, HDB.out, hke, List.drop_length]
        simp only [debL, Option.map_some, List.append_nil]
      have hc0 := conv_own _ _ _ done wr rfl HO.out
      have CC := hid (format_code done wr (by omega))
      have hB0 := hid (HB1.out.trans (HB.out.mono (Nat.le_succ _)))
      have HO2 := hid HO.out
      have hbl : (b64 done).length ≤ 9223372036854775807 := by rw [b64_len]; omega
      obtain ⟨T, hT⟩ : ∃ T, T = b64 done := ⟨_, rfl⟩
      rw [← hT] at CC hbl
      have hT2 := hid hT
      clear hT
      subst hke
      go_wp2_with fail
      refine CC.out.mono ?_
      rintro e w2 ⟨rfl, hb2⟩
      have HB2 := hid (below_trans hB0.out hb2)
      have hc2 : ∀ m, (convert 66 9 _).run Tryz.prog (w2.drewN m) = .ok (.string ⟨done.toArray⟩) (w2.drewN m) := fun m => conv_own _ _ _ done (w2.drewN m) rfl (owns_below (owns_below HO2.out hb2) (below_drewN (Below.refl _ _) m))
      have CR : Hid (∀ m, Calls Tryz.prog 61 #[.string ⟨T.toArray⟩, .string ⟨#[61]⟩] (w2.drewN m) fun e w' => e = .returned (.string ⟨(Lib.trimRightB T 61).toArray⟩) ∧ w2.drewN m = w') := fun m => (CT T _ hbl).mono fun _ _ h => ⟨h.1, h.2.symm⟩
      have hq1 : (sb.toList == (⟨T.toArray⟩ : ByteArray).toList) = decide (s = T) := by rw [hsb.out, bytes_beq]
      have hq2 : (sb.toList == (⟨(Lib.trimRightB T 61).toArray⟩ : ByteArray).toList) = decide (s = Lib.trimRightB T 61) := by rw [hsb.out, bytes_beq]
      rw [← hT2.out] at hres
      clear hb2 hc0 hbl CC CT
      obtain ⟨tb, htb⟩ : ∃ tb : ByteArray, tb = ⟨T.toArray⟩ := ⟨_, rfl⟩
      obtain ⟨ub, hub⟩ : ∃ ub : ByteArray, ub = ⟨(Lib.trimRightB T 61).toArray⟩ := ⟨_, rfl⟩
      rw [← htb] at CR hq1
      rw [← hub] at CR hq2
      rw [← htb]
      clear htb hub
      by_cases hs1 : s = T
      · rw [decide_eq_true hs1] at hq1 hres
        clear hs1 hq2 CR
        go_wp2_with fail
        go_quiet (fail)
        all_goals
          go_wp2_with fail
          go_ret2
          rw [hres.out]
          exact ⟨rfl, by first | exact HB2.out | exact below_drewN HB2.out _⟩
      · rw [decide_eq_false hs1] at hq1 hres
        clear hs1
        obtain ⟨b2, hb2⟩ : ∃ b2, b2 = decide (s = Lib.trimRightB T 61) := ⟨_, rfl⟩
        rw [← hb2] at hq2 hres
        clear hb2
        go_wp2_with fail
        go_quiet (exact quiet_same (CR.out _))
        all_goals
          go_wp2_with fail
          go_ret2
          rw [hres.out]
          exact ⟨rfl, by first | exact HB2.out | exact below_drewN HB2.out _⟩
    · have hkl : k < t.length := by omega
      obtain ⟨c, hc⟩ : ∃ c, t[k]? = some c := ⟨_, List.getElem?_eq_getElem hkl⟩
      have hd : t.drop k = c :: t.drop (k + 1) := by
        rw [List.drop_eq_getElem_cons hkl]
        rw [List.getElem?_eq_getElem hkl] at hc
        rw [Option.some.inj hc]
      have hcell : wr.cell? ⟨w.heap.size, k, none⟩ = some (.int .u8 c.toNat) := by
        rw [World.cell?_of_block (HB.out.block _ (by show w.heap.size < _; omega))]
        exact (HCB.out k c hc).1
      have CI : ∀ W, Calls Tryz.prog 59 #[.string ⟨#[65, 66, 67, 68, 69, 70, 71, 72, 73, 74, 75, 76, 77, 78, 79, 80, 81, 82, 83, 84, 85, 86, 87, 88, 89, 90, 97, 98, 99, 100, 101, 102, 103, 104, 105, 106, 107, 108, 109, 110, 111, 112, 113, 114, 115, 116, 117, 118, 119, 120, 121, 122, 48, 49, 50, 51, 52, 53, 54, 55, 56, 57, 43, 47]⟩, .int .u8 c.toNat] W fun e w' => e = .returned (.int .i64 (Lib.indexByte signL c)) ∧ w' = W := by
        intro W
        have h := Tryz.strings_IndexByte ⟨#[65, 66, 67, 68, 69, 70, 71, 72, 73, 74, 75, 76, 77, 78, 79, 80, 81, 82, 83, 84, 85, 86, 87, 88, 89, 90, 97, 98, 99, 100, 101, 102, 103, 104, 105, 106, 107, 108, 109, 110, 111, 112, 113, 114, 115, 116, 117, 118, 119, 120, 121, 122, 48, 49, 50, 51, 52, 53, 54, 55, 56, 57, 43, 47]⟩ c.toNat W
        rw [show (c.toNat : Int).toNat.toUInt8 = c by simp] at h
        exact h
      rw [idx64] at CI
      cases hsx : signIx c with
      | none =>
        rw [hsx] at CI
        dsimp only at CI
        have hnone : Hid (debL 0 0 t = none) := by
          show debL 0 0 t = none
          rw [HDB.out, hd]
          simp only [debL, hsx, Option.map_none]
        have hres : Hid (codedR s = ([], false)) := by
          show codedR s = _
          unfold codedR
          rw [← ht.out, hnone.out]
        replace CI := hid CI
        clear hsx hd hc
        go_wp2_with fail
        refine (CI.out _).mono ?_
        rintro e w2 ⟨rfl, hw⟩
        rw [hw]
        clear hw w2
        go_wp2_with fail
        go_ret2
        rw [hres.out]
        exact ⟨rfl, HB1.out.trans (HB.out.mono (Nat.le_succ _))⟩
      | some x =>
        rw [hsx] at CI
        dsimp only at CI
        have hx64 := signIx_lt c x hsx
        have hst := HDB.out
        rw [hd] at hst
        simp only [debL, hsx] at hst
        replace hst := hid hst
        replace CI := hid CI
        clear hsx hd hc
        rcases hh with rfl | rfl | rfl | rfl
        · have hn64 : n < 1 := hn
          have hor := or6 n x (by omega) hx64
          have hv : n * 64 + x < 64 := by omega
          generalize n * 64 + x = v at hor hst hv
          have hst2 : Hid (debL 0 0 t = (debL v 6 (t.drop (k + 1))).map (done ++ ·)) := by
            have := hst.out
            rw [if_neg (by decide)] at this
            exact this
          go_wp2_with fail
          refine (CI.out _).mono ?_
          rintro e w2 ⟨rfl, hw⟩
          rw [hw]
          clear hw w2
          go_wp2_with fail
          go_roundw
          case rel => exact ⟨k + 1, v, 6, done, by go_num, by omega, rfl, rfl, by omega, by omega, by omega, hst2.out, HO.out, HB.out⟩
          case measure => simp [intOf]; omega
        · have hn64 : n < 4 := hn
          have hor := or6 n x (by omega) hx64
          have hv : n * 64 + x < 256 := by omega
          generalize n * 64 + x = v at hor hst hv
          have hand : bits BinOp.and IntKind.u32 (v : Int) 0 = ((v % 1 : Nat) : Int) := and_m v 0 (by decide) (by omega)
          have hst2 : Hid (debL 0 0 t = (debL (v % 1) 0 (t.drop (k + 1))).map ((done ++ [UInt8.ofNat (v / 1)]) ++ ·)) := by
            show debL 0 0 t = _
            have h1 := hst.out
            rw [if_pos (by decide), Option.map_map] at h1
            rw [h1]
            show Option.map _ (debL (v % 1) 0 (t.drop (k + 1))) = _
            congr 1
            funext q
            simp
          have hcs := hid (cells_snoc done (v / 1) (by omega) ((v : Int)) (by omega))
          have hmod : v % 1 < 2 ^ 0 := Nat.mod_lt _ (by decide)
          go_wp2_with fail
          refine (CI.out _).mono ?_
          rintro e w2 ⟨rfl, hw⟩
          rw [hw]
          clear hw w2
          go_wp2_with (at_builtin; refine wpList_push u8Slice rfl _ _ rfl (w.heap.size + 1) (w0 := wr) HO.out rfl rfl rfl (by unfold maxLen; omega) (by omega) hszw ?_; intro v' w3 hown' hb')
          have HOW := hid (show w3.ownsRow (w.heap.size + 1) 5 1 v' (done ++ [UInt8.ofNat (v / 1)]).length (Lib.byteCells (done ++ [UInt8.ofNat (v / 1)])) by
            rw [hcs.out, List.length_append]; exact hown')
          have HB3 := hid (HB.out.trans hb')
          clear hown' hb'
          go_wp2_with fail
          go_roundw
          case rel => exact ⟨k + 1, v % 1, 0, done ++ [UInt8.ofNat (v / 1)], by go_num, by omega, by rw [Nat.mod_one]; rfl, rfl, by omega, hmod, by rw [List.length_append]; simp; omega, hst2.out, HOW.out, HB3.out⟩
          case measure => simp [intOf]; omega
        · have hn64 : n < 16 := hn
          have hor := or6 n x (by omega) hx64
          have hv : n * 64 + x < 1024 := by omega
          generalize n * 64 + x = v at hor hst hv
          have hand : bits BinOp.and IntKind.u32 (v : Int) 3 = ((v % 4 : Nat) : Int) := and_m v 2 (by decide) (by omega)
          have hst2 : Hid (debL 0 0 t = (debL (v % 4) 2 (t.drop (k + 1))).map ((done ++ [UInt8.ofNat (v / 4)]) ++ ·)) := by
            show debL 0 0 t = _
            have h1 := hst.out
            rw [if_pos (by decide), Option.map_map] at h1
            rw [h1]
            show Option.map _ (debL (v % 4) 2 (t.drop (k + 1))) = _
            congr 1
            funext q
            simp
          have hcs := hid (cells_snoc done (v / 4) (by omega) ((v : Int) / 4) (by omega))
          have hmod : v % 4 < 2 ^ 2 := Nat.mod_lt _ (by decide)
          go_wp2_with fail
          refine (CI.out _).mono ?_
          rintro e w2 ⟨rfl, hw⟩
          rw [hw]
          clear hw w2
          go_wp2_with (at_builtin; refine wpList_push u8Slice rfl _ _ rfl (w.heap.size + 1) (w0 := wr) HO.out rfl rfl rfl (by unfold maxLen; omega) (by omega) hszw ?_; intro v' w3 hown' hb')
          have HOW := hid (show w3.ownsRow (w.heap.size + 1) 5 1 v' (done ++ [UInt8.ofNat (v / 4)]).length (Lib.byteCells (done ++ [UInt8.ofNat (v / 4)])) by
            rw [hcs.out, List.length_append]; exact hown')
          have HB3 := hid (HB.out.trans hb')
          clear hown' hb'
          go_wp2_with fail
          go_roundw
          case rel => exact ⟨k + 1, v % 4, 2, done ++ [UInt8.ofNat (v / 4)], by go_num, by omega, rfl, rfl, by omega, hmod, by rw [List.length_append]; simp; omega, hst2.out, HOW.out, HB3.out⟩
          case measure => simp [intOf]; omega
        · have hn64 : n < 64 := hn
          have hor := or6 n x (by omega) hx64
          have hv : n * 64 + x < 4096 := by omega
          generalize n * 64 + x = v at hor hst hv
          have hand : bits BinOp.and IntKind.u32 (v : Int) 15 = ((v % 16 : Nat) : Int) := and_m v 4 (by decide) (by omega)
          have hst2 : Hid (debL 0 0 t = (debL (v % 16) 4 (t.drop (k + 1))).map ((done ++ [UInt8.ofNat (v / 16)]) ++ ·)) := by
            show debL 0 0 t = _
            have h1 := hst.out
            rw [if_pos (by decide), Option.map_map] at h1
            rw [h1]
            show Option.map _ (debL (v % 16) 4 (t.drop (k + 1))) = _
            congr 1
            funext q
            simp
          have hcs := hid (cells_snoc done (v / 16) (by omega) ((v : Int) / 16) (by omega))
          have hmod : v % 16 < 2 ^ 4 := Nat.mod_lt _ (by decide)
          go_wp2_with fail
          refine (CI.out _).mono ?_
          rintro e w2 ⟨rfl, hw⟩
          rw [hw]
          clear hw w2
          go_wp2_with (at_builtin; refine wpList_push u8Slice rfl _ _ rfl (w.heap.size + 1) (w0 := wr) HO.out rfl rfl rfl (by unfold maxLen; omega) (by omega) hszw ?_; intro v' w3 hown' hb')
          have HOW := hid (show w3.ownsRow (w.heap.size + 1) 5 1 v' (done ++ [UInt8.ofNat (v / 16)]).length (Lib.byteCells (done ++ [UInt8.ofNat (v / 16)])) by
            rw [hcs.out, List.length_append]; exact hown')
          have HB3 := hid (HB.out.trans hb')
          clear hown' hb'
          go_wp2_with fail
          go_roundw
          case rel => exact ⟨k + 1, v % 16, 4, done ++ [UInt8.ofNat (v / 16)], by go_num, by omega, rfl, rfl, by omega, hmod, by rw [List.length_append]; simp; omega, hst2.out, HOW.out, HB3.out⟩
          case measure => simp [intOf]; omega

end Go.Proofs.YtafeofgjmlhklaaGreatDoor
