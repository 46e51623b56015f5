/- quote.written: a text in quotes. quote.Quote, quote.Ascii. -/
import Derived.Test.YtldhebpkplglcaaGreatDoorGf
import Derived.Test.YtldhebpkplglcaaGreatDoorPc
namespace Go.Proofs.YtldhebpkplglcaaGreatDoor
open Go.RowKit

theorem Bld.iterAt {C b : Nat} {l : List UInt8} {w : World} (h : Bld C b l w) {I : Nat} {sb : ByteArray} {k : Nat} (hi : w.heap[I]? = some (.stringIter sb k)) (k' : Nat) : Bld C b l (w.iterAt I sb k') := by
  have key : ∀ p, BldAt C b p l w → BldAt C b p l (w.iterAt I sb k') := by
    rintro p ⟨h1, v, h2, h3⟩
    have hbI : b ≠ I := by
      rintro rfl
      rw [h2] at hi
      cases hi
    refine ⟨h1, v, (Lib.iterAt_other _ _ _ _ _ (by omega)).trans h2, h3.1, ?_⟩
    rcases h3.2 with h4 | ⟨g, cap, cur, fz, hv, hg, hgg, h4⟩
    · exact Or.inl h4
    · have hgI : g ≠ I := by
        rintro rfl
        rw [hgg] at hi
        cases hi
      exact Or.inr ⟨g, cap, cur, fz, hv, hg, (Lib.iterAt_other _ _ _ _ _ (by omega)).trans hgg, h4⟩
  exact h.imp (key _) (key _)

set_option maxRecDepth 100000 in
set_option maxHeartbeats 3200000 in
theorem quote_written (all : Bool) (s : List UInt8) (w : World) (hs : s.length ≤ 1099511627776) (hT : Tabs w) :
    Calls Tryz.prog 182 #[.string ⟨s.toArray⟩, .bool all] w fun e w' => e = .returned (.string ⟨(quoteA all s).toArray⟩) ∧ Below w.heap.size w w' := by
  obtain ⟨L, hL⟩ : ∃ L, L = cleanL s := ⟨_, rfl⟩
  have hlc : L.length ≤ 4398046511104 := by have := clean_len s; rw [hL]; omega
  have hpc : Hid (pts L = pts s) := by rw [hL]; exact pts_clean s
  obtain ⟨sb, hsb⟩ : ∃ sb : ByteArray, sb = ⟨L.toArray⟩ := ⟨_, rfl⟩
  have hz : sb.size = L.length := by rw [hsb]; rfl
  replace hL := hid hL
  replace hsb := hid hsb
  go_enter Tryz.func182, Tryz.ntmps182
  go_wp2_with fail
  have hbk0 : (w.alloc (.cells #[.pointer none, .slice none 0 0] 79)).heap[w.heap.size]? = some (.cells #[.pointer none, .slice none 0 0] 79 (0, 0)) := heap_alloc_new w _
  have hsz0 : w.heap.size + 1 ≤ (w.alloc (.cells #[.pointer none, .slice none 0 0] 79)).heap.size := by simp
  have hbl0 := (Below.refl _ w).alloc (Nat.le_refl _) (.cells #[.pointer none, .slice none 0 0] 79)
  generalize (w.alloc (.cells #[.pointer none, .slice none 0 0] 79)) = w0 at *
  have CW := hid (WriteByte (w.heap.size + 1) w.heap.size [] 34 w0 (Bld.fresh hbk0 (by omega)) (by simp) hsz0)
  clear hbk0
  refine CW.out.mono ?_
  rintro e w1 ⟨rfl, hbd1, hx1⟩
  have HD1 := hid hbd1
  have HB1 := hid (hbl0.trans (hx1.below (Nat.le_refl _) (by omega)))
  have hsz1 := Nat.le_trans hsz0 hx1.size
  clear hbd1 hx1 hbl0 CW
  have CC := hid (utf_Clean s w1 (by omega) (hT.below HB1.out))
  go_wp2_with fail
  refine CC.out.mono ?_
  rintro e w2 ⟨rfl, hb2⟩
  rw [← hL.out, ← hsb.out]
  have HD2 := hid (HD1.out.stay hb2)
  have HB2 := hid (HB1.out.trans (hb2.mono (by omega)))
  have hsz2 := Nat.le_trans hsz1 hb2.size
  clear hb2 CC HD1 HB1
  go_wp2_with fail
  have hit0 : (w2.iter sb 0).heap[w2.heap.size]? = some (.stringIter sb 0) := World.iter_heap w2 sb 0
  have hbl0 : Below w2.heap.size w2 (w2.iter sb 0) := (Below.refl _ w2).alloc (Nat.le_refl _) _
  have hbd0 := hid (HD2.out.stay hbl0)
  have HB3 := hid (HB2.out.trans (hbl0.mono (by omega)))
  have hsz3 : w2.heap.size + 1 ≤ (w2.iter sb 0).heap.size := by show _ ≤ (w2.alloc _).heap.size; simp
  clear hbl0 HD2 HB2
  generalize w2.iter sb 0 = w3 at *
  replace hit0 := hid hit0
  obtain ⟨I, hI⟩ : ∃ I, I = w2.heap.size := ⟨_, rfl⟩
  rw [← hI] at hit0 hsz2 hsz3 ⊢
  clear hI
  go_loopw [] (fun wr => ∃ (k : Nat) (done : List Nat), k ≤ L.length ∧ done.length ≤ k ∧ pts s = done ++ pts (L.drop k) ∧ wr.heap[I]? = some (.stringIter sb k) ∧ Bld (w.heap.size + 1) w.heap.size (34 :: bodyA all done) wr ∧ Below w.heap.size w wr ∧ I + 1 ≤ wr.heap.size) (fun wr => L.length - wr.iterPos I)
  case atStart => exact ⟨0, [], Nat.zero_le _, Nat.zero_le _, hpc.out.symm, hit0.out, hbd0.out, HB3.out, hsz3⟩
  case round =>
    obtain ⟨k, done, hk, hdk, he, hit, hbd, hb, hszw⟩ := hrel
    have HE := hid he
    have HB := hid hb
    have HD := hid hbd
    have hpos : wr.iterPos I = k := by unfold World.iterPos; rw [hit]
    have HPOS := hid hpos
    clear he hpos hb hbd
    by_cases hkl : k = L.length
    · have hnx : ∀ ty, (Instr.next (.pointer (some ⟨I, 0, none⟩)) true ty).run Tryz.prog wr = .ok (.tuple #[.bool false]) wr := fun ty => Lib.run_next_end_at wr _ sb k ty hit (by omega)
      have CW := hid (WriteByte (w.heap.size + 1) w.heap.size (34 :: bodyA all done) 34 wr HD.out (by have := bodyA_len all done; simp; omega) (by omega))
      clear hit HD
      go_wp2_with fail
      refine CW.out.mono ?_
      rintro e w4 ⟨rfl, hbd4, hx4⟩
      have HB4 := hid (HB.out.trans (hx4.below (Nat.le_refl _) (by omega)))
      have hsz4 := hx4.size
      rw [show (34 :: bodyA all done) ++ [34] = quoteA all s by unfold quoteA; rw [HE.out, hkl, List.drop_length]; simp] at hbd4
      have CS := hid (StringB _ _ _ _ hbd4)
      clear hbd4 hx4 CW
      go_wp2_with fail
      refine CS.out.mono ?_
      rintro e w5 ⟨rfl, hb5⟩
      have HB5 := hid (HB4.out.trans hb5)
      clear hb5
      go_wp2_with fail
      go_ret
      exact ⟨rfl, HB5.out⟩
    · have hkl2 : k < L.length := by omega
      have hne2 : L.drop k ≠ [] := by
        intro e
        have := congrArg List.length e
        simp at this
        omega
      have h1 := decG_ge hne2
      have h2 := decG_len hne2
      rw [List.length_drop] at h2
      have hs1 := pts_step hne2
      rw [List.drop_drop] at hs1
      have h3 := decG_le (L.drop k)
      have hpt := decG_pt (L.drop k)
      have hdec := decode_drop L k hkl2
      rw [← hsb.out] at hdec
      have hnx : ∀ ty, (Instr.next (.pointer (some ⟨I, 0, none⟩)) true ty).run Tryz.prog wr = .ok (.tuple #[.bool true, .int .i64 (k : Nat), .int .i32 ((decG (L.drop k)).1 : Nat)]) (wr.iterAt I sb (k + (decG (L.drop k)).2)) := fun ty => by
        rw [Lib.run_next_any_at wr _ sb k ty hit (by omega), hdec]
      clear hdec
      generalize decG (L.drop k) = q at h1 h2 hs1 h3 hnx hpt
      obtain ⟨p, n⟩ := q
      simp only at h1 h2 hs1 h3 hnx hpt
      obtain ⟨h3, h4⟩ := h3
      have HE2 := hid (show pts s = (done ++ [p]) ++ pts (L.drop (k + n)) by rw [HE.out, hs1]; simp)
      clear hs1 hne2
      have HBD2 := hid (HD.out.iterAt hit (k + n))
      have HBW := hid (Lib.below_iterAt HB.out (show w.heap.size ≤ I by omega) sb (k + n))
      have HIT2 := hid (Lib.iterAt_heap wr I sb k (k + n) hit)
      have hsz4 : I + 1 ≤ (wr.iterAt I sb (k + n)).heap.size := by rw [Lib.iterAt_size]; exact hszw
      clear hit HD
      generalize wr.iterAt I sb (k + n) = w4 at *
      have hlen : (34 :: bodyA all done).length + 20 ≤ 140737488355328 := by
        have := bodyA_len all done
        simp
        omega
      have hsn : 34 :: bodyA all (done ++ [p]) = (34 :: bodyA all done) ++ escA all p := by rw [bodyA_snoc]; rfl
      have hkn : k + n ≤ L.length ∧ (done ++ [p]).length ≤ k + n := ⟨by omega, by simp; omega⟩
      have key : ∀ w' : World, Bld (w.heap.size + 1) w.heap.size ((34 :: bodyA all done) ++ escA all p) w' → BelowX (w.heap.size + 1) w.heap.size w4 w' → (∃ (k : Nat) (done : List Nat), k ≤ L.length ∧ done.length ≤ k ∧ pts s = done ++ pts (L.drop k) ∧ w'.heap[I]? = some (.stringIter sb k) ∧ Bld (w.heap.size + 1) w.heap.size (34 :: bodyA all done) w' ∧ Below w.heap.size w w' ∧ I + 1 ≤ w'.heap.size) ∧ L.length - w'.iterPos I < L.length - wr.iterPos I := by
        intro w' hb' hx'
        have hi' := hx'.its I sb (k + n) (by omega) HIT2.out
        refine ⟨⟨k + n, done ++ [p], hkn.1, hkn.2, HE2.out, hi', by rw [hsn]; exact hb', HBW.out.trans (hx'.below (Nat.le_refl _) (by omega)), Nat.le_trans hsz4 hx'.size⟩, ?_⟩
        rw [HPOS.out, show w'.iterPos I = k + n by unfold World.iterPos; rw [hi']]
        omega
      replace key := hid key
      clear HE2 HIT2 HBW hsn hkn HE HB HPOS
      generalize (34 :: bodyA all done) = X at *
      have CS := hid (quote_short p w4)
      go_wp2_with fail
      refine CS.out.mono ?_
      rintro e w5 ⟨rfl, rfl⟩
      clear CS hnx hL hsb hpc hbd0 hit0 HB3 hT
      by_cases hA : shortN p = 0
      · have hcz : (((UInt8.ofNat (shortN p)).toNat : Nat) : Int) = 0 := by rw [hA]; rfl
        generalize (UInt8.ofNat (shortN p)).toNat = cn at *
        obtain rfl : cn = 0 := by omega
        clear hcz
        obtain ⟨P, hP⟩ : ∃ P : Int, P = (p : Int) := ⟨_, rfl⟩
        rw [← hP]
        by_cases hB : p < 32 ∨ p = 127 ∨ (all = true ∧ 127 < p ∧ p < 65536)
        · rw [show escA all p = 92 :: 117 :: hex4 p by unfold escA; rw [if_neg (by rw [hA]; exact fun h => h rfl), if_pos hB]] at key
          have CU := quote_unit _ _ X p w5 (by omega) HBD2.out (by omega) (by omega)
          rw [← hP] at CU
          replace CU := hid CU
          clear hA
          rcases hB with hB | rfl | ⟨rfl, hB, hB2⟩
          · have e1 : P < 32 := by omega
            replace hB := hid hB
            replace h3 := hid h3
            replace hP := hid hP
            go_wp2_with fail
            refine CU.out.mono ?_
            rintro e w6 ⟨rfl, hb6, hx6⟩
            have HK := hid (key.out w6 hb6 hx6)
            clear hb6 hx6 CU key
            go_wp2_with fail
            go_roundw
            case rel => exact HK.out.1
            case measure => exact HK.out.2
          · obtain rfl : P = 127 := by omega
            clear hP
            go_wp2_with fail
            refine CU.out.mono ?_
            rintro e w6 ⟨rfl, hb6, hx6⟩
            have HK := hid (key.out w6 hb6 hx6)
            clear hb6 hx6 CU key
            go_wp2_with fail
            go_roundw
            case rel => exact HK.out.1
            case measure => exact HK.out.2
          · have e1 : ¬ P < 32 := by omega
            have e2 : (P == 127) = false := by rw [beq_eq_false_iff_ne]; omega
            have e3 : (127 : Int) < P := by omega
            have e4 : P < 65536 := by omega
            replace hB := hid hB
            replace h3 := hid h3
            replace hP := hid hP
            replace hB2 := hid hB2
            go_wp2_with fail
            refine CU.out.mono ?_
            rintro e w6 ⟨rfl, hb6, hx6⟩
            have HK := hid (key.out w6 hb6 hx6)
            clear hb6 hx6 CU key
            go_wp2_with fail
            go_roundw
            case rel => exact HK.out.1
            case measure => exact HK.out.2
        · have e1 : ¬ P < 32 := by omega
          have e2 : (P == 127) = false := by rw [beq_eq_false_iff_ne]; omega
          by_cases hC : all = true ∧ 65536 ≤ p
          · rw [show escA all p = (92 :: 117 :: hex4 (55296 + (p - 65536) / 1024)) ++ 92 :: 117 :: hex4 (56320 + (p - 65536) % 1024) by unfold escA; rw [if_neg (by rw [hA]; exact fun h => h rfl), if_neg hB, if_pos hC]] at key
            obtain ⟨rfl, hC⟩ := hC
            have e3 : (127 : Int) < P := by omega
            have e4 : ¬ P < 65536 := by omega
            have e5 : (65536 : Int) ≤ P := by omega
            have hbt : bits BinOp.and .i64 (P - 65536) 1023 = (P - 65536) % 1024 := by
              have := bits_mask .i64 62 (by decide) wraps_i64 10 (by decide) (P - 65536) (by omega) (by omega)
              rwa [show ((2 : Int) ^ 10 - 1) = 1023 from rfl, show ((2 : Int) ^ 10) = 1024 from rfl] at this
            have CU := quote_unit _ _ X (55296 + (p - 65536) / 1024) w5 (by omega) HBD2.out (by omega) (by omega)
            rw [show ((55296 + (p - 65536) / 1024 : Nat) : Int) = 55296 + (P - 65536) / 1024 by omega] at CU
            replace CU := hid CU
            have e6 : (0 : Int) ≤ (P - 65536) / 1024 := by omega
            have e7 : (P - 65536) / 1024 < 2000 := by omega
            have e8 : P ≤ 1114111 := by omega
            clear hA hB
            replace hC := hid hC
            replace h3 := hid h3
            replace hP := hid hP
            go_wp2_with fail
            refine CU.out.mono ?_
            rintro e w6 ⟨rfl, hb6, hx6⟩
            have HX6 := hid hx6
            have CV := quote_unit _ _ (X ++ 92 :: 117 :: hex4 (55296 + (p - 65536) / 1024)) (56320 + (p - 65536) % 1024) w6 (by omega) hb6 (by rw [List.length_append]; show X.length + 6 + 6 ≤ _; omega) (Nat.le_trans (by omega) hx6.size)
            rw [show ((56320 + (p - 65536) % 1024 : Nat) : Int) = 56320 + (P - 65536) % 1024 by have := hP.out; have := hC.out; omega] at CV
            replace CV := hid CV
            clear hb6 hx6 CU
            go_wp2_with fail
            refine CV.out.mono ?_
            rintro e w7 ⟨rfl, hb7, hx7⟩
            have HK := hid (key.out w7 (by simpa using hb7) (HX6.out.trans hx7))
            clear hb7 hx7 CV key
            go_wp2_with fail
            go_roundw
            case rel => exact HK.out.1
            case measure => exact HK.out.2
          · rw [show escA all p = encU p by unfold escA; rw [if_neg (by rw [hA]; exact fun h => h rfl), if_neg hB, if_neg hC]; rfl] at key
            have CU := WriteRune _ _ X (p : Int) (by omega) (by omega) w5 HBD2.out (by omega) (by omega)
            rw [encodeRune_pt p hpt, ← hP] at CU
            replace CU := hid CU
            clear hA
            have e9 : P ≤ 1114111 := by omega
            have hD : all = true → P < 127 := by
              intro ha
              have h5 : ¬ (65536 ≤ p) := fun h => hC ⟨ha, h⟩
              have h6 : ¬ (127 < p ∧ p < 65536) := fun h => hB (Or.inr (Or.inr ⟨ha, h⟩))
              have h7 : ¬ (p = 127) := fun h => hB (Or.inr (Or.inl h))
              omega
            clear hB hC
            replace h3 := hid h3
            replace hP := hid hP
            have fin : ∀ w6 : World, Bld (w.heap.size + 1) w.heap.size (X ++ encU p) w6 → BelowX (w.heap.size + 1) w.heap.size w5 w6 → _ := key.out
            replace fin := hid fin
            clear key
            cases all
            · clear hD
              go_wp2_with fail
              refine CU.out.mono ?_
              rintro e w6 ⟨nn, rfl, hb6, hx6⟩
              have HK := hid (fin.out w6 hb6 hx6)
              clear hb6 hx6 CU fin
              go_wp2_with fail
              go_roundw
              case rel => exact HK.out.1
              case measure => exact HK.out.2
            · have e4 : P < 127 := hD rfl
              have e4 : ¬ (127 : Int) < P := by omega
              have e5 : P < 65536 := by omega
              have e6 : ¬ (65536 : Int) ≤ P := by omega
              clear hD
              go_wp2_with fail
              refine CU.out.mono ?_
              rintro e w6 ⟨nn, rfl, hb6, hx6⟩
              have HK := hid (fin.out w6 hb6 hx6)
              clear hb6 hx6 CU fin
              go_wp2_with fail
              go_roundw
              case rel => exact HK.out.1
              case measure => exact HK.out.2
      · have hlt : shortN p < 256 := by unfold shortN; repeat (first | split | omega)
        have hcz : (((UInt8.ofNat (shortN p)).toNat : Nat) : Int) ≠ 0 := by
          rw [UInt8.toNat_ofNat']
          omega
        rw [show escA all p = [92, UInt8.ofNat (shortN p)] by unfold escA; rw [if_pos hA]] at key
        generalize UInt8.ofNat (shortN p) = c at *
        have CW := hid (WriteByte _ _ X 92 w5 HBD2.out (by omega) (by omega))
        replace hcz : ((c.toNat : Int) == 0) = false := by rw [beq_eq_false_iff_ne]; exact hcz
        clear hA hlt
        go_wp2_with fail
        refine CW.out.mono ?_
        rintro e w6 ⟨rfl, hb6, hx6⟩
        have HX6 := hid hx6
        have CV := hid (WriteByte _ _ (X ++ [92]) c w6 hb6 (by simp; omega) (Nat.le_trans (by omega) hx6.size))
        clear hb6 hx6 CW
        go_wp2_with fail
        refine CV.out.mono ?_
        rintro e w7 ⟨rfl, hb7, hx7⟩
        have HK := hid (key.out w7 (by simpa using hb7) (HX6.out.trans hx7))
        clear hb7 hx7 CV key
        go_wp2_with fail
        go_roundw
        case rel => exact HK.out.1
        case measure => exact HK.out.2

end Go.Proofs.YtldhebpkplglcaaGreatDoor

namespace Go.Proofs.YtldhebpkplglcaaGreatDoor
open Go.RowKit

set_option maxRecDepth 100000 in
set_option maxHeartbeats 800000 in
theorem quote_Quote (s : List UInt8) (w : World) (hs : s.length ≤ 1099511627776) (hT : Tabs w) :
    Calls Tryz.prog 147 #[.string ⟨s.toArray⟩] w fun e w' => e = .returned (.string ⟨(quoteA false s).toArray⟩) ∧ Below w.heap.size w w' := by
  have C := hid (quote_written false s w hs hT)
  go_enter Tryz.func147, Tryz.ntmps147
  go_wp2_with fail
  refine C.out.mono ?_
  rintro e w1 ⟨rfl, hb⟩
  have HB := hid hb
  go_wp2_with fail
  go_ret
  exact ⟨rfl, HB.out⟩

end Go.Proofs.YtldhebpkplglcaaGreatDoor
