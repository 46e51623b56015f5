/- utf.Clean. -/
import Derived.Test.YtldhebpkplglcaaGreatDoorGf
import Derived.Test.YtldhebpkplglcaaGreatDoorFg
namespace Go.Proofs.YtldhebpkplglcaaGreatDoor
open Go.RowKit

theorem encodeRune_pt (p : Nat) (h : isPt p) : Lib.encodeRune (p : Int) = encU p := by
  unfold isPt at h
  unfold Lib.encodeRune encU encN u8L
  by_cases h1 : p < 128
  · rw [Lib.encodeRuneZ_one (by omega) (by omega), if_pos h1]
    simp
  · rw [if_neg h1]
    by_cases h2 : p < 2048
    · rw [Lib.encodeRuneZ_two (by omega) (by omega), if_pos h2]
      simp only [List.map_cons, List.map_nil]
      congr 1
    · rw [if_neg h2]
      by_cases h3 : p < 65536
      · rw [Lib.encodeRuneZ_three (by omega), if_pos h3]
        rfl
      · rw [Lib.encodeRuneZ_four (by omega) (by omega), if_neg h3]
        rfl

set_option maxRecDepth 100000 in
set_option maxHeartbeats 3200000 in
theorem utf_Clean (s : List UInt8) (w : World) (hs : s.length ≤ 17592186044415) (hT : Tabs w) :
    Calls Tryz.prog 19 #[.string ⟨s.toArray⟩] w fun e w' => e = .returned (.string ⟨(cleanL s).toArray⟩) ∧ Below w.heap.size w w' := by
  have C := utf_Valid s w (by omega) hT.1
  obtain ⟨sb, hsb⟩ : ∃ sb : ByteArray, sb = ⟨s.toArray⟩ := ⟨_, rfl⟩
  have hz : sb.size = s.length := by rw [hsb]; rfl
  rw [← hsb] at C ⊢
  replace hsb := hid hsb
  clear hT
  by_cases hv : soundB s = true
  · have hc : Hid (cleanL s = s) := clean_of_sound hv
    rw [show validN (nats s) = s.length by unfold soundB at hv; exact of_decide_eq_true hv] at C
    replace C := hid C
    clear hv
    go_enter Tryz.func19, Tryz.ntmps19
    go_wp2_with fail
    refine C.out.mono ?_
    rintro e w1 ⟨rfl, hb1⟩
    replace hb1 := hid hb1
    go_wp2_with fail
    go_ret
    exact ⟨by rw [hc.out, ← hsb.out]; rfl, hb1.out⟩
  · have hne : ¬ ((validN (nats s) : Int) = (s.length : Nat)) := by
      intro h
      apply hv
      unfold soundB
      rw [decide_eq_true_eq]
      omega
    generalize validN (nats s) = vn at *
    replace hne : ((vn : Int) == ((s.length : Nat) : Int)) = false := by simpa using hne
    replace C := hid C
    clear hv
    obtain ⟨T, hT2⟩ : ∃ T, T = cleanL s := ⟨_, rfl⟩
    rw [← hT2]
    replace hT2 := hid hT2
    go_enter Tryz.func19, Tryz.ntmps19
    go_wp2_with fail
    refine C.out.mono ?_
    rintro e w1 ⟨rfl, hb1⟩
    have HB1 := hid hb1
    have hsz1 := hb1.size
    clear hb1
    go_wp2_with fail
    have hbk0 : (((w1.alloc (.cells #[.pointer none, .slice none 0 0] 79)).iter sb 0)).heap[w1.heap.size]? = some (.cells #[.pointer none, .slice none 0 0] 79 (0, 0)) := by
      show ((w1.alloc _).alloc _).heap[_]? = _
      rw [Lib.alloc_old _ _ _ (by simp)]
      exact heap_alloc_new w1 _
    have hit0 : (((w1.alloc (.cells #[.pointer none, .slice none 0 0] 79)).iter sb 0)).heap[w1.heap.size + 1]? = some (.stringIter sb 0) := by
      have h := World.iter_heap (w1.alloc (.cells #[.pointer none, .slice none 0 0] 79)) sb 0
      rwa [show (w1.alloc (.cells #[.pointer none, .slice none 0 0] 79)).heap.size = w1.heap.size + 1 by simp] at h
    have hbl0 : Below w1.heap.size w1 (((w1.alloc (.cells #[.pointer none, .slice none 0 0] 79)).iter sb 0)) := ((Below.refl _ w1).alloc (Nat.le_refl _) _).alloc (by simp) _
    have hsz0 : w1.heap.size + 2 ≤ (((w1.alloc (.cells #[.pointer none, .slice none 0 0] 79)).iter sb 0)).heap.size := by
      show _ ≤ ((w1.alloc _).alloc _).heap.size
      simp
    generalize ((w1.alloc (.cells #[.pointer none, .slice none 0 0] 79)).iter sb 0) = w2 at *
    have HB2 := hid (below_trans HB1.out hbl0)
    have hbd0 := hid (Bld.fresh (C := w1.heap.size + 2) hbk0 (by omega))
    replace hit0 := hid hit0
    clear hbk0 hbl0
    go_loopw [] (fun wr => ∃ (k : Nat) (done : List Nat), k ≤ s.length ∧ done.length ≤ k ∧ pts s = done ++ pts (s.drop k) ∧ wr.heap[w1.heap.size + 1]? = some (.stringIter sb k) ∧ Bld (w1.heap.size + 2) w1.heap.size (u8L (encs done)) wr ∧ Below w.heap.size w wr ∧ w1.heap.size + 2 ≤ wr.heap.size) (fun wr => s.length - wr.iterPos (w1.heap.size + 1))
    case atStart => exact ⟨0, [], Nat.zero_le _, Nat.zero_le _, rfl, hit0.out, hbd0.out, HB2.out, hsz0⟩
    case round =>
      obtain ⟨k, done, hk, hdk, he, hit, hbd, hb, hszw⟩ := hrel
      have HE := hid he
      have HB := hid hb
      have HD := hid hbd
      have hpos : wr.iterPos (w1.heap.size + 1) = k := by unfold World.iterPos; rw [hit]
      have HPOS := hid hpos
      clear he hpos hb hbd
      by_cases hkl : k = s.length
      · have hnx : ∀ ty, (Instr.next (.pointer (some ⟨w1.heap.size + 1, 0, none⟩)) true ty).run Tryz.prog wr = .ok (.tuple #[.bool false]) wr := fun ty => Lib.run_next_end_at wr _ sb k ty hit (by omega)
        have CS := StringB _ _ _ _ HD.out
        rw [show u8L (encs done) = T by rw [hT2.out]; unfold cleanL; rw [HE.out, hkl, List.drop_length]; simp] at CS
        replace CS := hid CS
        clear hit HD
        go_wp2_with fail
        refine CS.out.mono ?_
        rintro e w3 ⟨rfl, hb3⟩
        have HB3 := hid (HB.out.trans (hb3.mono hsz1))
        clear hb3
        go_wp2_with fail
        go_ret
        exact ⟨rfl, HB3.out⟩
      · have hkl2 : k < s.length := by omega
        have hne2 : s.drop k ≠ [] := by
          intro e
          have := congrArg List.length e
          simp at this
          omega
        have h1 := decG_ge hne2
        have h2 := decG_len hne2
        rw [List.length_drop] at h2
        have hs1 := pts_step hne2
        rw [List.drop_drop] at hs1
        have h3 := decG_le (s.drop k)
        have hpt := decG_pt (s.drop k)
        have hdec := decode_drop s k hkl2
        rw [← hsb.out] at hdec
        have hnx : ∀ ty, (Instr.next (.pointer (some ⟨w1.heap.size + 1, 0, none⟩)) true ty).run Tryz.prog wr = .ok (.tuple #[.bool true, .int .i64 (k : Nat), .int .i32 ((decG (s.drop k)).1 : Nat)]) (wr.iterAt (w1.heap.size + 1) sb (k + (decG (s.drop k)).2)) := fun ty => by
          rw [Lib.run_next_any_at wr _ sb k ty hit (by omega), hdec]
        clear hdec
        generalize decG (s.drop k) = q at h1 h2 hs1 h3 hnx hpt
        obtain ⟨p, n⟩ := q
        simp only at h1 h2 hs1 h3 hnx hpt
        obtain ⟨h3, h4⟩ := h3
        have HE2 := hid (show pts s = (done ++ [p]) ++ pts (s.drop (k + n)) by rw [HE.out, hs1]; simp)
        clear hs1 hne2
        have hbd2 : Bld (w1.heap.size + 2) w1.heap.size (u8L (encs done)) (wr.iterAt (w1.heap.size + 1) sb (k + n)) := HD.out.keep (Lib.iterAt_other _ _ _ _ _ (by omega)) fun j hj _ => Lib.iterAt_other _ _ _ _ _ (by omega)
        have HBW := hid (Lib.below_iterAt HB.out (show w.heap.size ≤ w1.heap.size + 1 by omega) sb (k + n))
        have HIT2 := hid (Lib.iterAt_heap wr _ sb k (k + n) hit)
        have hsz2 : w1.heap.size + 2 ≤ (wr.iterAt (w1.heap.size + 1) sb (k + n)).heap.size := by rw [Lib.iterAt_size]; exact hszw
        clear hit HD
        generalize wr.iterAt (w1.heap.size + 1) sb (k + n) = w3 at *
        have hlen : (u8L (encs done)).length + 4 ≤ 140737488355328 := by
          have := encs_le done
          unfold u8L
          rw [List.length_map]
          omega
        have CW := WriteRune _ _ _ (p : Int) (by omega) (by omega) w3 hbd2 hlen hsz2
        rw [encodeRune_pt p hpt, show u8L (encs done) ++ encU p = u8L (encs (done ++ [p])) by rw [encs_app]; unfold u8L encU; rw [List.map_append]; simp [encs, u8L]] at CW
        replace CW := hid CW
        clear hbd2 hlen hpt
        go_wp2_with fail
        refine CW.out.mono ?_
        rintro e w4 ⟨nn, rfl, hbd4, hx4⟩
        have HD4 := hid hbd4
        have HIT4 : Hid (w4.heap[w1.heap.size + 1]? = some (.stringIter sb (k + n))) := (hx4.block _ (by omega) (by omega)).trans HIT2.out
        have HB4 := hid (HBW.out.trans (hx4.below hsz1 (by omega)))
        have hsz4 := Nat.le_trans hsz2 hx4.size
        clear hbd4 hx4 CW
        go_wp2_with fail
        go_roundw
        case rel => exact ⟨k + n, done ++ [p], by omega, by simp; omega, HE2.out, HIT4.out, HD4.out, HB4.out, hsz4⟩
        case measure =>
          rw [HPOS.out, show w4.iterPos (w1.heap.size + 1) = k + n by unfold World.iterPos; rw [HIT4.out]]
          omega

end Go.Proofs.YtldhebpkplglcaaGreatDoor
