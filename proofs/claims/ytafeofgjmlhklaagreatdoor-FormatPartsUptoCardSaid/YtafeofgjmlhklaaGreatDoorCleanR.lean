/- lorgnetteref04.All and Clean. -/
import Derived.Test.YtafeofgjmlhklaaGreatDoorFmtT
import Derived.Test.YtafeofgjmlhklaaGreatDoorFg
namespace Go.Proofs.YtafeofgjmlhklaaGreatDoor
open Go.RowKit

theorem encs_take (ps : List Nat) {k p : Nat} (h : ps[k]? = some p) : u8L (encs (ps.take (k + 1))) = u8L (encs (ps.take k)) ++ encU p := by
  rw [List.take_add_one, h, Option.toList_some, encs_app]
  unfold u8L encU
  rw [List.map_append]
  simp [encs, u8L]

set_option maxRecDepth 100000 in
set_option maxHeartbeats 1600000 in
theorem ref4_All (ps : List Nat) (ap : Option Addr) (cp : Nat) (w : World) (hr : Row w ap (i64s ps)) (hp : ∀ p ∈ ps, isPt p) (hl : ps.length ≤ 17592186044415) :
    Calls Tryz.prog 72 #[.slice ap ps.length cp] w fun e w' => e = .returned (.string ⟨(u8L (encs ps)).toArray⟩) ∧ Below w.heap.size w w' := by
  obtain ⟨i0, hi, hz0, hz1, hz2⟩ := info_parts u8Slice.info
  have HR := hid hr
  have HP := hid hp
  clear hr hp
  obtain ⟨T, hT⟩ : ∃ T, T = u8L (encs ps) := ⟨_, rfl⟩
  rw [← hT]
  replace hT := hid hT
  go_enter Tryz.func72, Tryz.ntmps72
  go_wp2_with fail
  go_loopw [3, 4] (fun v i wr => ∃ k : Nat, i = .int .i64 (k : Nat) ∧ k ≤ ps.length ∧ wr.ownsRow w.heap.size 5 1 v (u8L (encs (ps.take k))).length (Lib.byteCells (u8L (encs (ps.take k)))) ∧ Below w.heap.size w wr) (fun _ i _ => ps.length - (intOf i).toNat)
  case atStart => exact ⟨0, rfl, Nat.zero_le _, World.ownsRow_nil _ _ _ _, Below.refl _ _⟩
  case round =>
    obtain ⟨k, rfl, hk, hown, hb⟩ := hrel
    have HO := hid hown
    have HB := hid hb
    have hszw := hb.size
    clear hown hb
    by_cases hke : k = ps.length
    · have HO2 := HO.out
      rw [hke, List.take_length, ← hT.out] at HO2
      have hconv := conv_own _ _ _ T wr rfl HO2
      clear HO2
      subst hke
      go_wp2_with fail
      go_ret
      exact ⟨rfl, HB.out⟩
    · have hkl : k < ps.length := by omega
      obtain ⟨p, hpk⟩ : ∃ p, ps[k]? = some p := ⟨_, List.getElem?_eq_getElem hkl⟩
      obtain ⟨bb, off, rfl, hcell⟩ := row_at (HR.out.below HB.out) hpk
      have hpp : p ≤ 1114111 := by
        have h := HP.out p (List.mem_of_getElem? hpk)
        unfold isPt at h
        omega
      have CB := fun W => ref4_Bytes p W hpp
      rw [show bysN (encN p) = encU p from rfl] at CB
      have HN := hid (encs_take ps hpk)
      have hlen : (u8L (encs (ps.take k))).length + (encU p).length ≤ 140737488355328 := by
        have h1 := encs_le (ps.take k)
        have h2 := encN_pos p
        rw [List.length_take] at h1
        unfold encU u8L
        rw [List.length_map, List.length_map]
        omega
      obtain ⟨L, hL⟩ : ∃ L, L = u8L (encs (ps.take k)) := ⟨_, rfl⟩
      rw [← hL] at HO HN hlen
      obtain ⟨eb, heb⟩ : ∃ eb : ByteArray, eb = ⟨(encU p).toArray⟩ := ⟨_, rfl⟩
      rw [← heb] at CB
      have hez : eb.size = (encU p).length := by rw [heb]; rfl
      have hec : Hid (Lib.strCells eb = Lib.byteCells (encU p)) := by rw [heb]; exact rfl
      replace CB := hid CB
      clear hL hpk hpp heb
      go_wp2_with fail
      refine (CB.out _).mono ?_
      rintro e w2 ⟨rfl, hb2⟩
      have hown2 := owns_below HO.out hb2
      have HB2 := hid (below_trans HB.out hb2)
      have hsz2 := HB2.out.size
      clear hb2 CB hcell
      go_wp2_with (at_builtin; refine Lib.wpList_append_own_string _ rfl _ _ 66 9 rfl w.heap.size 5 i0 Tryz.underlying66 Tryz.underlying9 hi hz0 hz1 hz2 _ _ _ rfl hown2 eb rfl ?c3 ?c4 ?c5 ?_)
      case c3 => unfold maxLen; omega
      case c4 => omega
      case c5 => exact hsz2
      intro v' w3 hown' hgrow _
      have HOW := hid (show w3.ownsRow w.heap.size 5 1 v' (u8L (encs (ps.take (k + 1)))).length (Lib.byteCells (u8L (encs (ps.take (k + 1))))) by
        rw [HN.out, Lib.byteCells_append, ← hec.out, List.length_append]; exact hown')
      have HB3 := hid (HB2.out.grown hgrow hsz2 (fun j hj => (hown2.lt j hj).1))
      clear hown' hown2 hgrow
      go_wp2_with fail
      go_roundw
      case rel => exact ⟨k + 1, by go_num, by omega, HOW.out, HB3.out⟩
      case measure => simp [intOf]; omega

set_option maxRecDepth 100000 in
theorem ref4_Clean_core (s : List UInt8) (ps : List Nat) (T : List UInt8) (w : World) (C : Hid (Calls Tryz.prog 47 #[.string ⟨s.toArray⟩] w fun e w' => ∃ a cap, e = .returned (.slice a ps.length cap) ∧ Below w.heap.size w w' ∧ w'.ownsRow w.heap.size 3 1 (.slice a ps.length cap) ps.length (i64s ps)))
    (C2 : Hid (∀ W ap cp, Row W ap (i64s ps) → Calls Tryz.prog 72 #[.slice ap ps.length cp] W fun e w' => e = .returned (.string ⟨T.toArray⟩) ∧ Below W.heap.size W w')) :
    Calls Tryz.prog 44 #[.string ⟨s.toArray⟩] w fun e w' => e = .returned (.string ⟨T.toArray⟩) ∧ Below w.heap.size w w' := by
  generalize (⟨s.toArray⟩ : ByteArray) = sb at *
  go_enter Tryz.func44, Tryz.ntmps44
  go_wp2_with fail
  refine C.out.mono ?_
  rintro e w1 ⟨ap, cp, rfl, hb1, ho⟩
  obtain ⟨_, _, e3, hr, _⟩ := owns_row ho
  injection e3 with e3 _ e5
  subst e3 e5
  have HB1 := hid hb1
  have C3 := hid (C2.out w1 ap cp hr)
  clear ho hr hb1 C C2
  go_wp2_with fail
  refine C3.out.mono ?_
  rintro e w2 ⟨rfl, hb2⟩
  have HB2 := hid (below_trans HB1.out hb2)
  clear hb2
  go_wp2_with fail
  go_ret
  exact ⟨rfl, HB2.out⟩
theorem ref4_Clean (s : List UInt8) (w : World) (hs : s.length ≤ 17592186044415) :
    Calls Tryz.prog 44 #[.string ⟨s.toArray⟩] w fun e w' => e = .returned (.string ⟨(cleanL s).toArray⟩) ∧ Below w.heap.size w w' :=
  ref4_Clean_core s (pts s) (cleanL s) w (hid (ref4_ExplodeAny s w hs)) (hid fun W ap cp hr => ref4_All (pts s) ap cp W hr (pts_pt _ s (Nat.le_refl _)) (Nat.le_trans (pts_len _ s (Nat.le_refl _)) hs))

end Go.Proofs.YtafeofgjmlhklaaGreatDoor
