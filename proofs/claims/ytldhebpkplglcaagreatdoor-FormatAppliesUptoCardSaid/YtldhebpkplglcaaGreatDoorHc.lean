/- ref05.Hex, letter. ref05.letter. ref05.Written = quoteA. -/
import Derived.Test.YtldhebpkplglcaaGreatDoorEscP
import Derived.Test.YtldhebpkplglcaaGreatDoorMl
import Derived.Test.YtldhebpkplglcaaGreatDoorFd
import Derived.Test.YtldhebpkplglcaaGreatDoorGa
namespace Go.Proofs.YtldhebpkplglcaaGreatDoor
open Go.RowKit

theorem hex_cut (j : Nat) (hj : j < 16) (l : List UInt8) : (⟨#[48, 49, 50, 51, 52, 53, 54, 55, 56, 57, 97, 98, 99, 100, 101, 102]⟩ : ByteArray).extract j (j + 1) ++ ⟨l.toArray⟩ = ⟨(hexL j :: l).toArray⟩ := by
  have key : ∀ i : Fin 16, (⟨#[48, 49, 50, 51, 52, 53, 54, 55, 56, 57, 97, 98, 99, 100, 101, 102]⟩ : ByteArray).extract i.val (i.val + 1) = ⟨#[hexL i.val]⟩ := by decide +kernel
  rw [key ⟨j, hj⟩]
  apply ByteArray.ext
  simp [ByteArray.data_append]

set_option maxRecDepth 100000 in
set_option maxHeartbeats 1600000 in
theorem ref_Hex (p : Nat) (w : World) (hp : p < 65536) :
    Calls Tryz.prog 127 #[.int .i64 p, .int .i64 4] w fun e w' => e = .returned (.string ⟨(hex4 p).toArray⟩) ∧ w' = w := by
  go_enter Tryz.func127, Tryz.ntmps127
  go_wp2_with fail
  go_loopw [0, 6, 7] (fun v0 v6 v7 wr => wr = w ∧ ∃ k : Nat, k ≤ 4 ∧ v0 = .int .i64 ((p / 16 ^ k : Nat) : Int) ∧ v6 = .string ⟨((hex4 p).drop (4 - k)).toArray⟩ ∧ v7 = .int .i64 k) (fun _ _ v7 _ => 4 - (intOf v7).toNat)
  case atStart => exact ⟨rfl, 0, by omega, by simp, by simp [hex4], rfl⟩
  case round =>
    obtain ⟨hw, k, hk, rfl, rfl, rfl⟩ := hrel
    rw [hw]
    clear hw
    obtain ⟨q, hq⟩ : ∃ q, q = p / 16 ^ k := ⟨_, rfl⟩
    rw [← hq]
    have hq2 : q < 65536 := by rw [hq]; exact Nat.lt_of_le_of_lt (Nat.div_le_self _ _) hp
    obtain ⟨S, hS⟩ : ∃ S : ByteArray, S = ⟨((hex4 p).drop (4 - k)).toArray⟩ := ⟨_, rfl⟩
    rw [← hS]
    by_cases h4 : k = 4
    · subst h4
      obtain rfl : S = ⟨(hex4 p).toArray⟩ := by rw [hS]; rfl
      clear hS
      replace hq := hid hq
      go_wp2_with fail
      go_ret
      exact ⟨rfl, rfl⟩
    · have hk4 : (k : Int) < 4 := by omega
      have hm0 : (0 : Int) ≤ (q : Int) % 16 := by omega
      have hm1 : (q : Int) % 16 < 16 := by omega
      have hsz : S.size ≤ 4 := by
        have h1 : S.size = ((hex4 p).drop (4 - k)).length := by rw [hS]; rfl
        have h2 : (hex4 p).length = 4 := rfl
        rw [h1, List.length_drop]
        omega
      have hno : ¬ 9223372036854775807 < min (q % 16 + 1) 16 - q % 16 + S.size := by omega
      have hnx : q / 16 = p / 16 ^ (k + 1) := by rw [hq, Nat.div_div_eq_div_mul, Nat.pow_succ]
      have hst : (⟨#[48, 49, 50, 51, 52, 53, 54, 55, 56, 57, 97, 98, 99, 100, 101, 102]⟩ : ByteArray).extract (q % 16) (q % 16 + 1) ++ S = ⟨((hex4 p).drop (4 - (k + 1))).toArray⟩ := by
        rw [hS, hex_cut _ (by omega)]
        obtain rfl | rfl | rfl | rfl : k = 0 ∨ k = 1 ∨ k = 2 ∨ k = 3 := by omega
        all_goals simp [hex4, hq]
      replace hnx := hid hnx
      replace hst := hid hst
      replace hq := hid hq
      replace hS := hid hS
      clear hsz
      go_wp2_with fail
      go_roundw
      case rel => exact ⟨by trivial, k + 1, by omega, by rw [← hnx.out]; go_num, by rw [hst.out], by go_num⟩
      case measure => simp [intOf]; omega

end Go.Proofs.YtldhebpkplglcaaGreatDoor

namespace Go.Proofs.YtldhebpkplglcaaGreatDoor
open Go.RowKit

set_option maxRecDepth 100000 in
set_option maxHeartbeats 1600000 in
theorem ref_letter (p : Nat) (w : World) :
    Calls Tryz.prog 126 #[.int .i64 p] w fun e w' => e = .returned (.int .u8 (UInt8.ofNat (shortN p)).toNat) ∧ Below w.heap.size w w' := by
  go_enter Tryz.func126, Tryz.ntmps126
  go_wp2_with fail
  have hX := heap_alloc_new w (.cells #[.int .i64 34, .int .i64 92, .int .i64 8, .int .i64 9, .int .i64 10, .int .i64 12, .int .i64 13] 3)
  have hB := (Below.refl _ w).alloc (Nat.le_refl _) (.cells #[.int .i64 34, .int .i64 92, .int .i64 8, .int .i64 9, .int .i64 10, .int .i64 12, .int .i64 13] 3)
  generalize w.alloc (.cells #[.int .i64 34, .int .i64 92, .int .i64 8, .int .i64 9, .int .i64 10, .int .i64 12, .int .i64 13] 3) = w1 at *
  have d0 : w1.cell? ⟨w.heap.size, 0, none⟩ = some (.int .i64 34) := by rw [Lib.cell_of_heap hX]; rfl
  have d1 : w1.cell? ⟨w.heap.size, 1, none⟩ = some (.int .i64 92) := by rw [Lib.cell_of_heap hX]; rfl
  have d2 : w1.cell? ⟨w.heap.size, 2, none⟩ = some (.int .i64 8) := by rw [Lib.cell_of_heap hX]; rfl
  have d3 : w1.cell? ⟨w.heap.size, 3, none⟩ = some (.int .i64 9) := by rw [Lib.cell_of_heap hX]; rfl
  have d4 : w1.cell? ⟨w.heap.size, 4, none⟩ = some (.int .i64 10) := by rw [Lib.cell_of_heap hX]; rfl
  have d5 : w1.cell? ⟨w.heap.size, 5, none⟩ = some (.int .i64 12) := by rw [Lib.cell_of_heap hX]; rfl
  have d6 : w1.cell? ⟨w.heap.size, 6, none⟩ = some (.int .i64 13) := by rw [Lib.cell_of_heap hX]; rfl
  replace hB := hid hB
  clear hX
  go_loopw [5] (fun v5 wr => wr = w1 ∧ ∃ k : Nat, k ≤ 7 ∧ v5 = .int .i64 k ∧ Hid (∀ j, j < k → [34, 92, 8, 9, 10, 12, 13].getD j 0 ≠ p)) (fun v5 _ => 7 - (intOf v5).toNat)
  case atStart => exact ⟨rfl, 0, by omega, rfl, hid (fun j hj => by omega)⟩
  case round =>
    obtain ⟨hw, k, hk, rfl, hne⟩ := hrel
    rw [hw]
    clear hw
    obtain rfl | rfl | rfl | rfl | rfl | rfl | rfl | rfl : k = 0 ∨ k = 1 ∨ k = 2 ∨ k = 3 ∨ k = 4 ∨ k = 5 ∨ k = 6 ∨ k = 7 := by omega
    · by_cases hp : p = 34
      · subst hp
        clear hne
        go_wp2_with fail
        go_ret
        exact ⟨rfl, hB.out⟩
      · have e1 : ((34 : Int) == (p : Int)) = false := by rw [beq_eq_false_iff_ne]; omega
        replace hp := hid hp
        go_wp2_with fail
        go_roundw
        case rel => exact ⟨by trivial, 1, by omega, by first | rfl | go_num, hid (fun j hj => by
          by_cases hjk : j = 0
          · subst hjk; exact fun e => hp.out e.symm
          · exact hne.out j (by omega))⟩
        case measure => simp [intOf]
    · by_cases hp : p = 92
      · subst hp
        clear hne
        go_wp2_with fail
        go_ret
        exact ⟨rfl, hB.out⟩
      · have e1 : ((92 : Int) == (p : Int)) = false := by rw [beq_eq_false_iff_ne]; omega
        replace hp := hid hp
        go_wp2_with fail
        go_roundw
        case rel => exact ⟨by trivial, 2, by omega, by first | rfl | go_num, hid (fun j hj => by
          by_cases hjk : j = 1
          · subst hjk; exact fun e => hp.out e.symm
          · exact hne.out j (by omega))⟩
        case measure => simp [intOf]
    · by_cases hp : p = 8
      · subst hp
        clear hne
        go_wp2_with fail
        go_ret
        exact ⟨rfl, hB.out⟩
      · have e1 : ((8 : Int) == (p : Int)) = false := by rw [beq_eq_false_iff_ne]; omega
        replace hp := hid hp
        go_wp2_with fail
        go_roundw
        case rel => exact ⟨by trivial, 3, by omega, by first | rfl | go_num, hid (fun j hj => by
          by_cases hjk : j = 2
          · subst hjk; exact fun e => hp.out e.symm
          · exact hne.out j (by omega))⟩
        case measure => simp [intOf]
    · by_cases hp : p = 9
      · subst hp
        clear hne
        go_wp2_with fail
        go_ret
        exact ⟨rfl, hB.out⟩
      · have e1 : ((9 : Int) == (p : Int)) = false := by rw [beq_eq_false_iff_ne]; omega
        replace hp := hid hp
        go_wp2_with fail
        go_roundw
        case rel => exact ⟨by trivial, 4, by omega, by first | rfl | go_num, hid (fun j hj => by
          by_cases hjk : j = 3
          · subst hjk; exact fun e => hp.out e.symm
          · exact hne.out j (by omega))⟩
        case measure => simp [intOf]
    · by_cases hp : p = 10
      · subst hp
        clear hne
        go_wp2_with fail
        go_ret
        exact ⟨rfl, hB.out⟩
      · have e1 : ((10 : Int) == (p : Int)) = false := by rw [beq_eq_false_iff_ne]; omega
        replace hp := hid hp
        go_wp2_with fail
        go_roundw
        case rel => exact ⟨by trivial, 5, by omega, by first | rfl | go_num, hid (fun j hj => by
          by_cases hjk : j = 4
          · subst hjk; exact fun e => hp.out e.symm
          · exact hne.out j (by omega))⟩
        case measure => simp [intOf]
    · by_cases hp : p = 12
      · subst hp
        clear hne
        go_wp2_with fail
        go_ret
        exact ⟨rfl, hB.out⟩
      · have e1 : ((12 : Int) == (p : Int)) = false := by rw [beq_eq_false_iff_ne]; omega
        replace hp := hid hp
        go_wp2_with fail
        go_roundw
        case rel => exact ⟨by trivial, 6, by omega, by first | rfl | go_num, hid (fun j hj => by
          by_cases hjk : j = 5
          · subst hjk; exact fun e => hp.out e.symm
          · exact hne.out j (by omega))⟩
        case measure => simp [intOf]
    · by_cases hp : p = 13
      · subst hp
        clear hne
        go_wp2_with fail
        go_ret
        exact ⟨rfl, hB.out⟩
      · have e1 : ((13 : Int) == (p : Int)) = false := by rw [beq_eq_false_iff_ne]; omega
        replace hp := hid hp
        go_wp2_with fail
        go_roundw
        case rel => exact ⟨by trivial, 7, by omega, by first | rfl | go_num, hid (fun j hj => by
          by_cases hjk : j = 6
          · subst hjk; exact fun e => hp.out e.symm
          · exact hne.out j (by omega))⟩
        case measure => simp [intOf]
    · have hs : shortN p = 0 := by
        have h0 := hne.out 0 (by omega)
        have h1 := hne.out 1 (by omega)
        have h2 := hne.out 2 (by omega)
        have h3 := hne.out 3 (by omega)
        have h4 := hne.out 4 (by omega)
        have h5 := hne.out 5 (by omega)
        have h6 := hne.out 6 (by omega)
        simp at h0 h1 h2 h3 h4 h5 h6
        unfold shortN
        rw [if_neg (by omega), if_neg (by omega), if_neg (by omega), if_neg (by omega), if_neg (by omega), if_neg (by omega)]
      replace hs := hid hs
      go_wp2_with fail
      go_ret
      exact ⟨by rw [hs.out]; rfl, hB.out⟩

end Go.Proofs.YtldhebpkplglcaaGreatDoor

namespace Go.Proofs.YtldhebpkplglcaaGreatDoor
open Go.RowKit

theorem body_take (all : Bool) (ps : List Nat) {i p : Nat} (h : ps[i]? = some p) : bodyA all (ps.take (i + 1)) = bodyA all (ps.take i) ++ escA all p := by
  have h1 := List.getElem?_eq_some_iff.1 h
  rw [List.take_succ_eq_append_getElem h1.1, bodyA_snoc, h1.2]
theorem bytes_app (a b : List UInt8) : (⟨a.toArray⟩ : ByteArray) ++ ⟨b.toArray⟩ = ⟨(a ++ b).toArray⟩ := by
  refine ByteArray.ext (Array.toList_inj.1 ?_)
  simp
theorem short_lt (p : Nat) : shortN p < 256 := by
  unfold shortN
  repeat' split
  all_goals first | decide | omega
theorem i64s_at {ps : List Nat} {i p : Nat} (h : ps[i]? = some p) : (i64s ps)[i]? = some (.int .i64 (p : Int)) := by
  unfold i64s
  rw [List.getElem?_map, h]
  rfl

set_option maxRecDepth 100000 in
set_option maxHeartbeats 6400000 in
theorem ref_Written (s : List UInt8) (all : Bool) (w : World) (hs : s.length ≤ 1099511627776) :
    Calls Tryz.prog 81 #[.string ⟨s.toArray⟩, .bool all] w fun e w' => e = .returned (.string ⟨(quoteA all s).toArray⟩) ∧ Below w.heap.size w w' := by
  have CE := hid (ref4_ExplodeAny s w (by omega))
  have hpl := pts_len _ s (Nat.le_refl _)
  have hpt := pts_pt _ s (Nat.le_refl _)
  have hbl := bodyA_len all (pts s)
  obtain ⟨Q, hQ⟩ : ∃ Q, Q = quoteA all s := ⟨_, rfl⟩
  have hQ2 : Q = [34] ++ bodyA all (pts s) ++ [34] := by rw [hQ]; rfl
  rw [← hQ]
  clear hQ
  generalize pts s = ps at *
  generalize (⟨s.toArray⟩ : ByteArray) = sb at *
  obtain ⟨n, hn⟩ : ∃ n, n = ps.length := ⟨_, rfl⟩
  rw [← hn] at CE hpl hbl
  replace hQ2 := hid hQ2
  replace hpt := hid hpt
  replace hn := hid hn
  go_enter Tryz.func81, Tryz.ntmps81
  go_wp2_with fail
  refine CE.out.mono ?_
  rintro e w1 ⟨a, cap, rfl, hb1, hown⟩
  have hcell : ∀ (i p : Nat), ps[i]? = some p → ∃ g, a = some ⟨g, 0, none⟩ ∧ w1.cell? ⟨g, i, none⟩ = some (.int .i64 (p : Int)) := by
    intro i p hp
    have hi := (List.getElem?_eq_some_iff.1 hp).1
    obtain ⟨g, cp, e⟩ := own_some hown (by rw [hn.out]; omega)
    injection e with e1 _ e3
    subst e1 e3
    refine ⟨g, rfl, ?_⟩
    exact own_cell hown (i64s_at hp)
  have HB1 := hid hb1
  have HC := hid hcell
  clear hb1 hown hcell CE
  go_wp2_with fail
  go_loopw [6, 7] (fun v6 v7 wr => Hid (Below w1.heap.size w1 wr) ∧ ∃ i : Nat, i ≤ n ∧ v7 = .int .i64 (i : Nat) ∧ v6 = .string ⟨([34] ++ bodyA all (ps.take i)).toArray⟩) (fun _ v7 _ => n - (intOf v7).toNat)
  case atStart => exact ⟨hid (Below.refl _ _), 0, Nat.zero_le _, rfl, rfl⟩
  case round =>
    obtain ⟨HB, i, hi, rfl, rfl⟩ := hrel
    have hbt := bodyA_len all (ps.take i)
    rw [List.length_take] at hbt
    obtain ⟨S, hS⟩ : ∃ S : ByteArray, S = ⟨([34] ++ bodyA all (ps.take i)).toArray⟩ := ⟨_, rfl⟩
    have hSz : S.size ≤ 12 * n + 1 := by
      have : S.size = ([34] ++ bodyA all (ps.take i)).length := by rw [hS]; rfl
      rw [this, List.length_append, List.length_singleton]
      omega
    rw [← hS]
    by_cases hlt : i < n
    · have hlt2 : (i : Int) < (n : Int) := by omega
      obtain ⟨p, hp⟩ : ∃ p, ps[i]? = some p := ⟨_, List.getElem?_eq_getElem (by rw [← hn.out]; exact hlt)⟩
      obtain ⟨g, rfl, h0⟩ := HC.out i p hp
      have k1 := (HB.out.cell (cell_lt h0)).trans h0
      have hpp := hpt.out p (List.mem_of_getElem? hp)
      have hpm : p ≤ 1114111 := by unfold isPt at hpp; omega
      have hnx := body_take all ps hp
      have hel := escA_len all p
      have CL := fun W => ref_letter p W
      have hsl := short_lt p
      have hcn : (UInt8.ofNat (shortN p)).toNat = shortN p := by rw [UInt8.toNat_ofNat']; omega
      obtain ⟨P, hP⟩ : ∃ P : Int, P = (p : Int) := ⟨_, rfl⟩
      rw [← hP] at k1 CL
      have hP0 : 0 ≤ P := by omega
      have hPm : P ≤ 1114111 := by omega
      have HNX := hid hnx
      have hszS : S.size ≤ 13194139533313 := by omega
      clear h0 hpp hpt hnx hP0 hel hbt hp HC
      by_cases hsn : shortN p = 0
      · rw [hsn] at CL
        replace CL := hid CL
        by_cases hB : p < 32 ∨ p = 127 ∨ (all = true ∧ 127 < p ∧ p < 65536)
        · have hesc : escA all p = 92 :: 117 :: hex4 p := by unfold escA; rw [if_neg (by rw [hsn]; decide), if_pos hB]
          have CH := fun W => ref_Hex p W (by omega)
          rw [← hP] at CH
          rw [hesc] at HNX
          have HX := hid (show S ++ ⟨#[92, 117]⟩ ++ ⟨(hex4 p).toArray⟩ = (⟨([34] ++ bodyA all (ps.take (i + 1))).toArray⟩ : ByteArray) by
            rw [HNX.out, hS, bytes_app, bytes_app]; simp)
          have hx4 : (⟨(hex4 p).toArray⟩ : ByteArray).size = 4 := rfl
          generalize (⟨(hex4 p).toArray⟩ : ByteArray) = H4 at *
          clear hesc HNX hsn hsl hcn
          replace CH := hid CH
          rcases hB with hB | hB | ⟨rfl, hB1, hB2⟩
          · have p1 : P < 32 := by omega
            replace hP := hid hP
            clear hB
            replace CL := hid CL
            replace hS := hid hS
            go_wp2_with fail
            refine (CL.out _).mono ?_
            rintro e w2 ⟨rfl, hb2⟩
            have HB2 := hid (below_trans HB.out hb2)
            clear hb2 CL
            go_wp2_with fail
            refine (CH.out _).mono ?_
            rintro e w3 ⟨rfl, hw3⟩
            rw [hw3]
            clear hw3 w3 CH
            go_wp2_with fail
            go_roundw
            case rel => exact ⟨HB2, i + 1, by omega, by go_num, by rw [HX.out]⟩
            case measure => simp [intOf]; omega
          · have p1 : ¬ P < 32 := by omega
            have p2 : (P == 127) = true := by rw [beq_iff_eq]; omega
            replace hP := hid hP
            clear hB
            replace CL := hid CL
            replace hS := hid hS
            go_wp2_with fail
            refine (CL.out _).mono ?_
            rintro e w2 ⟨rfl, hb2⟩
            have HB2 := hid (below_trans HB.out hb2)
            clear hb2 CL
            go_wp2_with fail
            refine (CH.out _).mono ?_
            rintro e w3 ⟨rfl, hw3⟩
            rw [hw3]
            clear hw3 w3 CH
            go_wp2_with fail
            go_roundw
            case rel => exact ⟨HB2, i + 1, by omega, by go_num, by rw [HX.out]⟩
            case measure => simp [intOf]; omega
          · have p1 : ¬ P < 32 := by omega
            have p2 : (P == 127) = false := by rw [beq_eq_false_iff_ne]; omega
            have p3 : P > 127 := by omega
            have p4 : P < 65536 := by omega
            replace hP := hid hP
            clear hB1 hB2
            replace CL := hid CL
            replace hS := hid hS
            go_wp2_with fail
            refine (CL.out _).mono ?_
            rintro e w2 ⟨rfl, hb2⟩
            have HB2 := hid (below_trans HB.out hb2)
            clear hb2 CL
            go_wp2_with fail
            refine (CH.out _).mono ?_
            rintro e w3 ⟨rfl, hw3⟩
            rw [hw3]
            clear hw3 w3 CH
            go_wp2_with fail
            go_roundw
            case rel => exact ⟨HB2, i + 1, by omega, by go_num, by rw [HX.out]⟩
            case measure => simp [intOf]; omega
        · by_cases hC : all = true ∧ 65536 ≤ p
          · obtain ⟨rfl, hC1⟩ := hC
            have hesc : escA true p = (92 :: 117 :: hex4 (55296 + (p - 65536) / 1024)) ++ 92 :: 117 :: hex4 (56320 + (p - 65536) % 1024) := by unfold escA; rw [if_neg (by rw [hsn]; decide), if_neg hB, if_pos ⟨rfl, hC1⟩]
            have CH1 := fun W => ref_Hex (55296 + (p - 65536) / 1024) W (by omega)
            have CH2 := fun W => ref_Hex (56320 + (p - 65536) % 1024) W (by omega)
            rw [show ((55296 + (p - 65536) / 1024 : Nat) : Int) = 55296 + (P - 65536) / 1024 by omega] at CH1
            rw [show ((56320 + (p - 65536) % 1024 : Nat) : Int) = 56320 + (P - 65536) % 1024 by omega] at CH2
            rw [hesc] at HNX
            generalize 55296 + (p - 65536) / 1024 = q1 at *
            generalize 56320 + (p - 65536) % 1024 = q2 at *
            have HX := hid (show S ++ ⟨#[92, 117]⟩ ++ ⟨(hex4 q1).toArray⟩ ++ ⟨#[92, 117]⟩ ++ ⟨(hex4 q2).toArray⟩ = (⟨([34] ++ bodyA true (ps.take (i + 1))).toArray⟩ : ByteArray) by
              rw [HNX.out, hS, bytes_app, bytes_app, bytes_app, bytes_app]; simp)
            have hx4 : (⟨(hex4 q1).toArray⟩ : ByteArray).size = 4 := rfl
            have hx5 : (⟨(hex4 q2).toArray⟩ : ByteArray).size = 4 := rfl
            generalize (⟨(hex4 q1).toArray⟩ : ByteArray) = H4 at *
            generalize (⟨(hex4 q2).toArray⟩ : ByteArray) = H5 at *
            clear hesc HNX hsn hsl hcn hB
            have p1 : ¬ P < 32 := by omega
            have p2 : (P == 127) = false := by rw [beq_eq_false_iff_ne]; omega
            have p3 : P > 127 := by omega
            have p4 : ¬ P < 65536 := by omega
            replace CH1 := hid CH1
            replace CH2 := hid CH2
            replace hP := hid hP
            clear hC1
            replace CL := hid CL
            replace hS := hid hS
            go_wp2_with fail
            refine (CL.out _).mono ?_
            rintro e w2 ⟨rfl, hb2⟩
            have HB2 := hid (below_trans HB.out hb2)
            clear hb2 CL
            go_wp2_with fail
            refine (CH1.out _).mono ?_
            rintro e w3 ⟨rfl, hw3⟩
            rw [hw3]
            clear hw3 w3 CH1
            go_wp2_with fail
            refine (CH2.out _).mono ?_
            rintro e w3 ⟨rfl, hw3⟩
            rw [hw3]
            clear hw3 w3 CH2
            go_wp2_with fail
            go_roundw
            case rel => exact ⟨HB2, i + 1, by omega, by go_num, by rw [HX.out]⟩
            case measure => simp [intOf]; omega
          · have hesc : escA all p = u8L (encN p) := by unfold escA; rw [if_neg (by rw [hsn]; decide), if_neg hB, if_neg hC]
            have CH := fun W => ref4_Bytes p W hpm
            rw [← hP] at CH
            rw [hesc] at HNX
            have HX := hid (show S ++ ⟨(bysN (encN p)).toArray⟩ = (⟨([34] ++ bodyA all (ps.take (i + 1))).toArray⟩ : ByteArray) by
              rw [HNX.out, hS, bytes_app]; simp [bysN, u8L])
            have hx4 : (⟨(bysN (encN p)).toArray⟩ : ByteArray).size ≤ 4 := encN8_len p
            generalize (⟨(bysN (encN p)).toArray⟩ : ByteArray) = H4 at *
            clear hesc HNX hsn hsl hcn
            have p1 : ¬ P < 32 := by omega
            have p2 : (P == 127) = false := by rw [beq_eq_false_iff_ne]; omega
            replace CH := hid CH
            cases all with
            | false =>
              clear hB hC
              replace hP := hid hP
              replace CL := hid CL
              replace hS := hid hS
              go_wp2_with fail
              refine (CL.out _).mono ?_
              rintro e w2 ⟨rfl, hb2⟩
              have HB2 := hid (below_trans HB.out hb2)
              clear hb2 CL
              go_wp2_with fail
              refine (CH.out _).mono ?_
              rintro e w3 ⟨rfl, hb3⟩
              have HB3 := hid (below_trans HB2.out hb3)
              clear hb3 CH
              go_wp2_with fail
              go_roundw
              case rel => exact ⟨HB3, i + 1, by omega, by go_num, by rw [HX.out]⟩
              case measure => simp [intOf]; omega
            | true =>
              have p3 : ¬ P > 127 := by simp at hB hC; omega
              clear hB hC
              replace hP := hid hP
              replace CL := hid CL
              replace hS := hid hS
              go_wp2_with fail
              refine (CL.out _).mono ?_
              rintro e w2 ⟨rfl, hb2⟩
              have HB2 := hid (below_trans HB.out hb2)
              clear hb2 CL
              go_wp2_with fail
              refine (CH.out _).mono ?_
              rintro e w3 ⟨rfl, hb3⟩
              have HB3 := hid (below_trans HB2.out hb3)
              clear hb3 CH
              go_wp2_with fail
              go_roundw
              case rel => exact ⟨HB3, i + 1, by omega, by go_num, by rw [HX.out]⟩
              case measure => simp [intOf]; omega
      · have hesc : escA all p = [92, UInt8.ofNat (shortN p)] := by unfold escA; rw [if_pos hsn]
        have ht1 := fun W => text_one (UInt8.ofNat (shortN p)) W
        have hcz : (((UInt8.ofNat (shortN p)).toNat : Int) != 0) = true := by rw [bne_iff_ne, hcn]; omega
        rw [hesc] at HNX
        have HX := hid (show S ++ ⟨#[92]⟩ ++ ⟨#[UInt8.ofNat (shortN p)]⟩ = (⟨([34] ++ bodyA all (ps.take (i + 1))).toArray⟩ : ByteArray) by
          rw [HNX.out, hS, bytes_app, bytes_app]; simp)
        generalize UInt8.ofNat (shortN p) = c at *
        replace CL := hid CL
        replace hS := hid hS
        replace hP := hid hP
        clear hesc HNX hsn hsl hcn
        go_wp2_with fail
        refine (CL.out _).mono ?_
        rintro e w2 ⟨rfl, hb2⟩
        have HB2 := hid (below_trans HB.out hb2)
        clear hb2 CL
        go_wp2_with fail
        go_roundw
        case rel => exact ⟨hid (HB2.out.alloc HB2.out.size _), i + 1, by omega, by go_num, by rw [HX.out]⟩
        case measure => simp [intOf]; omega
    · have hlt2 : ¬ (i : Int) < (n : Int) := by omega
      have hfull : ps.take i = ps := List.take_of_length_le (by rw [← hn.out]; omega)
      rw [hfull] at hS
      have HS := hid hS
      clear hS hfull hbt
      go_wp2_with fail
      go_ret
      refine ⟨?_, below_trans HB1.out HB.out⟩
      rw [HS.out, hQ2.out, ← bytes_app ([34] ++ bodyA all ps) [34]]
      rfl

end Go.Proofs.YtldhebpkplglcaaGreatDoor
