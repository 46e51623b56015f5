/- lorgnetteref20.Indices. -/
import Derived.Test.YtafeofgjmlhklaaGreatDoorCleanR
namespace Go.Proofs.YtafeofgjmlhklaaGreatDoor
open Go.RowKit

theorem nats_prefix (a b : List UInt8) : (nats a).isPrefixOf (nats b) = a.isPrefixOf b := by
  rw [Bool.eq_iff_iff, List.isPrefixOf_iff_prefix, List.isPrefixOf_iff_prefix]
  constructor
  · intro h
    have h1 := List.prefix_iff_eq_take.1 h
    rw [nats_length] at h1
    have h2 : nats a = nats (b.take a.length) := by rw [h1]; unfold nats; rw [List.map_take]
    rw [nats_inj h2]
    exact List.take_prefix _ _
  · rintro ⟨t, rfl⟩
    exact ⟨nats t, by unfold nats; rw [List.map_append]⟩
theorem idx_test {xs ys : List Nat} {X Y : List UInt8} (hx : ∀ p ∈ xs, isPt p) (hy : ∀ p ∈ ys, isPt p) (eX : nats X = encs xs) (eY : nats Y = encs ys) (k : Nat) (hA : (encs (xs.take k)).length ≤ X.length) :
    ys.isPrefixOf (xs.drop k) = (decide ((encs (xs.take k)).length + Y.length ≤ X.length) && decide ((X.drop (encs (xs.take k)).length).take Y.length = Y)) := by
  rw [idx_bytes hx hy, ← eX, ← eY, nats_drop, nats_prefix, pre_take, List.length_drop]
  congr 1
  rw [Bool.eq_iff_iff, decide_eq_true_eq, decide_eq_true_eq]
  omega
theorem row_cell {w : World} {b off : Nat} {xs : List Nat} (h : Row w (some ⟨b, off, none⟩) (i64s xs)) {j p : Nat} (hj : xs[j]? = some p) : w.cell? ⟨b, off + j, none⟩ = some (.int .i64 (p : Int)) := by
  obtain ⟨b', off', e, hc⟩ := row_at h hj
  injection e with e
  injection e with e1 e2 _
  subst e1 e2
  exact hc
theorem encs_take_le (xs : List Nat) (k : Nat) : (encs (xs.take k)).length ≤ (encs xs).length := by
  have h : encs xs = encs (xs.take k) ++ encs (xs.drop k) := by rw [← encs_app, List.take_append_drop]
  rw [h, List.length_append]
  omega

set_option maxRecDepth 100000 in
set_option maxHeartbeats 3200000 in
theorem ref20_Indices_core (xs ys : List Nat) (X Y : List UInt8) (sb tb : ByteArray) (w : World) (hxl : X.length ≤ 4194304) (hyl : Y.length ≤ 4194304) (hx : ∀ p ∈ xs, isPt p) (hy : ∀ p ∈ ys, isPt p) (eX : nats X = encs xs) (eY : nats Y = encs ys)
    (C1 : ∀ W, Calls Tryz.prog 44 #[.string sb] W fun e w' => e = .returned (.string ⟨X.toArray⟩) ∧ Below W.heap.size W w')
    (C2 : ∀ W, Calls Tryz.prog 44 #[.string tb] W fun e w' => e = .returned (.string ⟨Y.toArray⟩) ∧ Below W.heap.size W w')
    (C3 : ∀ W, Calls Tryz.prog 47 #[.string ⟨X.toArray⟩] W fun e w' => ∃ a cap, e = .returned (.slice a xs.length cap) ∧ Below W.heap.size W w' ∧ w'.ownsRow W.heap.size 3 1 (.slice a xs.length cap) xs.length (i64s xs)) :
    Calls Tryz.prog 18 #[.string sb, .string tb] w fun e w' => ∃ a cap, e = .returned (.slice a (idxP xs ys).length cap) ∧ Below w.heap.size w w' ∧ w'.ownsRow w.heap.size 3 1 (.slice a (idxP xs ys).length cap) (idxP xs ys).length (i64s (idxP xs ys)) := by
  have hpl : xs.length ≤ X.length := by
    have := encs_len xs
    rw [← eX, nats_length] at this
    exact this
  have hYe : ys = [] ↔ Y = [] := by
    constructor
    · rintro rfl
      simpa [encs, nats] using eY
    · rintro rfl
      cases ys with
      | nil => rfl
      | cons p ys =>
        rw [encs_cons] at eY
        have := encN_pos p
        have := congrArg List.length eY
        simp [nats] at this
        omega
  obtain ⟨xb, hxb⟩ : ∃ xb : ByteArray, xb = ⟨X.toArray⟩ := ⟨_, rfl⟩
  obtain ⟨yb, hyb⟩ : ∃ yb : ByteArray, yb = ⟨Y.toArray⟩ := ⟨_, rfl⟩
  rw [← hxb] at C1 C3
  rw [← hyb] at C2
  have hz1 : xb.size = X.length := by rw [hxb]; rfl
  have hz2 : yb.size = Y.length := by rw [hyb]; rfl
  have hemp : yb.toList.isEmpty = decide (Y = []) := by
    rw [hyb, ByteArray.toList_eq, Bool.eq_iff_iff, decide_eq_true_eq]
    simp
  replace hxb := hid hxb
  replace hyb := hid hyb
  replace C1 := hid C1
  replace C2 := hid C2
  replace C3 := hid C3
  have HX := hid hx
  have HY := hid hy
  have EX := hid eX
  have EY := hid eY
  clear hx hy eX eY
  go_enter Tryz.func18, Tryz.ntmps18
  by_cases hy0 : ys = []
  · have hI : Hid (idxP xs ys = []) := by show _ = _; rw [idxP, if_pos hy0]
    rw [decide_eq_true (hYe.1 hy0)] at hemp
    clear hYe hy0
    go_wp2_with fail
    refine (C1.out _).mono ?_
    rintro e w1 ⟨rfl, hb1⟩
    have HB1 := hid hb1
    clear hb1
    go_wp2_with fail
    refine (C2.out _).mono ?_
    rintro e w2 ⟨rfl, hb2⟩
    have HB2 := hid (below_trans HB1.out hb2)
    clear hb2
    go_wp2_with fail
    go_ret
    rw [hI.out]
    exact ⟨none, 0, rfl, HB2.out, World.ownsRow_nil _ _ _ _⟩
  · have hYn : Y ≠ [] := fun h => hy0 (hYe.2 h)
    have hYp : 0 < Y.length := List.length_pos_iff.2 hYn
    have hI : Hid (idxP xs ys = idxT xs ys xs.length) := by show _ = _; rw [idxP, if_neg hy0]; rfl
    rw [decide_eq_false hYn] at hemp
    clear hYe hy0 hYn
    go_wp2_with fail
    refine (C1.out _).mono ?_
    rintro e w1 ⟨rfl, hb1⟩
    have HB1 := hid hb1
    clear hb1
    go_wp2_with fail
    refine (C2.out _).mono ?_
    rintro e w2 ⟨rfl, hb2⟩
    have HB2 := hid (below_trans HB1.out hb2)
    clear hb2
    go_wp2_with fail
    refine (C3.out _).mono ?_
    rintro e w3 ⟨ap, cp, rfl, hb3, ho3⟩
    obtain ⟨_, _, e3, hr, _⟩ := owns_row ho3
    injection e3 with e3 _ e5
    subst e3 e5
    have HB3 := hid (below_trans HB2.out hb3)
    have HR := hid hr
    have hszw3 := HB3.out.size
    clear ho3 hr hb3 C1 C2 C3
    go_wp2_with fail
    go_loopw [7, 9, 10] (fun v7 v9 v10 wr => ∃ k : Nat, v9 = .int .i64 ((encs (xs.take k)).length : Nat) ∧ v10 = .int .i64 (k : Nat) ∧ k ≤ xs.length ∧ wr.ownsRow w3.heap.size 3 1 v7 (idxT xs ys k).length (i64s (idxT xs ys k)) ∧ Below w3.heap.size w3 wr) (fun _ _ v10 _ => xs.length - (intOf v10).toNat)
    case atStart => exact ⟨0, rfl, rfl, Nat.zero_le _, World.ownsRow_nil _ _ _ _, Below.refl _ _⟩
    case round =>
      obtain ⟨k, rfl, rfl, hk, hown, hb⟩ := hrel
      have HO := hid hown
      have HB := hid hb
      have hszr := hb.size
      have hil := idxT_le xs ys k
      clear hown hb
      by_cases hke : k = xs.length
      · have HO2 := HO.out
        rw [hke, ← hI.out] at HO2
        replace HO2 := hid HO2
        subst hke
        go_wp2_with fail
        go_ret
        obtain ⟨a, cap, rfl, _, _⟩ := owns_row HO2.out
        exact ⟨a, cap, rfl, below_trans HB3.out HB.out, owns_from HO2.out hszw3⟩
      · have hkl : k < xs.length := by omega
        have hAle : (encs (xs.take k)).length ≤ X.length := by
          have := encs_take_le xs k
          rw [← EX.out, nats_length] at this
          exact this
        have htest := idx_test HX.out HY.out EX.out EY.out k hAle
        have hstep := hid (idxT_step xs ys k)
        obtain ⟨p, hp⟩ : ∃ p, xs[k]? = some p := ⟨_, List.getElem?_eq_getElem hkl⟩
        have hA2 : Hid ((encs (xs.take (k + 1))).length = (encs (xs.take k)).length + (encN p).length) := by
          show _ = _
          rw [List.take_add_one, hp, Option.toList_some, encs_app, List.length_append]
          simp [encs]
        have hpp : p ≤ 1114111 := by
          have h := HX.out p (List.mem_of_getElem? hp)
          unfold isPt at h
          omega
        have hep := encN_pos p
        have CB := fun W => ref4_Bytes p W hpp
        have hbz : (⟨(bysN (encN p)).toArray⟩ : ByteArray).size = (encN p).length := by
          show (bysN (encN p)).length = _
          unfold bysN
          rw [List.length_map]
        generalize (⟨(bysN (encN p)).toArray⟩ : ByteArray) = pb at *
        generalize (encN p).length = np at *
        have hA2le : (encs (xs.take (k + 1))).length ≤ X.length := by
          have := encs_take_le xs (k + 1)
          rw [← EX.out, nats_length] at this
          exact this
        rw [hA2.out] at hA2le
        generalize (encs (xs.take k)).length = A at *
        have HP := hid hp
        replace CB := hid CB
        obtain ⟨L, hL⟩ : ∃ L, L = idxT xs ys k := ⟨_, rfl⟩
        rw [← hL] at HO hil hstep
        clear hL hp hpp
        have hw2 : IntKind.i64.wrap ((A : Int) + (np : Nat)) = ((A + np : Nat) : Int) := by rw [IntWalk.i64_in _ (by omega)]; omega
        obtain ⟨bb, off, rfl, hcell⟩ := row_at (HR.out.below HB.out) HP.out
        by_cases hroom : A + Y.length ≤ X.length
        · have hr1 : (A : Int) + (Y.length : Nat) ≤ (X.length : Nat) := by omega
          have hw1 : IntKind.i64.wrap ((A : Int) + (Y.length : Nat)) = ((A + Y.length : Nat) : Int) := by rw [IntWalk.i64_in _ (by omega)]; omega
          have hq : ((xb.extract A (A + Y.length)).toList == yb.toList) = ys.isPrefixOf (xs.drop k) := by
            rw [hxb.out, hyb.out, extract_gen, bytes_beq, Nat.add_sub_cancel_left, htest, decide_eq_true hroom, Bool.true_and]
          clear htest
          cases hpre : ys.isPrefixOf (xs.drop k) with
          | true =>
            rw [hpre] at hq
            have hst := hstep.out
            rw [hpre, if_pos rfl] at hst
            replace hst := hid hst
            clear hpre
            have hown2 := HO.out
            go_wp2_with (at_builtin; refine wpList_push intSlice rfl _ _ rfl w3.heap.size (w0 := wr) hown2 rfl rfl rfl (by unfold maxLen; omega) (by omega) hszr ?_; intro v' w4 hown' hb'; have hcell4 := row_cell (HR.out.below (HB.out.trans hb')) HP.out)
            have HOx := hid (show w4.ownsRow w3.heap.size 3 1 v' (idxT xs ys (k + 1)).length (i64s (idxT xs ys (k + 1))) by
              rw [hst.out, i64s_app, List.length_append]; exact hown')
            have HBx := hid (HB.out.trans hb')
            clear hown' hb' hown2
            refine (CB.out _).mono ?_
            rintro e w5 ⟨rfl, hb5⟩
            have HO5 := hid (owns_below HOx.out hb5)
            have HB5 := hid (below_trans HBx.out hb5)
            clear hb5 hcell
            go_wp2_with fail
            go_roundw
            case rel => exact ⟨k + 1, by rw [hA2.out]; go_num, by go_num, by omega, HO5.out, HB5.out⟩
            case measure => simp [intOf]; omega
          | false =>
            rw [hpre] at hq
            have hst := hstep.out
            rw [hpre, if_neg (by simp), List.append_nil] at hst
            have HOx := hid (show wr.ownsRow w3.heap.size 3 1 _ (idxT xs ys (k + 1)).length (i64s (idxT xs ys (k + 1))) by rw [hst]; exact HO.out)
            have HBx := HB
            clear hst hpre
            go_wp2_with fail
            refine (CB.out _).mono ?_
            rintro e w5 ⟨rfl, hb5⟩
            have HO5 := hid (owns_below HOx.out hb5)
            have HB5 := hid (below_trans HBx.out hb5)
            clear hb5 hcell
            go_wp2_with fail
            go_roundw
            case rel => exact ⟨k + 1, by rw [hA2.out]; go_num, by go_num, by omega, HO5.out, HB5.out⟩
            case measure => simp [intOf]; omega
        · have hr1 : ¬ ((A : Int) + (Y.length : Nat) ≤ (X.length : Nat)) := by omega
          have hw1 : IntKind.i64.wrap ((A : Int) + (Y.length : Nat)) = (A : Int) + (Y.length : Nat) := IntWalk.i64_in _ (by omega)
          rw [decide_eq_false hroom, Bool.false_and] at htest
          have hst := hstep.out
          rw [htest, if_neg (by simp), List.append_nil] at hst
          have HOx := hid (show wr.ownsRow w3.heap.size 3 1 _ (idxT xs ys (k + 1)).length (i64s (idxT xs ys (k + 1))) by rw [hst]; exact HO.out)
          have HBx := HB
          clear hst htest
          go_wp2_with fail
          refine (CB.out _).mono ?_
          rintro e w5 ⟨rfl, hb5⟩
          have HO5 := hid (owns_below HOx.out hb5)
          have HB5 := hid (below_trans HBx.out hb5)
          clear hb5 hcell
          go_wp2_with fail
          go_roundw
          case rel => exact ⟨k + 1, by rw [hA2.out]; go_num, by go_num, by omega, HO5.out, HB5.out⟩
          case measure => simp [intOf]; omega

/-- lorgnetteref20.Indices. -/
theorem ref20_Indices (s t : List UInt8) (w : World) (hs : s.length ≤ 1048576) (ht : t.length ≤ 1048576) :
    Calls Tryz.prog 18 #[.string ⟨s.toArray⟩, .string ⟨t.toArray⟩] w fun e w' => ∃ a cap, e = .returned (.slice a (idxP (pts s) (pts t)).length cap) ∧ Below w.heap.size w w' ∧ w'.ownsRow w.heap.size 3 1 (.slice a (idxP (pts s) (pts t)).length cap) (idxP (pts s) (pts t)).length (i64s (idxP (pts s) (pts t))) := by
  have h1 := clean_len s
  have h2 := clean_len t
  refine ref20_Indices_core (pts s) (pts t) (cleanL s) (cleanL t) _ _ w (by omega) (by omega) (pts_pt _ s (Nat.le_refl _)) (pts_pt _ t (Nat.le_refl _)) (nats_clean s) (nats_clean t) (fun W => ref4_Clean s W (by omega)) (fun W => ref4_Clean t W (by omega)) (fun W => ?_)
  have := ref4_ExplodeAny (cleanL s) W (by omega)
  rw [pts_clean] at this
  exact this

end Go.Proofs.YtafeofgjmlhklaaGreatDoor
