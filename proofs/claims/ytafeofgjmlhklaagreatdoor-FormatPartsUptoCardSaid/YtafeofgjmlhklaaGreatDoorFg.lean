/- format.Case and lorgnetteref20.Case. lorgnetteref20.Case. -/
import Derived.Test.YtafeofgjmlhklaaGreatDoorFb
namespace Go.Proofs.YtafeofgjmlhklaaGreatDoor
open Go.RowKit

/-- Bytes of the call's own that may be written. -/
def CBs (w : World) (B : Nat) (L : List UInt8) : Prop := ∀ (j : Nat) (c : UInt8), L[j]? = some c → w.cell? ⟨B, j, none⟩ = some (.int .u8 c.toNat) ∧ w.frozen? ⟨B, j, none⟩ = false
theorem CBs.set {w : World} {B : Nat} {L : List UInt8} (h : CBs w B L) {k : Nat} (hk : k < L.length) (d : UInt8) : CBs (w.setCell ⟨B, k, none⟩ (.int .u8 d.toNat)) B (L.set k d) := by
  intro j c hj
  rw [List.getElem?_set] at hj
  by_cases hjk : k = j
  · subst hjk
    rw [if_pos rfl, if_pos hk] at hj
    obtain rfl := Option.some.inj hj
    obtain ⟨h1, h2⟩ := h k L[k] (List.getElem?_eq_getElem hk)
    exact ⟨World.cell?_setCell_same _ _ _ h1, by simpa using h2⟩
  · rw [if_neg hjk] at hj
    obtain ⟨h1, h2⟩ := h j c hj
    refine ⟨?_, by simpa using h2⟩
    rw [World.cell?_setCell_other]
    · exact h1
    · intro e; injection e with _ e2 _; exact hjk e2
section
variable {P : Program} {o : Oper} {a : Act} {Q : Exit → Act → World → Prop}
theorem upon_bytesW {w : World} {K : Act → World → Prop} {src dst e : TypeId} (hs : P.underlying src = some .string) (hd : P.underlying dst = some (.slice e)) (he : P.underlying e = some (.int .u8)) {l : List UInt8}
    (hK : ∀ cap w', CBs w' w.heap.size l → Below w.heap.size w w' → w.heap.size < w'.heap.size → K (a.put o.dst (.slice (some ⟨w.heap.size, 0, none⟩) l.length cap)) w') :
    Oper.upon P o a K Q (((convert src dst (.string ⟨l.toArray⟩)).run P w).andThen fun v w' => .ok (Next.value v) w') := by
  have hrun := run_bytes_of_string (P := P) w src dst e ⟨l.toArray⟩ hs hd he
  have h1 := grownCap_ge w l.length 0 e
  have hsz : (⟨l.toArray⟩ : ByteArray).size = l.length := rfl
  rw [hsz] at hrun
  obtain ⟨cap, hcap⟩ : ∃ cap, cap = grownCap w l.length 0 e := ⟨_, rfl⟩
  rw [← hcap] at hrun h1
  rw [hrun]
  simp only [Result.andThen]
  have hbs : (bytesRow (⟨l.toArray⟩ : ByteArray) cap).size ≥ l.length := by
    unfold bytesRow
    simp
  refine hK cap _ ?_ (((Below.refl _ w).drew).alloc (Nat.le_refl _) _) (by simp)
  intro j c hj
  have hj2 : j < l.length := (List.getElem?_eq_some_iff.1 hj).1
  constructor
  · refine (World.cell?_alloc_mark w.drew _ e _ j).trans ?_
    unfold bytesRow
    rw [Array.getElem?_append_left (by simpa using hj2)]
    simp [hj]
  · refine (World.frozen?_alloc_mark w.drew _ e _ _ j).trans ?_
    have : decide ((bytesRow (⟨l.toArray⟩ : ByteArray) cap).size ≤ j) = false := by simp; omega
    rw [this]; rfl
end
theorem set_same {L : List UInt8} {k : Nat} {c : UInt8} (h : L[k]? = some c) : L.set k c = L := by
  apply List.ext_getElem?
  intro j
  rw [List.getElem?_set]
  by_cases hj : k = j
  · subst hj
    rw [if_pos rfl, if_pos (List.getElem?_eq_some_iff.1 h).1, h]
  · rw [if_neg hj]
def caseL (up : Bool) (s : List UInt8) : List UInt8 := s.map (caseB up)
theorem xor32 (c : UInt8) : bits BinOp.xor IntKind.u8 (c.toNat : Int) 32 = (((c ^^^ 32).toNat : Nat) : Int) := by
  have h : ∀ n : Nat, n < 256 → bits BinOp.xor IntKind.u8 (n : Int) 32 = (((UInt8.ofNat n ^^^ 32).toNat : Nat) : Int) := by decide +kernel
  have := h c.toNat (u8_lt c)
  rwa [UInt8.ofNat_toNat] at this

set_option maxRecDepth 100000 in
set_option maxHeartbeats 3200000 in
theorem format_Case (s : List UInt8) (up : Bool) (w : World) (hs : s.length ≤ 17592186044415) :
    Calls Tryz.prog 22 #[.string ⟨s.toArray⟩, .bool up] w fun e w' => e = .returned (.string ⟨(caseL up s).toArray⟩) ∧ Below w.heap.size w w' := by
  have hsz : (⟨s.toArray⟩ : ByteArray).size = s.length := rfl
  obtain ⟨T, hT⟩ : ∃ T, T = caseL up s := ⟨_, rfl⟩
  rw [← hT]
  have hTl : T.length = s.length := by rw [hT]; simp [caseL]
  replace hT := hid hT
  go_enter Tryz.func22, Tryz.ntmps22
  go_wp2_with fail
  refine upon_bytesW Tryz.underlying9 Tryz.underlying66 Tryz.underlying5 ?_
  intro cap w1 hcb hb1 hlt1
  have HCB := hid hcb
  have HB1 := hid hb1
  clear hcb hb1
  have hCV : ∀ W, CBs W w.heap.size T → (convert 66 9 (.slice (some ⟨w.heap.size, 0, none⟩) s.length cap)).run Tryz.prog W = .ok (.string ⟨T.toArray⟩) W := by
    intro W hW
    rw [← hTl]
    exact run_convert_bytes_back (P := Tryz.prog) W 66 9 5 ⟨w.heap.size, 0, none⟩ cap T Tryz.underlying66 Tryz.underlying5 Tryz.underlying9 (fun j hj => by
      rw [Addr.add_lit, Nat.zero_add]; exact (hW j T[j] (List.getElem?_eq_getElem hj)).1)
  replace hCV := hid hCV
  go_wp2_with fail
  go_loopw [12] (fun v wr => ∃ k : Nat, v = .int .i64 (k : Nat) ∧ k ≤ s.length ∧ CBs wr w.heap.size (caseL up (s.take k) ++ s.drop k) ∧ Below w.heap.size w wr ∧ w.heap.size < wr.heap.size) (fun v _ => s.length - (intOf v).toNat)
  case atStart => exact ⟨0, rfl, Nat.zero_le _, by simpa [caseL] using HCB.out, HB1.out, hlt1⟩
  case round =>
    obtain ⟨k, rfl, hk, hc, hb, hlt⟩ := hrel
    have HC := hid hc
    have HB := hid hb
    clear hc hb
    by_cases hke : k = s.length
    · have hconv := hCV.out wr (by rw [hT.out]; have := HC.out; rw [hke, List.take_length, List.drop_length, List.append_nil] at this; exact this)
      go_wp2_with fail
      go_ret
      exact ⟨rfl, HB.out⟩
    · have hkl : k < s.length := by omega
      obtain ⟨c, hc⟩ : ∃ c, s[k]? = some c := ⟨s[k], List.getElem?_eq_getElem hkl⟩
      have hd : s.drop k = c :: s.drop (k + 1) := by
        rw [List.drop_eq_getElem_cons hkl]
        rw [List.getElem?_eq_getElem hkl] at hc
        rw [Option.some.inj hc]
      have hl1 : (caseL up (s.take k)).length = k := by simp [caseL]; omega
      have hat : (caseL up (s.take k) ++ s.drop k)[k]? = some c := by
        rw [List.getElem?_append_right (by omega), hl1, Nat.sub_self, hd]; rfl
      obtain ⟨c0, f0⟩ := HC.out k c hat
      have hnext : Hid (caseL up (s.take (k + 1)) ++ s.drop (k + 1) = (caseL up (s.take k) ++ s.drop k).set k (caseB up c)) := by
        show _ = _
        rw [List.take_add_one, hc, hd]
        unfold caseL
        rw [List.set_append_right _ _ (by simp; omega)]
        simp [Nat.min_eq_left hk]
      have hset := HC.out.set (k := k) (by rw [List.length_append, hl1, List.length_drop]; omega) (caseB up c)
      rw [← hnext.out] at hset
      have hsame : Hid (caseB up c = c → CBs wr w.heap.size (caseL up (s.take (k + 1)) ++ s.drop (k + 1))) := by
        intro e
        rw [hnext.out, e]
        have := HC.out
        rwa [set_same hat]
      have hx := xor32 c
      have hcx := caseB_xor up c
      replace hset := hid hset
      clear hat hd hl1 hc
      have hb0 : (0 : Int) ≤ c.toNat := Int.natCast_nonneg _
      go_upto_region 5 with fail
      go_cut [37] from 17 to 37 (fun v w' => v = .bool (decide ((up = true ∧ 97 ≤ c.toNat ∧ c.toNat ≤ 122) ∨ (up = false ∧ 65 ≤ c.toNat ∧ c.toNat ≤ 90))) ∧ wr = w')
      case first =>
        clear hcx hx c0 f0 hTl hsz
        cases up with
        | true =>
          obtain ha | ⟨ha, ha2⟩ | ha : ((c.toNat : Int) < 97) ∨ ((97 : Int) ≤ c.toNat ∧ (c.toNat : Int) ≤ 122) ∨ ((122 : Int) < c.toNat) := by omega
          all_goals
            go_wp2_with fail
            go_meet
            case rel =>
              refine ⟨?_, rfl⟩
              congr 1
              rw [Bool.eq_iff_iff]
              simp
              omega
        | false =>
          obtain ha | ⟨ha, ha2⟩ | ha : ((c.toNat : Int) < 65) ∨ ((65 : Int) ≤ c.toNat ∧ (c.toNat : Int) ≤ 90) ∨ ((90 : Int) < c.toNat) := by omega
          all_goals
            go_wp2_with fail
            go_meet
            case rel =>
              refine ⟨?_, rfl⟩
              congr 1
              rw [Bool.eq_iff_iff]
              simp
              omega
      case rest =>
        obtain ⟨rfl, rfl⟩ := hcut
        by_cases ht : (up = true ∧ 97 ≤ c.toNat ∧ c.toNat ≤ 122) ∨ (up = false ∧ 65 ≤ c.toNat ∧ c.toNat ≤ 90)
        · rw [if_pos ht] at hcx
          have hb2 : Hid (Below w.heap.size w (wr.setCell ⟨w.heap.size, k, none⟩ (.int .u8 (caseB up c).toNat))) := HB.out.setCell (p := ⟨w.heap.size, k, none⟩) (Nat.le_refl _) _
          have hsz2 : Hid (w.heap.size < (wr.setCell ⟨w.heap.size, k, none⟩ (.int .u8 (caseB up c).toNat)).heap.size) := by
            show _ < _
            simpa [World.setCell] using hlt
          have hdt : decide ((up = true ∧ 97 ≤ c.toNat ∧ c.toNat ≤ 122) ∨ (up = false ∧ 65 ≤ c.toNat ∧ c.toNat ≤ 90)) = true := decide_eq_true ht
          rw [hdt]
          rw [hcx] at hset hb2 hsz2
          clear hcx ht hdt hsame hnext
          go_wp2_with fail
          go_roundw
          case rel => exact ⟨k + 1, by go_num, by omega, hset.out, hb2.out, hsz2.out⟩
          case measure => simp [intOf]; omega
        · rw [if_neg ht] at hcx
          have hc2 := hid (hsame.out hcx)
          have hdt : decide ((up = true ∧ 97 ≤ c.toNat ∧ c.toNat ≤ 122) ∨ (up = false ∧ 65 ≤ c.toNat ∧ c.toNat ≤ 90)) = false := decide_eq_false ht
          rw [hdt]
          clear hcx ht hdt hsame hnext hset
          go_wp2_with fail
          go_roundw
          case rel => exact ⟨k + 1, by go_num, by omega, hc2.out, HB.out, hlt⟩
          case measure => simp [intOf]; omega

end Go.Proofs.YtafeofgjmlhklaaGreatDoor

namespace Go.Proofs.YtafeofgjmlhklaaGreatDoor
open Go.RowKit

theorem conv_own (v : Value) (n B : Nat) (L : List UInt8) (W : World) (hn : n = L.length) (h : W.ownsRow B 5 1 v n (Lib.byteCells L)) : (convert 66 9 v).run Tryz.prog W = .ok (.string ⟨L.toArray⟩) W := by
  subst hn
  rcases h.2 with ⟨rfl, h0⟩ | ⟨g, cap, cur, rfl, hB, hg, hc1, hc2, hc3, ht⟩
  · obtain rfl := List.length_eq_zero_iff.1 h0
    rw [run_convert_bytes_string (P := Tryz.prog) W 66 9 5 none 0 0 Tryz.underlying66 Tryz.underlying5 Tryz.underlying9]
    rfl
  · exact run_convert_bytes_back (P := Tryz.prog) W 66 9 5 ⟨g, 0, none⟩ cap L Tryz.underlying66 Tryz.underlying5 Tryz.underlying9 (fun j hj => by
      rw [Addr.add_lit, Nat.zero_add, Lib.cell_of_heap hg]
      have h1 : (Lib.byteCells L)[j]? = some (.int .u8 (L[j].toNat : Int)) := by simp [Lib.byteCells, hj]
      rw [← ht, List.getElem?_take] at h1
      split at h1
      · simpa using h1
      · cases h1)

theorem case_val_true (c : UInt8) (h1 : 97 ≤ c.toNat) (h2 : c.toNat ≤ 122) : ((caseB true c).toNat : Int) = c.toNat - 32 := by
  have h : ∀ n : Nat, n < 256 → 97 ≤ n → n ≤ 122 → ((caseB true (UInt8.ofNat n)).toNat : Int) = n - 32 := by decide +kernel
  have := h c.toNat (u8_lt c) h1 h2
  rwa [UInt8.ofNat_toNat] at this
theorem case_val_true_no (c : UInt8) (h : c.toNat < 97 ∨ 122 < c.toNat) : ((caseB true c).toNat : Int) = c.toNat := by
  unfold caseB
  rw [if_neg (by omega), if_neg (by simp)]
theorem case_val_false (c : UInt8) (h1 : 65 ≤ c.toNat) (h2 : c.toNat ≤ 90) : ((caseB false c).toNat : Int) = c.toNat + 32 := by
  have h : ∀ n : Nat, n < 256 → 65 ≤ n → n ≤ 90 → ((caseB false (UInt8.ofNat n)).toNat : Int) = n + 32 := by decide +kernel
  have := h c.toNat (u8_lt c) h1 h2
  rwa [UInt8.ofNat_toNat] at this
theorem case_val_false_no (c : UInt8) (h : c.toNat < 65 ∨ 90 < c.toNat) : ((caseB false c).toNat : Int) = c.toNat := by
  unfold caseB
  rw [if_neg (by simp), if_neg (by omega)]

set_option maxRecDepth 100000 in
set_option maxHeartbeats 6400000 in
theorem ref20_Case (s : List UInt8) (up : Bool) (w : World) (hs : s.length ≤ 17592186044415) :
    Calls Tryz.prog 23 #[.string ⟨s.toArray⟩, .bool up] w fun e w' => e = .returned (.string ⟨(caseL up s).toArray⟩) ∧ Below w.heap.size w w' := by
  have hsz : (⟨s.toArray⟩ : ByteArray).size = s.length := rfl
  obtain ⟨T, hT⟩ : ∃ T, T = caseL up s := ⟨_, rfl⟩
  rw [← hT]
  replace hT := hid hT
  obtain ⟨sb, hsb⟩ : ∃ sb : ByteArray, sb = ⟨s.toArray⟩ := ⟨_, rfl⟩
  rw [← hsb] at hsz ⊢
  have hix : ∀ (k : Nat) (h : k < sb.size), sb[k]'h = s.getD k 0 := by
    subst hsb
    intro k h
    have hk : k < s.length := h
    show s.toArray[k]'_ = _
    rw [List.getElem_toArray, List.getD_eq_getElem?_getD, List.getElem?_eq_getElem hk]
    rfl
  replace hsb := hid hsb
  go_enter Tryz.func23, Tryz.ntmps23
  go_wp2_with fail
  go_loopw [5, 6] (fun v i wr => ∃ k : Nat, i = .int .i64 (k : Nat) ∧ k ≤ s.length ∧ wr.ownsRow w.heap.size 5 1 v k (Lib.byteCells (caseL up (s.take k))) ∧ Below w.heap.size w wr) (fun _ i _ => s.length - (intOf i).toNat)
  case atStart => exact ⟨0, rfl, Nat.zero_le _, World.ownsRow_nil _ _ _ _, Below.refl _ _⟩
  case round =>
    obtain ⟨k, rfl, hk, hown, hb⟩ := hrel
    have HO := hid hown
    have HB := hid hb
    have hszw := hb.size
    clear hown hb
    by_cases hke : k = s.length
    · have HO2 := HO.out
      rw [hke, List.take_length, ← hT.out] at HO2
      have hconv := conv_own _ _ _ T wr (by rw [hT.out]; simp [caseL]) HO2
      clear HO2
      subst hke
      go_wp2_with fail
      go_ret
      exact ⟨rfl, HB.out⟩
    · have hkl : k < s.length := by omega
      have hkz : k < sb.size := by omega
      obtain ⟨c, hc⟩ : ∃ c, c = s.getD k 0 := ⟨_, rfl⟩
      have hat : s[k]? = some c := by rw [hc, List.getD_eq_getElem?_getD, List.getElem?_eq_getElem hkl]; rfl
      have hbyte : sb[k]'hkz = c := by rw [hix, hc]
      have HN : Hid (Lib.byteCells (caseL up (s.take (k + 1))) = Lib.byteCells (caseL up (s.take k)) ++ [.int .u8 (caseB up c).toNat]) := by
        show _ = _
        rw [List.take_add_one, hat]
        unfold caseL
        rw [Option.toList_some, List.map_append, Lib.byteCells_append]
        rfl
      clear hc hat
      obtain ⟨X, hX⟩ : ∃ X, X = Lib.byteCells (caseL up (s.take k)) := ⟨_, rfl⟩
      rw [← hX] at HO HN
      clear hX hix
      have hcl := u8_lt c
      cases up with
      | true =>
        obtain ha | ⟨ha, ha2⟩ | ha : ((c.toNat : Int) < 97) ∨ ((97 : Int) ≤ c.toNat ∧ (c.toNat : Int) ≤ 122) ∨ ((122 : Int) < c.toNat) := by omega
        · rw [show ((caseB true c).toNat : Int) = c.toNat from case_val_true_no c (by omega)] at HN
          go_wp2_with (at_builtin; refine wpList_push u8Slice rfl _ _ rfl w.heap.size (w0 := wr) HO.out rfl rfl rfl (by unfold maxLen; omega) (by omega) hszw ?_; intro v' w3 hown' hb')
          rw [← HN.out] at hown'
          have HOW := hid hown'
          have HB3 := hid (HB.out.trans hb')
          clear hown' hb'
          go_wp2_with fail
          go_roundw
          case rel => exact ⟨k + 1, by go_num, by omega, HOW.out, HB3.out⟩
          case measure => simp [intOf]; omega
        · rw [show ((caseB true c).toNat : Int) = c.toNat - 32 from case_val_true c (by omega) (by omega)] at HN
          go_wp2_with (at_builtin; refine wpList_push u8Slice rfl _ _ rfl w.heap.size (w0 := wr) HO.out rfl rfl rfl (by unfold maxLen; omega) (by omega) hszw ?_; intro v' w3 hown' hb')
          rw [← HN.out] at hown'
          have HOW := hid hown'
          have HB3 := hid (HB.out.trans hb')
          clear hown' hb'
          go_wp2_with fail
          go_roundw
          case rel => exact ⟨k + 1, by go_num, by omega, HOW.out, HB3.out⟩
          case measure => simp [intOf]; omega
        · rw [show ((caseB true c).toNat : Int) = c.toNat from case_val_true_no c (by omega)] at HN
          go_wp2_with (at_builtin; refine wpList_push u8Slice rfl _ _ rfl w.heap.size (w0 := wr) HO.out rfl rfl rfl (by unfold maxLen; omega) (by omega) hszw ?_; intro v' w3 hown' hb')
          rw [← HN.out] at hown'
          have HOW := hid hown'
          have HB3 := hid (HB.out.trans hb')
          clear hown' hb'
          go_wp2_with fail
          go_roundw
          case rel => exact ⟨k + 1, by go_num, by omega, HOW.out, HB3.out⟩
          case measure => simp [intOf]; omega
      | false =>
        obtain ha | ⟨ha, ha2⟩ | ha : ((c.toNat : Int) < 65) ∨ ((65 : Int) ≤ c.toNat ∧ (c.toNat : Int) ≤ 90) ∨ ((90 : Int) < c.toNat) := by omega
        · rw [show ((caseB false c).toNat : Int) = c.toNat from case_val_false_no c (by omega)] at HN
          go_wp2_with (at_builtin; refine wpList_push u8Slice rfl _ _ rfl w.heap.size (w0 := wr) HO.out rfl rfl rfl (by unfold maxLen; omega) (by omega) hszw ?_; intro v' w3 hown' hb')
          rw [← HN.out] at hown'
          have HOW := hid hown'
          have HB3 := hid (HB.out.trans hb')
          clear hown' hb'
          go_wp2_with fail
          go_roundw
          case rel => exact ⟨k + 1, by go_num, by omega, HOW.out, HB3.out⟩
          case measure => simp [intOf]; omega
        · rw [show ((caseB false c).toNat : Int) = c.toNat + 32 from case_val_false c (by omega) (by omega)] at HN
          go_wp2_with (at_builtin; refine wpList_push u8Slice rfl _ _ rfl w.heap.size (w0 := wr) HO.out rfl rfl rfl (by unfold maxLen; omega) (by omega) hszw ?_; intro v' w3 hown' hb')
          rw [← HN.out] at hown'
          have HOW := hid hown'
          have HB3 := hid (HB.out.trans hb')
          clear hown' hb'
          go_wp2_with fail
          go_roundw
          case rel => exact ⟨k + 1, by go_num, by omega, HOW.out, HB3.out⟩
          case measure => simp [intOf]; omega
        · rw [show ((caseB false c).toNat : Int) = c.toNat from case_val_false_no c (by omega)] at HN
          go_wp2_with (at_builtin; refine wpList_push u8Slice rfl _ _ rfl w.heap.size (w0 := wr) HO.out rfl rfl rfl (by unfold maxLen; omega) (by omega) hszw ?_; intro v' w3 hown' hb')
          rw [← HN.out] at hown'
          have HOW := hid hown'
          have HB3 := hid (HB.out.trans hb')
          clear hown' hb'
          go_wp2_with fail
          go_roundw
          case rel => exact ⟨k + 1, by go_num, by omega, HOW.out, HB3.out⟩
          case measure => simp [intOf]; omega

end Go.Proofs.YtafeofgjmlhklaaGreatDoor
