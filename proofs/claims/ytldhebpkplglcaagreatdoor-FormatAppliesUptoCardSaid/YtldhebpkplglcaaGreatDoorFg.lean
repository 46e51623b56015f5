/- lorgnetteref20.Split. format.Case and lorgnetteref20.Case. lorgnetteref20.Case. lorgnetteref04.All and Clean. -/
import Derived.Test.YtldhebpkplglcaaGreatDoorFe
import Derived.Test.YtldhebpkplglcaaGreatDoorFf
import Derived.Test.YtldhebpkplglcaaGreatDoorFb
namespace Go.Proofs.YtldhebpkplglcaaGreatDoor
open Go.RowKit

theorem occ_eq {s y : List UInt8} {k : Nat} (h : k + y.length ≤ s.length) : Lib.occAt s y k = decide ((s.drop k).take y.length = y) := by
  unfold Lib.occAt
  rw [pre_take, List.length_drop, decide_eq_true (show y.length ≤ s.length - k by omega), Bool.true_and]

end Go.Proofs.YtldhebpkplglcaaGreatDoor

namespace Go.Proofs.YtldhebpkplglcaaGreatDoor
open Go.RowKit

/-- Bytes of the call's own that may be written. -/
def CBs (w : World) (B : Nat) (L : List UInt8) : Prop := ∀ (j : Nat) (c : UInt8), L[j]? = some c → w.cell? ⟨B, j, none⟩ = some (.int .u8 c.toNat) ∧ w.frozen? ⟨B, j, none⟩ = false
theorem CBs.set {w : World} {B : Nat} {L : List UInt8} (h : CBs w B L) {k : Nat} (hk : k < L.length) (d : UInt8) : CBs (w.setCell ⟨B, k, none⟩ (.int .u8 d.toNat)) B (L.set k d) := by
  intro j c hj
  rw [List.getElem?_set] at hj
  by_cases hjk : k = j
  · subst hjk
    rw [if_pos rfl, if_pos hk] at hj
    obtain rfl := Option.some.inj hj
    obtain ⟨h1, h2⟩ := h k L[k] (List.getElem?_eq_getElem hk)
    exact ⟨World.cell?_setCell_same _ _ _ h1, by simpa using h2⟩
  · rw [if_neg hjk] at hj
    obtain ⟨h1, h2⟩ := h j c hj
    refine ⟨?_, by simpa using h2⟩
    rw [World.cell?_setCell_other]
    · exact h1
    · intro e; injection e with _ e2 _; exact hjk e2
section
variable {P : Program} {o : Oper} {a : Act} {Q : Exit → Act → World → Prop}
theorem upon_bytesW {w : World} {K : Act → World → Prop} {src dst e : TypeId} (hs : P.underlying src = some .string) (hd : P.underlying dst = some (.slice e)) (he : P.underlying e = some (.int .u8)) {l : List UInt8}
    (hK : ∀ cap w', CBs w' w.heap.size l → Below w.heap.size w w' → w.heap.size < w'.heap.size → K (a.put o.dst (.slice (some ⟨w.heap.size, 0, none⟩) l.length cap)) w') :
    Oper.upon P o a K Q (((convert src dst (.string ⟨l.toArray⟩)).run P w).andThen fun v w' => .ok (Next.value v) w') := by
  have hrun := run_bytes_of_string (P := P) w src dst e ⟨l.toArray⟩ hs hd he
  have h1 := grownCap_ge w l.length 0 e
  have hsz : (⟨l.toArray⟩ : ByteArray).size = l.length := rfl
  rw [hsz] at hrun
  obtain ⟨cap, hcap⟩ : ∃ cap, cap = grownCap w l.length 0 e := ⟨_, rfl⟩
  rw [← hcap] at hrun h1
  rw [hrun]
  simp only [Result.andThen]
  have hbs : (bytesRow (⟨l.toArray⟩ : ByteArray) cap).size ≥ l.length := by
    unfold bytesRow
    simp
  refine hK cap _ ?_ (((Below.refl _ w).drew).alloc (Nat.le_refl _) _) (by simp)
  intro j c hj
  have hj2 : j < l.length := (List.getElem?_eq_some_iff.1 hj).1
  constructor
  · refine (World.cell?_alloc_mark w.drew _ e _ j).trans ?_
    unfold bytesRow
    rw [Array.getElem?_append_left (by simpa using hj2)]
    simp [hj]
  · refine (World.frozen?_alloc_mark w.drew _ e _ _ j).trans ?_
    have : decide ((bytesRow (⟨l.toArray⟩ : ByteArray) cap).size ≤ j) = false := by simp; omega
    rw [this]; rfl
end
theorem set_same {L : List UInt8} {k : Nat} {c : UInt8} (h : L[k]? = some c) : L.set k c = L := by
  apply List.ext_getElem?
  intro j
  rw [List.getElem?_set]
  by_cases hj : k = j
  · subst hj
    rw [if_pos rfl, if_pos (List.getElem?_eq_some_iff.1 h).1, h]
  · rw [if_neg hj]
def caseL (up : Bool) (s : List UInt8) : List UInt8 := s.map (caseB up)
theorem xor32 (c : UInt8) : bits BinOp.xor IntKind.u8 (c.toNat : Int) 32 = (((c ^^^ 32).toNat : Nat) : Int) := by
  have h : ∀ n : Nat, n < 256 → bits BinOp.xor IntKind.u8 (n : Int) 32 = (((UInt8.ofNat n ^^^ 32).toNat : Nat) : Int) := by decide +kernel
  have := h c.toNat (u8_lt c)
  rwa [UInt8.ofNat_toNat] at this

end Go.Proofs.YtldhebpkplglcaaGreatDoor

namespace Go.Proofs.YtldhebpkplglcaaGreatDoor
open Go.RowKit

theorem conv_own (v : Value) (n B : Nat) (L : List UInt8) (W : World) (hn : n = L.length) (h : W.ownsRow B 5 1 v n (Lib.byteCells L)) : (convert 77 9 v).run Tryz.prog W = .ok (.string ⟨L.toArray⟩) W := by
  subst hn
  rcases h.2 with ⟨rfl, h0⟩ | ⟨g, cap, cur, rfl, hB, hg, hc1, hc2, hc3, ht⟩
  · obtain rfl := List.length_eq_zero_iff.1 h0
    rw [run_convert_bytes_string (P := Tryz.prog) W 77 9 5 none 0 0 Tryz.underlying77 Tryz.underlying5 Tryz.underlying9]
    rfl
  · exact run_convert_bytes_back (P := Tryz.prog) W 77 9 5 ⟨g, 0, none⟩ cap L Tryz.underlying77 Tryz.underlying5 Tryz.underlying9 (fun j hj => by
      rw [Addr.add_lit, Nat.zero_add, Lib.cell_of_heap hg]
      have h1 : (Lib.byteCells L)[j]? = some (.int .u8 (L[j].toNat : Int)) := by simp [Lib.byteCells, hj]
      rw [← ht, List.getElem?_take] at h1
      split at h1
      · simpa using h1
      · cases h1)

theorem case_val_true (c : UInt8) (h1 : 97 ≤ c.toNat) (h2 : c.toNat ≤ 122) : ((caseB true c).toNat : Int) = c.toNat - 32 := by
  have h : ∀ n : Nat, n < 256 → 97 ≤ n → n ≤ 122 → ((caseB true (UInt8.ofNat n)).toNat : Int) = n - 32 := by decide +kernel
  have := h c.toNat (u8_lt c) h1 h2
  rwa [UInt8.ofNat_toNat] at this
theorem case_val_true_no (c : UInt8) (h : c.toNat < 97 ∨ 122 < c.toNat) : ((caseB true c).toNat : Int) = c.toNat := by
  unfold caseB
  rw [if_neg (by omega), if_neg (by simp)]
theorem case_val_false (c : UInt8) (h1 : 65 ≤ c.toNat) (h2 : c.toNat ≤ 90) : ((caseB false c).toNat : Int) = c.toNat + 32 := by
  have h : ∀ n : Nat, n < 256 → 65 ≤ n → n ≤ 90 → ((caseB false (UInt8.ofNat n)).toNat : Int) = n + 32 := by decide +kernel
  have := h c.toNat (u8_lt c) h1 h2
  rwa [UInt8.ofNat_toNat] at this
theorem case_val_false_no (c : UInt8) (h : c.toNat < 65 ∨ 90 < c.toNat) : ((caseB false c).toNat : Int) = c.toNat := by
  unfold caseB
  rw [if_neg (by simp), if_neg (by omega)]

end Go.Proofs.YtldhebpkplglcaaGreatDoor

namespace Go.Proofs.YtldhebpkplglcaaGreatDoor
open Go.RowKit

theorem encs_take (ps : List Nat) {k p : Nat} (h : ps[k]? = some p) : u8L (encs (ps.take (k + 1))) = u8L (encs (ps.take k)) ++ encU p := by
  rw [List.take_add_one, h, Option.toList_some, encs_app]
  unfold u8L encU
  rw [List.map_append]
  simp [encs, u8L]

set_option maxRecDepth 100000 in
set_option maxHeartbeats 1600000 in
theorem ref4_All (ps : List Nat) (ap : Option Addr) (cp : Nat) (w : World) (hr : Row w ap (i64s ps)) (hp : ∀ p ∈ ps, isPt p) (hl : ps.length ≤ 17592186044415) :
    Calls Tryz.prog 55 #[.slice ap ps.length cp] w fun e w' => e = .returned (.string ⟨(u8L (encs ps)).toArray⟩) ∧ Below w.heap.size w w' := by
  obtain ⟨i0, hi, hz0, hz1, hz2⟩ := info_parts u8Slice.info
  have HR := hid hr
  have HP := hid hp
  clear hr hp
  obtain ⟨T, hT⟩ : ∃ T, T = u8L (encs ps) := ⟨_, rfl⟩
  rw [← hT]
  replace hT := hid hT
  go_enter Tryz.func55, Tryz.ntmps55
  go_wp2_with fail
  go_loopw [3, 4] (fun v i wr => ∃ k : Nat, i = .int .i64 (k : Nat) ∧ k ≤ ps.length ∧ wr.ownsRow w.heap.size 5 1 v (u8L (encs (ps.take k))).length (Lib.byteCells (u8L (encs (ps.take k)))) ∧ Below w.heap.size w wr) (fun _ i _ => ps.length - (intOf i).toNat)
  case atStart => exact ⟨0, rfl, Nat.zero_le _, World.ownsRow_nil _ _ _ _, Below.refl _ _⟩
  case round =>
    obtain ⟨k, rfl, hk, hown, hb⟩ := hrel
    have HO := hid hown
    have HB := hid hb
    have hszw := hb.size
    clear hown hb
    by_cases hke : k = ps.length
    · have HO2 := HO.out
      rw [hke, List.take_length, ← hT.out] at HO2
      have hconv := conv_own _ _ _ T wr rfl HO2
      clear HO2
      subst hke
      go_wp2_with fail
      go_ret
      exact ⟨rfl, HB.out⟩
    · have hkl : k < ps.length := by omega
      obtain ⟨p, hpk⟩ : ∃ p, ps[k]? = some p := ⟨_, List.getElem?_eq_getElem hkl⟩
      obtain ⟨bb, off, rfl, hcell⟩ := row_at (HR.out.below HB.out) hpk
      have hpp : p ≤ 1114111 := by
        have h := HP.out p (List.mem_of_getElem? hpk)
        unfold isPt at h
        omega
      have CB := fun W => ref4_Bytes p W hpp
      rw [show bysN (encN p) = encU p from rfl] at CB
      have HN := hid (encs_take ps hpk)
      have hlen : (u8L (encs (ps.take k))).length + (encU p).length ≤ 140737488355328 := by
        have h1 := encs_le (ps.take k)
        have h2 := encN_pos p
        rw [List.length_take] at h1
        unfold encU u8L
        rw [List.length_map, List.length_map]
        omega
      obtain ⟨L, hL⟩ : ∃ L, L = u8L (encs (ps.take k)) := ⟨_, rfl⟩
      rw [← hL] at HO HN hlen
      obtain ⟨eb, heb⟩ : ∃ eb : ByteArray, eb = ⟨(encU p).toArray⟩ := ⟨_, rfl⟩
      rw [← heb] at CB
      have hez : eb.size = (encU p).length := by rw [heb]; rfl
      have hec : Hid (Lib.strCells eb = Lib.byteCells (encU p)) := by rw [heb]; exact rfl
      replace CB := hid CB
      clear hL hpk hpp heb
      go_wp2_with fail
      refine (CB.out _).mono ?_
      rintro e w2 ⟨rfl, hb2⟩
      have hown2 := owns_below HO.out hb2
      have HB2 := hid (below_trans HB.out hb2)
      have hsz2 := HB2.out.size
      clear hb2 CB hcell
      go_wp2_with (at_builtin; refine Lib.wpList_append_own_string _ rfl _ _ 77 9 rfl w.heap.size 5 i0 Tryz.underlying77 Tryz.underlying9 hi hz0 hz1 hz2 _ _ _ rfl hown2 eb rfl ?c3 ?c4 ?c5 ?_)
      case c3 => unfold maxLen; omega
      case c4 => omega
      case c5 => exact hsz2
      intro v' w3 hown' hgrow _
      have HOW := hid (show w3.ownsRow w.heap.size 5 1 v' (u8L (encs (ps.take (k + 1)))).length (Lib.byteCells (u8L (encs (ps.take (k + 1))))) by
        rw [HN.out, Lib.byteCells_append, ← hec.out, List.length_append]; exact hown')
      have HB3 := hid (HB2.out.grown hgrow hsz2 (fun j hj => (hown2.lt j hj).1))
      clear hown' hown2 hgrow
      go_wp2_with fail
      go_roundw
      case rel => exact ⟨k + 1, by go_num, by omega, HOW.out, HB3.out⟩
      case measure => simp [intOf]; omega

set_option maxRecDepth 100000 in
theorem ref4_Clean_core (s : List UInt8) (ps : List Nat) (T : List UInt8) (w : World) (C : Hid (Calls Tryz.prog 56 #[.string ⟨s.toArray⟩] w fun e w' => ∃ a cap, e = .returned (.slice a ps.length cap) ∧ Below w.heap.size w w' ∧ w'.ownsRow w.heap.size 3 1 (.slice a ps.length cap) ps.length (i64s ps)))
    (C2 : Hid (∀ W ap cp, Row W ap (i64s ps) → Calls Tryz.prog 55 #[.slice ap ps.length cp] W fun e w' => e = .returned (.string ⟨T.toArray⟩) ∧ Below W.heap.size W w')) :
    Calls Tryz.prog 31 #[.string ⟨s.toArray⟩] w fun e w' => e = .returned (.string ⟨T.toArray⟩) ∧ Below w.heap.size w w' := by
  generalize (⟨s.toArray⟩ : ByteArray) = sb at *
  go_enter Tryz.func31, Tryz.ntmps31
  go_wp2_with fail
  refine C.out.mono ?_
  rintro e w1 ⟨ap, cp, rfl, hb1, ho⟩
  obtain ⟨_, _, e3, hr, _⟩ := owns_row ho
  injection e3 with e3 _ e5
  subst e3 e5
  have HB1 := hid hb1
  have C3 := hid (C2.out w1 ap cp hr)
  clear ho hr hb1 C C2
  go_wp2_with fail
  refine C3.out.mono ?_
  rintro e w2 ⟨rfl, hb2⟩
  have HB2 := hid (below_trans HB1.out hb2)
  clear hb2
  go_wp2_with fail
  go_ret
  exact ⟨rfl, HB2.out⟩
theorem ref4_Clean (s : List UInt8) (w : World) (hs : s.length ≤ 17592186044415) :
    Calls Tryz.prog 31 #[.string ⟨s.toArray⟩] w fun e w' => e = .returned (.string ⟨(cleanL s).toArray⟩) ∧ Below w.heap.size w w' :=
  ref4_Clean_core s (pts s) (cleanL s) w (hid (ref4_ExplodeAny s w hs)) (hid fun W ap cp hr => ref4_All (pts s) ap cp W hr (pts_pt _ s (Nat.le_refl _)) (Nat.le_trans (pts_len _ s (Nat.le_refl _)) hs))

end Go.Proofs.YtldhebpkplglcaaGreatDoor
