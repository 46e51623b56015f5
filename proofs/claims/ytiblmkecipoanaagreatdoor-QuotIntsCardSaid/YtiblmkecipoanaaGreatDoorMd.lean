/- Layer 2, seventh part: digits, small. Layer 2, eighth part: scan's closure, scan. Layer 2, ninth part: scan told whole; Parse. Layer 2, tenth part: Parse. Layer 2, eleventh part: sign, told, both. Layer 2, twelfth part: Neg, level. -/
import Derived.Test.YtiblmkecipoanaaGreatDoorMc
import Derived.Test.YtiblmkecipoanaaGreatDoorMb
import Derived.Laws.RangeAny
import Derived.Defers
import Derived.Deep.Cut
import Derived.RegionTactic
import Derived.BigRegion
import Derived.ChangeAlike
import Derived.Laws.ResultCell
namespace Go.Proofs.YtiblmkecipoanaaGreatDoor
open Go.RowKit

def isD (c : UInt8) : Bool := decide (48 ≤ c.toNat) && decide (c.toNat ≤ 57)
theorem isD_iff {c : UInt8} : isD c = true ↔ 48 ≤ c.toNat ∧ c.toNat ≤ 57 := by simp [isD]

theorem takeWhile_stop (l : List UInt8) (k : Nat) (hk : k < l.length) (h : ∀ j (hj : j < k), isD (l[j]'(by omega)) = true) (hs : isD (l[k]'hk) = false) : l.takeWhile isD = l.take k ∧ l.dropWhile isD = l.drop k := by
  induction l generalizing k with
  | nil => simp at hk
  | cons c l ih =>
    cases k with
    | zero => simp at hs; simp [hs]
    | succ k =>
      have h0 := h 0 (by omega)
      simp at h0
      obtain ⟨e1, e2⟩ := ih k (by simpa using hk) (fun j hj => by have := h (j + 1) (by omega); simpa using this) (by simpa using hs)
      simp [h0, e1, e2]
theorem takeWhile_all (l : List UInt8) (h : ∀ j (hj : j < l.length), isD (l[j]) = true) : l.takeWhile isD = l ∧ l.dropWhile isD = [] := by
  induction l with
  | nil => exact ⟨rfl, rfl⟩
  | cons c l ih =>
    have h0 := h 0 (by simp)
    simp at h0
    obtain ⟨e1, e2⟩ := ih (fun j hj => by have := h (j + 1) (by simpa using hj); simpa using this)
    simp [h0, e1, e2]

theorem below_iter (w : World) (s : ByteArray) (k : Nat) : Below w.heap.size w (w.iter s k) := (Below.refl _ _).alloc (Nat.le_refl _) _

set_option maxRecDepth 100000 in
set_option maxHeartbeats 400000 in
theorem dec_digits (s : ByteArray) (w : World) (_hs : s.size ≤ 9223372036854775807) :
    Calls Tryz.prog 110 #[.string s] w fun en w' => en = .returned (.tuple #[.string ⟨(s.data.toList.takeWhile isD).toArray⟩, .string ⟨(s.data.toList.dropWhile isD).toArray⟩]) ∧ Below w.heap.size w w' := by
  obtain ⟨A, hA⟩ : ∃ A : ByteArray, A = ⟨(s.data.toList.takeWhile isD).toArray⟩ := ⟨_, rfl⟩
  obtain ⟨B, hB⟩ : ∃ B : ByteArray, B = ⟨(s.data.toList.dropWhile isD).toArray⟩ := ⟨_, rfl⟩
  rw [← hA, ← hB]
  have HA := hid hA
  have HB := hid hB
  have hls : s.data.toList.length = s.size := rfl
  have HLS := hid hls
  clear hA hB hls
  go_enter Tryz.func110, Tryz.ntmps110
  go_wp2
  go_loopw [] (fun wr => ∃ k : Nat, k ≤ s.size ∧ wr = w.iter s k ∧ ∀ j (hj : j < k) (hjs : j < s.size), isD (s[j]'hjs) = true) (fun wr => s.size - wr.iterPos w.heap.size)
  case atStart => exact ⟨0, Nat.zero_le _, rfl, fun j hj => by omega⟩
  case round =>
    obtain ⟨k, hk, rfl, hd⟩ := hrel
    have HD := hid hd
    clear hd
    by_cases hlt : k < s.size
    · by_cases hdig : isD (s[k]'hlt) = true
      · have hb := isD_iff.1 hdig
        have hrun := fun ty => run_next_ascii (P := Tryz.prog) w s k ty hlt (by omega)
        obtain ⟨c, hc⟩ : ∃ c, c = (s[k]'hlt).toNat := ⟨_, rfl⟩
        rw [← hc] at hrun hb
        have HD2 : Hid (∀ j (hj : j < k + 1) (hjs : j < s.size), isD (s[j]'hjs) = true) := fun j hj hjs => by
          by_cases h : j < k
          · exact HD.out j h hjs
          · obtain rfl : j = k := by omega
            exact hdig
        clear hdig hc
        go_wp2
        go_roundw
        case rel => exact ⟨k + 1, by omega, rfl, HD2.out⟩
        case measure => simp; omega
      · have hdig : isD (s[k]'hlt) = false := by simpa using hdig
        have hrun := fun ty => run_next_any (P := Tryz.prog) w s k ty hlt
        have hr : (Utf8.decode s k).1 < 48 ∨ 57 < (Utf8.decode s k).1 := by
          by_cases h8 : (s[k]'hlt).toNat < 128
          · rw [decode_ascii s k hlt h8]
            have : ¬ (48 ≤ (s[k]'hlt).toNat ∧ (s[k]'hlt).toNat ≤ 57) := fun h => by rw [isD_iff.2 h] at hdig; cases hdig
            simp only; omega
          · have := (decode_high s k hlt (by omega)).1; omega
        have hr2 := decode_le s k
        obtain ⟨r, hre⟩ : ∃ r, r = (Utf8.decode s k).1 := ⟨_, rfl⟩
        obtain ⟨q, hqe⟩ : ∃ q, q = (Utf8.decode s k).2 := ⟨_, rfl⟩
        rw [← hre, ← hqe] at hrun
        rw [← hre] at hr hr2
        have HE := hid (takeWhile_stop s.data.toList k hlt (fun j hj => HD.out j hj (by omega)) hdig)
        clear hdig hre hqe
        have hkk : (0 : Int) ≤ (k : Int) ∧ (k : Int) ≤ (s.size : Int) := by omega
        rcases hr with hr | hr
        all_goals
          go_wp2_with fail
          go_quiet (fail)
          go_wp2
          go_ret2
          refine ⟨?_, below_drewN (below_iter w s _) nq⟩
          have e1 : s.extract 0 k = A := bytes_ext2 (by rw [Lib.extract_data, HA.out]; simp [HE.out.1])
          have e2 : s.extract k s.size = B := bytes_ext2 (by rw [Lib.extract_data, HB.out]; simp only [HE.out.2]; rw [List.take_of_length_le (by rw [List.length_drop, HLS.out]; omega)])
          rw [← e1, ← e2]
          rfl
    · have hrun := fun ty => run_next_end (P := Tryz.prog) w s k ty hlt
      have HE := hid (takeWhile_all s.data.toList (fun j hj => HD.out j (by have := HLS.out; omega) hj))
      go_wp2
      go_ret2
      refine ⟨?_, below_iter w s _⟩
      have e1 : s = A := bytes_ext2 (by rw [HA.out]; simp [HE.out.1])
      have e2 : (⟨#[]⟩ : ByteArray) = B := bytes_ext2 (by rw [HB.out]; simp [HE.out.2])
      rw [← e1, ← e2]
      rfl

/-- A power's worth; what is too great is cut. -/
def smallN (l : List UInt8) : Nat := if 6 < (Lib.trimLeftB l 48).length then 999999 else num10 (Lib.trimLeftB l 48) 0

theorem parse_num : ∀ (l : List UInt8) (acc : Nat), Digs l → (acc + 1) * 10 ^ l.length ≤ 1000000000000000000 → Lib.parseUint10 acc l = .ok (num10 l acc)
  | [], acc, _, _ => rfl
  | c :: r, acc, h, hb => by
    have hc := h c (by simp)
    have hp : 1 ≤ 10 ^ r.length := Nat.pow_pos (by decide)
    rw [List.length_cons, Nat.pow_succ] at hb
    have h1 : (acc + 1) * (10 ^ r.length * 10) = (acc * 10 + 10) * 10 ^ r.length := by
      rw [show acc * 10 + 10 = (acc + 1) * 10 by omega]; ac_rfl
    rw [h1] at hb
    have h2 : (acc * 10 + 10) * 1 ≤ (acc * 10 + 10) * 10 ^ r.length := Nat.mul_le_mul_left _ hp
    have h3 : (acc * 10 + (c.toNat - 48) + 1) * 10 ^ r.length ≤ (acc * 10 + 10) * 10 ^ r.length := Nat.mul_le_mul_right _ (by omega)
    have ih := parse_num r (acc * 10 + (c.toNat - 48)) (fun d hd => h d (by simp [hd])) (by omega)
    rw [Lib.parseUint10, if_pos hc, if_neg (by omega), if_neg (by omega), ih, num10, Nat.mul_comm 10]
theorem atoi_num (l : List UInt8) (h : Digs l) (hl : l.length ≤ 6) : Lib.atoiAll (48 :: l) = .ok ((num10 l 0 : Nat) : Int) := by
  have hd : Digs (48 :: l) := fun c hc => by
    rcases List.mem_cons.1 hc with rfl | hc
    · exact ⟨by decide, by decide⟩
    · exact h c hc
  have hb : 10 ^ (48 :: l).length ≤ 10 ^ 7 := Nat.pow_le_pow_right (by decide) (by simp; omega)
  have e := parse_num (48 :: l) 0 hd (by omega)
  have e2 : num10 (48 :: l) 0 = num10 l 0 := rfl
  have hlt := num10_lt l h
  have hb2 : 10 ^ l.length ≤ 10 ^ 6 := Nat.pow_le_pow_right (by decide) hl
  rw [e2] at e
  unfold Lib.atoiAll Lib.parseMag
  simp only [show (48 : UInt8).toNat = 48 from rfl, show ¬ ((48 : Nat) = 43 ∨ (48 : Nat) = 45) by decide, if_false, e, List.cons_ne_nil]
  rw [if_neg (by omega), if_neg (by omega), if_neg (by decide)]

set_option maxRecDepth 100000 in
set_option maxHeartbeats 400000 in
theorem dec_small (s : ByteArray) (w : World) (hd : Digs s.data.toList) (_hs : s.size ≤ 9223372036854775806) :
    Calls Tryz.prog 112 #[.string s] w fun en w' => en = .returned (.int .i64 (smallN s.data.toList)) ∧ Below w.heap.size w w' := by
  have C := Tryz.strings_TrimLeft_one s 48 (by decide) w
  obtain ⟨T, hT⟩ : ∃ T : ByteArray, T = ⟨(Lib.trimLeftB s.data.toList 48).toArray⟩ := ⟨_, rfl⟩
  rw [← hT] at C
  have hTd : T.data.toList = Lib.trimLeftB s.data.toList 48 := by rw [hT]
  have hTl : T.data.toList.length = T.size := rfl
  have hDT : Digs T.data.toList := fun c hc => hd c (by
    rw [hTd] at hc; exact (List.dropWhile_suffix _).subset hc)
  have hr : smallN s.data.toList = if 6 < T.size then 999999 else num10 T.data.toList 0 := by unfold smallN; rw [← hTd, hTl]
  rw [hr]
  have C := hid C
  clear hd hT hTd hr
  by_cases h6 : 6 < T.size
  · rw [if_pos h6]
    clear hTl hDT
    go_enter Tryz.func112, Tryz.ntmps112
    go_wp2_with (go_at_call 135; refine C.out.mono ?_; rintro e1 w1 ⟨rfl, rfl⟩)
    go_ret
    exact ⟨rfl, Below.refl _ _⟩
  · rw [if_neg h6]
    have h6' : T.size ≤ 6 := by omega
    obtain ⟨n, hn⟩ : ∃ n, n = num10 T.data.toList 0 := ⟨_, rfl⟩
    have hat : Lib.atoiAll ((⟨#[48]⟩ : ByteArray) ++ T).data.toList = .ok (n : Int) := by
      rw [append_data, hn]; exact atoi_num T.data.toList hDT (by omega)
    have hsz : ((⟨#[48]⟩ : ByteArray) ++ T).size ≤ 10 := by simp [ByteArray.size_append]; show 1 + T.size ≤ 10; omega
    have CA := hid (fun W => Tryz.strconv_Atoi_ok ((⟨#[48]⟩ : ByteArray) ++ T) (by omega) (n : Int) hat W)
    rw [← hn]
    clear h6 hn hat hsz hTl hDT
    go_enter Tryz.func112, Tryz.ntmps112
    go_wp2_with (first | (go_at_call 135; refine C.out.mono ?_; rintro e1 w1 ⟨rfl, rfl⟩) | (go_at_call 54; refine (CA.out _).mono ?_; rintro e2 w2 ⟨rfl, hw2⟩))
    go_ret
    refine ⟨rfl, ?_⟩
    rcases hw2 with rfl | ⟨t, rfl⟩
    · exact Below.refl _ _
    · exact Lib.bytesWorld_below _ _ _

end Go.Proofs.YtiblmkecipoanaaGreatDoor

namespace Go.Proofs.YtiblmkecipoanaaGreatDoor
open Go.RowKit

/-- Storing what already stands there turns nothing. -/
theorem setCell_noop (W : World) (a : Addr) (v : Value) (h : W.cell? a = some v) : W.setCell a v = W := by
  unfold World.cell? at h
  split at h
  · rename_i c e f hb
    have hs : a.spot.isSome = false := by
      cases hs : a.spot.isSome with
      | false => rfl
      | true => simp [hs] at h
    simp only [hs] at h
    have hoff : c[a.off]? = some v := by simpa using h
    obtain ⟨ho, hv⟩ := Array.getElem?_eq_some_iff.1 hoff
    suffices this : (W.heap.modify a.block (fun
      | .cells c elem frozen => .cells (if a.spot.isSome then c else c.setIfInBounds a.off v) elem frozen
      | o => o)) = W.heap by
      show ({ W with heap := _ } : World) = W
      exact (congrArg (fun h => ({ W with heap := h } : World)) this)
    · apply Array.ext_getElem?
      intro k
      rw [Array.getElem?_modify]
      split
      · rename_i hk
        subst hk
        rw [hb]
        simp only [Option.map_some, hs, Bool.false_eq_true, if_false]
        congr 2
        rw [← hv]
        simp [Array.setIfInBounds, ho]
      · rfl
  · simp at h

theorem scan1_ok (p0 p1 p2 p3 p4 : Addr) (u : FrameMode) (w : World) (h : w.cell? p0 = some (.bool true)) :
    CallsD Tryz.prog 108 #[.pointer (some p0), .pointer (some p1), .pointer (some p2), .pointer (some p3), .pointer (some p4)] u w fun e u' w' => u' = u ∧ (e = .returned (.tuple #[]) ∧ w' = w) := by
  go_enter_d Tryz.func108, Tryz.ntmps108
  go_wp2
  go_end0
  exact ⟨rfl, rfl⟩

theorem scan1_fail (N : Nat) (u : FrameMode) (w : World) (v0 v1 v2 v3 : Value) (h : w.cell? ⟨N + 1 + 1 + 1 + 1, 0, none⟩ = some (.bool false)) (c0 : w.cell? ⟨N, 0, none⟩ = some v0) (c1 : w.cell? ⟨N + 1, 0, none⟩ = some v1) (c2 : w.cell? ⟨N + 1 + 1, 0, none⟩ = some v2) (c3 : w.cell? ⟨N + 1 + 1 + 1, 0, none⟩ = some v3)
    (f0 : w.frozen? ⟨N, 0, none⟩ = false) (f1 : w.frozen? ⟨N + 1, 0, none⟩ = false) (f2 : w.frozen? ⟨N + 1 + 1, 0, none⟩ = false) (f3 : w.frozen? ⟨N + 1 + 1 + 1, 0, none⟩ = false) :
    CallsD Tryz.prog 108 #[.pointer (some ⟨N + 1 + 1 + 1 + 1, 0, none⟩), .pointer (some ⟨N, 0, none⟩), .pointer (some ⟨N + 1, 0, none⟩), .pointer (some ⟨N + 1 + 1, 0, none⟩), .pointer (some ⟨N + 1 + 1 + 1, 0, none⟩)] u w fun e u' w' => u' = u ∧ (e = .returned (.tuple #[]) ∧ w' = (((w.setCell ⟨N, 0, none⟩ (.bool false)).setCell ⟨N + 1, 0, none⟩ (.string ⟨#[]⟩)).setCell ⟨N + 1 + 1, 0, none⟩ (.string ⟨#[]⟩)).setCell ⟨N + 1 + 1 + 1, 0, none⟩ (.int .i64 0)) := by
  go_enter_d Tryz.func108, Tryz.ntmps108
  go_wp2
  go_end0
  exact ⟨rfl, rfl⟩

/-- scan's five variables. -/
structure Sc (w W : World) (n : Bool) (wh be : ByteArray) (ex : Int) (ok : Bool) : Prop where
  c0 : W.cell? ⟨w.heap.size, 0, none⟩ = some (.bool n)
  c1 : W.cell? ⟨w.heap.size + 1, 0, none⟩ = some (.string wh)
  c2 : W.cell? ⟨w.heap.size + 1 + 1, 0, none⟩ = some (.string be)
  c3 : W.cell? ⟨w.heap.size + 1 + 1 + 1, 0, none⟩ = some (.int .i64 ex)
  c4 : W.cell? ⟨w.heap.size + 1 + 1 + 1 + 1, 0, none⟩ = some (.bool ok)
  f0 : W.frozen? ⟨w.heap.size, 0, none⟩ = false
  f1 : W.frozen? ⟨w.heap.size + 1, 0, none⟩ = false
  f2 : W.frozen? ⟨w.heap.size + 1 + 1, 0, none⟩ = false
  f3 : W.frozen? ⟨w.heap.size + 1 + 1 + 1, 0, none⟩ = false
  f4 : W.frozen? ⟨w.heap.size + 1 + 1 + 1 + 1, 0, none⟩ = false
  b : Below w.heap.size w W

theorem Sc.below {w W W' : World} {n ok : Bool} {wh be : ByteArray} {ex : Int} (h : Sc w W n wh be ex ok) (hb : Below W.heap.size W W') : Sc w W' n wh be ex ok := by
  have B := bcell hb
  refine ⟨?_, ?_, ?_, ?_, ?_, ?_, ?_, ?_, ?_, ?_, below_trans h.b hb⟩
  · rw [B.1 _ _ (cell_lt h.c0)]; exact h.c0
  · rw [B.1 _ _ (cell_lt h.c1)]; exact h.c1
  · rw [B.1 _ _ (cell_lt h.c2)]; exact h.c2
  · rw [B.1 _ _ (cell_lt h.c3)]; exact h.c3
  · rw [B.1 _ _ (cell_lt h.c4)]; exact h.c4
  · rw [B.2 _ _ (cell_lt h.c0)]; exact h.f0
  · rw [B.2 _ _ (cell_lt h.c1)]; exact h.f1
  · rw [B.2 _ _ (cell_lt h.c2)]; exact h.f2
  · rw [B.2 _ _ (cell_lt h.c3)]; exact h.f3
  · rw [B.2 _ _ (cell_lt h.c4)]; exact h.f4

theorem Sc.call {P : Program} {f : FuncId} {args : Array Value} {E : Ending} {K : Ending → World → Prop} {w W : World} {n ok : Bool} {wh be : ByteArray} {ex : Int} (hC : Calls P f args W (fun e w' => e = E ∧ Below W.heap.size W w'))
    (hs : Sc w W n wh be ex ok) (hk : ∀ w', Sc w w' n wh be ex ok → K E w') : Calls P f args W K := by
  refine hC.mono ?_
  rintro e w' ⟨rfl, hb⟩
  exact hk w' (hs.below hb)

theorem Sc.setN {w W : World} {n ok : Bool} {wh be : ByteArray} {ex : Int} (h : Sc w W n wh be ex ok) (n' : Bool) : Sc w (W.setCell ⟨w.heap.size, 0, none⟩ (.bool n')) n' wh be ex ok := by
  refine ⟨World.cell?_setCell_same _ _ _ h.c0, ?_, ?_, ?_, ?_, ?_, ?_, ?_, ?_, ?_, h.b.setCell (Nat.le_refl _) _⟩
  all_goals first | (rw [World.cell?_setCell_other _ _ _ _ (by simp)]; first | exact h.c1 | exact h.c2 | exact h.c3 | exact h.c4) | (rw [World.frozen?_setCell]; first | exact h.f0 | exact h.f1 | exact h.f2 | exact h.f3 | exact h.f4)
theorem Sc.setW {w W : World} {n ok : Bool} {wh be : ByteArray} {ex : Int} (h : Sc w W n wh be ex ok) (s : ByteArray) : Sc w (W.setCell ⟨w.heap.size + 1, 0, none⟩ (.string s)) n s be ex ok := by
  refine ⟨?_, World.cell?_setCell_same _ _ _ h.c1, ?_, ?_, ?_, ?_, ?_, ?_, ?_, ?_, h.b.setCell (by simp only; omega) _⟩
  all_goals first | (rw [World.cell?_setCell_other _ _ _ _ (by simp)]; first | exact h.c0 | exact h.c2 | exact h.c3 | exact h.c4) | (rw [World.frozen?_setCell]; first | exact h.f0 | exact h.f1 | exact h.f2 | exact h.f3 | exact h.f4)
theorem Sc.setB {w W : World} {n ok : Bool} {wh be : ByteArray} {ex : Int} (h : Sc w W n wh be ex ok) (s : ByteArray) : Sc w (W.setCell ⟨w.heap.size + 1 + 1, 0, none⟩ (.string s)) n wh s ex ok := by
  refine ⟨?_, ?_, World.cell?_setCell_same _ _ _ h.c2, ?_, ?_, ?_, ?_, ?_, ?_, ?_, h.b.setCell (by simp only; omega) _⟩
  all_goals first | (rw [World.cell?_setCell_other _ _ _ _ (by simp)]; first | exact h.c0 | exact h.c1 | exact h.c3 | exact h.c4) | (rw [World.frozen?_setCell]; first | exact h.f0 | exact h.f1 | exact h.f2 | exact h.f3 | exact h.f4)
theorem Sc.setE {w W : World} {n ok : Bool} {wh be : ByteArray} {ex : Int} (h : Sc w W n wh be ex ok) (x : Int) : Sc w (W.setCell ⟨w.heap.size + 1 + 1 + 1, 0, none⟩ (.int .i64 x)) n wh be x ok := by
  refine ⟨?_, ?_, ?_, World.cell?_setCell_same _ _ _ h.c3, ?_, ?_, ?_, ?_, ?_, ?_, h.b.setCell (by simp only; omega) _⟩
  all_goals first | (rw [World.cell?_setCell_other _ _ _ _ (by simp)]; first | exact h.c0 | exact h.c1 | exact h.c2 | exact h.c4) | (rw [World.frozen?_setCell]; first | exact h.f0 | exact h.f1 | exact h.f2 | exact h.f3 | exact h.f4)
theorem Sc.setO {w W : World} {n ok : Bool} {wh be : ByteArray} {ex : Int} (h : Sc w W n wh be ex ok) (x : Bool) : Sc w (W.setCell ⟨w.heap.size + 1 + 1 + 1 + 1, 0, none⟩ (.bool x)) n wh be ex x := by
  refine ⟨?_, ?_, ?_, ?_, World.cell?_setCell_same _ _ _ h.c4, ?_, ?_, ?_, ?_, ?_, h.b.setCell (by simp only; omega) _⟩
  all_goals first | (rw [World.cell?_setCell_other _ _ _ _ (by simp)]; first | exact h.c0 | exact h.c1 | exact h.c2 | exact h.c3) | (rw [World.frozen?_setCell]; first | exact h.f0 | exact h.f1 | exact h.f2 | exact h.f3 | exact h.f4)


theorem Sc.start (w : World) (n : Bool) : Sc w (((((w.alloc (Obj.cells #[Value.bool n] 4)).alloc (Obj.cells #[Value.string { data := #[] }] 9)).alloc
              (Obj.cells #[Value.string { data := #[] }] 9)).alloc (Obj.cells #[Value.int IntKind.i64 0] 3)).alloc (Obj.cells #[Value.bool false] 4)) n ⟨#[]⟩ ⟨#[]⟩ 0 false := by
  refine ⟨by simp [go_sem], by simp [go_sem], by simp [go_sem], by simp [go_sem], by simp [go_sem], by simp [go_sem], by simp [go_sem], by simp [go_sem], by simp [go_sem], by simp [go_sem], ?_⟩
  exact (((((Below.refl _ _).alloc (Nat.le_refl _) _).alloc (by simp [go_sem]) _).alloc (by simp [go_sem]; omega) _).alloc (by simp [go_sem]; omega) _).alloc (by simp [go_sem]; omega) _

theorem Sc.drew {w W : World} {n ok : Bool} {wh be : ByteArray} {ex : Int} (h : Sc w W n wh be ex ok) : Sc w W.drew n wh be ex ok := ⟨h.c0, h.c1, h.c2, h.c3, h.c4, h.f0, h.f1, h.f2, h.f3, h.f4, h.b.drew⟩

/-- What scan tells. -/
def OutSc (w : World) (n : Bool) (wh be : ByteArray) (ex : Int) (ok : Bool) (e : Ending) (w' : World) : Prop :=
  e = .returned (.tuple #[.bool n, .string wh, .string be, .int .i64 ex, .bool ok]) ∧ Below w.heap.size w w'

def scDefer (w : World) : Deferred := { target := Target.fn (Fn.func 108) #[Value.pointer (some { block := w.heap.size + 1 + 1 + 1 + 1, off := 0 }), Value.pointer (some { block := w.heap.size, off := 0 }),
                  Value.pointer (some { block := w.heap.size + 1, off := 0 }), Value.pointer (some { block := w.heap.size + 1 + 1, off := 0 }), Value.pointer (some { block := w.heap.size + 1 + 1 + 1, off := 0 })], args := #[] }

theorem sc_results {w W : World} {n ok : Bool} {wh be : ByteArray} {ex : Int} {T : Array Value} (h : Sc w W n wh be ex ok)
    (h2 : T[2]?.getD undef = .pointer (some ⟨w.heap.size, 0, none⟩)) (h3 : T[3]?.getD undef = .pointer (some ⟨w.heap.size + 1, 0, none⟩)) (h4 : T[4]?.getD undef = .pointer (some ⟨w.heap.size + 1 + 1, 0, none⟩))
    (h5 : T[5]?.getD undef = .pointer (some ⟨w.heap.size + 1 + 1 + 1, 0, none⟩)) (h6 : T[6]?.getD undef = .pointer (some ⟨w.heap.size + 1 + 1 + 1 + 1, 0, none⟩)) :
    (results Tryz.f72 T).run Tryz.prog W = .ok (.tuple #[.bool n, .string wh, .string be, .int .i64 ex, .bool ok]) W := by
  obtain ⟨c0, c1, c2, c3, c4, f0, f1, f2, f3, f4, hb⟩ := h
  simp [results, Tryz.results72, go_sem, h2, h3, h4, h5, h6, c0, c1, c2, c3, c4]

theorem door_fail {w W : World} {n : Bool} {wh be : ByteArray} {ex : Int} {T : Array Value} (h : Sc w W n wh be ex false)
    (h2 : T[2]?.getD undef = .pointer (some ⟨w.heap.size, 0, none⟩)) (h3 : T[3]?.getD undef = .pointer (some ⟨w.heap.size + 1, 0, none⟩)) (h4 : T[4]?.getD undef = .pointer (some ⟨w.heap.size + 1 + 1, 0, none⟩))
    (h5 : T[5]?.getD undef = .pointer (some ⟨w.heap.size + 1 + 1 + 1, 0, none⟩)) (h6 : T[6]?.getD undef = .pointer (some ⟨w.heap.size + 1 + 1 + 1 + 1, 0, none⟩)) :
    bodyPostD Tryz.prog Tryz.f72 (OutSc w false ⟨#[]⟩ ⟨#[]⟩ 0 false) .ret { tmps := T, defers := [scDefer w] } W := by
  refine leaves_cons (f := 108) (args := #[Value.pointer (some { block := w.heap.size + 1 + 1 + 1 + 1, off := 0 }), Value.pointer (some { block := w.heap.size, off := 0 }),
                  Value.pointer (some { block := w.heap.size + 1, off := 0 }), Value.pointer (some { block := w.heap.size + 1 + 1, off := 0 }), Value.pointer (some { block := w.heap.size + 1 + 1 + 1, off := 0 })]) (by simp) (by simp [go_sem]) ?_
  refine (scan1_fail w.heap.size .returning W _ _ _ _ h.c4 h.c0 h.c1 h.c2 h.c3 h.f0 h.f1 h.f2 h.f3).mono ?_
  rintro e u' w'' ⟨rfl, rfl, rfl⟩
  have h' := (((h.setN false).setW ⟨#[]⟩).setB ⟨#[]⟩).setE 0
  exact ⟨_, sc_results h' h2 h3 h4 h5 h6, rfl, h'.b⟩

theorem door_ok {w W : World} {n : Bool} {wh be : ByteArray} {ex : Int} {T : Array Value} (h : Sc w W n wh be ex true)
    (h2 : T[2]?.getD undef = .pointer (some ⟨w.heap.size, 0, none⟩)) (h3 : T[3]?.getD undef = .pointer (some ⟨w.heap.size + 1, 0, none⟩)) (h4 : T[4]?.getD undef = .pointer (some ⟨w.heap.size + 1 + 1, 0, none⟩))
    (h5 : T[5]?.getD undef = .pointer (some ⟨w.heap.size + 1 + 1 + 1, 0, none⟩)) (h6 : T[6]?.getD undef = .pointer (some ⟨w.heap.size + 1 + 1 + 1 + 1, 0, none⟩)) :
    bodyPostD Tryz.prog Tryz.f72 (OutSc w n wh be ex true) .ret { tmps := T, defers := [scDefer w] } W := by
  refine leaves_cons (f := 108) (args := #[Value.pointer (some { block := w.heap.size + 1 + 1 + 1 + 1, off := 0 }), Value.pointer (some { block := w.heap.size, off := 0 }),
                  Value.pointer (some { block := w.heap.size + 1, off := 0 }), Value.pointer (some { block := w.heap.size + 1 + 1, off := 0 }), Value.pointer (some { block := w.heap.size + 1 + 1 + 1, off := 0 })]) (by simp) (by simp [go_sem]) ?_
  refine (scan1_ok _ _ _ _ _ .returning W h.c4).mono ?_
  rintro e u' w'' ⟨rfl, rfl, rfl⟩
  exact ⟨_, sc_results h h2 h3 h4 h5 h6, rfl, h.b⟩

set_option maxRecDepth 100000 in
set_option maxHeartbeats 800000 in
theorem scan_whole_bad (s : ByteArray) (w : World) (n : Bool) (R0 Wh R1 : ByteArray)
    (C1 : Hid (∀ W, Calls Tryz.prog 109 #[.string s, .string ⟨#[45]⟩] W fun e w' => e = .returned (.tuple #[.string R0, .bool n]) ∧ w' = W))
    (C2 : Hid (∀ W, Calls Tryz.prog 110 #[.string R0] W fun e w' => e = .returned (.tuple #[.string Wh, .string R1]) ∧ Below W.heap.size W w'))
    (hw : Wh.toList.isEmpty = true) :
    Calls Tryz.prog 72 #[.string s] w (OutSc w false ⟨#[]⟩ ⟨#[]⟩ 0 false) := by
  have hmf : ∀ (fn : Fn) (first cap : Array Value) (w : World), (Instr.makeFunc fn first cap).run Tryz.prog w = .ok (.func fn first cap) w := fun _ _ _ _ => rfl
  go_enter_defers Tryz.func72, Tryz.ntmps72
  go_wp2_with fail
  refine (C1.out _).mono ?_
  rintro e w1 ⟨rfl, rfl⟩
  go_wp2_with fail
  refine Sc.call (C2.out _) (Sc.start w n) ?_
  intro w1 hS
  have HS := hid hS
  obtain ⟨c0, c1, c2, c3, c4, f0, f1, f2, f3, f4, hb⟩ := hS
  clear hb C1 C2
  go_wp2_with fail
  exact door_fail (HS.out.setW _) rfl rfl rfl rfl rfl

set_option maxRecDepth 100000 in
set_option maxHeartbeats 800000 in
theorem scan_whole_nought (s : ByteArray) (w : World) (n : Bool) (R0 Wh R1 : ByteArray)
    (C1 : Hid (∀ W, Calls Tryz.prog 109 #[.string s, .string ⟨#[45]⟩] W fun e w' => e = .returned (.tuple #[.string R0, .bool n]) ∧ w' = W))
    (C2 : Hid (∀ W, Calls Tryz.prog 110 #[.string R0] W fun e w' => e = .returned (.tuple #[.string Wh, .string R1]) ∧ Below W.heap.size W w'))
    (hw : Wh.toList.isEmpty = false) (h1 : (1 : Int) < (Wh.size : Int)) (hlt : 0 < Wh.size) (hc : Wh[0] = 48) :
    Calls Tryz.prog 72 #[.string s] w (OutSc w false ⟨#[]⟩ ⟨#[]⟩ 0 false) := by
  have hmf : ∀ (fn : Fn) (first cap : Array Value) (w : World), (Instr.makeFunc fn first cap).run Tryz.prog w = .ok (.func fn first cap) w := fun _ _ _ _ => rfl
  go_enter_defers Tryz.func72, Tryz.ntmps72
  go_wp2_with fail
  refine (C1.out _).mono ?_
  rintro e w1 ⟨rfl, rfl⟩
  go_wp2_with fail
  refine Sc.call (C2.out _) (Sc.start w n) ?_
  intro w1 hS
  have HS := hid hS
  obtain ⟨c0, c1, c2, c3, c4, f0, f1, f2, f3, f4, hb⟩ := hS
  clear hb C1 C2
  go_wp2_with fail
  exact door_fail (HS.out.setW _) rfl rfl rfl rfl rfl

/-- What scan tells, where the whole part stands. -/
def ScPost (w : World) (n : Bool) (wh be : ByteArray) : Option Int → Ending → World → Prop
  | some ex => OutSc w n wh be ex true
  | none => OutSc w false ⟨#[]⟩ ⟨#[]⟩ 0 false

/-- What stands behind the number's figures, as scan goes through it. -/
inductive Tail (R2 : ByteArray) : Option Int → Prop
  | done (h : R2.toList.isEmpty = true) : Tail R2 (some 0)
  | no (c : UInt8) (h : R2.toList.isEmpty = false) (hlt : 0 < R2.size) (hc : R2[0] = c) (h1 : c.toNat ≠ 101) (h2 : c.toNat ≠ 69) : Tail R2 none
  | pow (c : UInt8) (R3 M P4 Q Pw R5 : ByteArray) (mi : Bool) (sg x : Int) (o : Option Int) (h : R2.toList.isEmpty = false) (hlt : 0 < R2.size) (hc : R2[0] = c) (h1 : c.toNat = 101 ∨ c.toNat = 69)
      (h3 : R2.extract 1 R2.size = R3) (hsz : R2.size ≤ 9223372036854775807)
      (C5 : ∀ W, Calls Tryz.prog 109 #[.string R3, .string ⟨#[45]⟩] W fun e w' => e = .returned (.tuple #[.string M, .bool mi]) ∧ w' = W)
      (C6 : ∀ W, Calls Tryz.prog 111 #[.string R3, .string ⟨#[43]⟩] W fun e w' => e = .returned (.string P4) ∧ w' = W)
      (hq : (mi = true ∧ Q = M ∧ sg = -1) ∨ (mi = false ∧ Q = P4 ∧ sg = 1))
      (C7 : ∀ W, Calls Tryz.prog 110 #[.string Q] W fun e w' => e = .returned (.tuple #[.string Pw, .string R5]) ∧ Below W.heap.size W w')
      (C8 : ∀ W, Calls Tryz.prog 112 #[.string Pw] W fun e w' => e = .returned (.int .i64 x) ∧ Below W.heap.size W w')
      (hx : 0 ≤ x ∧ x ≤ 999999)
      (ho : (Pw.toList.isEmpty = true ∧ o = none) ∨ (Pw.toList.isEmpty = false ∧ R5.toList.isEmpty = false ∧ o = none) ∨ (Pw.toList.isEmpty = false ∧ R5.toList.isEmpty = true ∧ o = some (sg * x))) : Tail R2 o

set_option maxRecDepth 100000 in
set_option maxHeartbeats 1600000 in
theorem scan_walk (s : ByteArray) (w : World) (n : Bool) (R0 Wh R1 Rr Be' R2' Be R2 : ByteArray) (pt : Bool) (c : UInt8) (o : Option Int)
    (C1 : Hid (∀ W, Calls Tryz.prog 109 #[.string s, .string ⟨#[45]⟩] W fun e w' => e = .returned (.tuple #[.string R0, .bool n]) ∧ w' = W))
    (C2 : Hid (∀ W, Calls Tryz.prog 110 #[.string R0] W fun e w' => e = .returned (.tuple #[.string Wh, .string R1]) ∧ Below W.heap.size W w'))
    (hw : Wh.toList.isEmpty = false) (hlt : 0 < Wh.size) (hc : Wh[0] = c) (hgood : Hid (Wh.size ≤ 1 ∨ (1 < Wh.size ∧ c.toNat ≠ 48)))
    (C3 : Hid (∀ W, Calls Tryz.prog 109 #[.string R1, .string ⟨#[46]⟩] W fun e w' => e = .returned (.tuple #[.string Rr, .bool pt]) ∧ w' = W))
    (C4 : Hid (∀ W, Calls Tryz.prog 110 #[.string Rr] W fun e w' => e = .returned (.tuple #[.string Be', .string R2']) ∧ Below W.heap.size W w'))
    (hpt : Hid ((pt = false ∧ R2 = R1 ∧ Be = ⟨#[]⟩) ∨ (pt = true ∧ Be'.toList.isEmpty = false ∧ R2 = R2' ∧ Be = Be') ∨ (pt = true ∧ Be'.toList.isEmpty = true ∧ o = none)))
    (htl : Hid (Tail R2 o)) :
    Calls Tryz.prog 72 #[.string s] w (ScPost w n Wh Be o) := by
  have hmf : ∀ (fn : Fn) (first cap : Array Value) (w : World), (Instr.makeFunc fn first cap).run Tryz.prog w = .ok (.func fn first cap) w := fun _ _ _ _ => rfl
  go_enter_defers Tryz.func72, Tryz.ntmps72
  go_wp2_with fail
  refine (C1.out _).mono ?_
  rintro e w1 ⟨rfl, rfl⟩
  go_wp2_with fail
  refine Sc.call (C2.out _) (Sc.start w n) ?_
  intro w1 hS
  have HS := hid hS
  obtain ⟨c0, c1, c2, c3, c4, f0, f1, f2, f3, f4, hb⟩ := hS
  clear hb C1 C2
  go_upto_region 4 with fail
  go_cut [36] from 14 (fun v w' => v = .bool false ∧ Sc w w' n Wh ⟨#[]⟩ 0 false)
  case first =>
    rcases hgood.out with h | ⟨h, h2⟩
    · have h : ((Wh.size : Nat) : Int) ≤ 1 := by omega
      go_wp2_with fail
      go_meet
      case rel => exact ⟨rfl, HS.out.setW _⟩
    · have h : (1 : Int) < ((Wh.size : Nat) : Int) := by omega
      have h2 : (((c.toNat : Nat) : Int) == 48) = false := by rw [beq_eq_false_iff_ne]; omega
      go_wp2_with fail
      go_meet
      case rel => exact ⟨rfl, HS.out.setW _⟩
  case rest =>
    obtain ⟨rfl, hS⟩ := hcut
    clear HS c0 c1 c2 c3 c4 f0 f1 f2 f3 f4 hgood hc hlt hw
    have HS := hid hS
    obtain ⟨c0, c1, c2, c3, c4, f0, f1, f2, f3, f4, hb⟩ := hS
    clear hb
    go_upto_if 42 with (go_at_call 109; refine (C3.out _).mono ?_; rintro e1 w1 ⟨rfl, rfl⟩)
    go_cut [7] from 14 (fun r w' => r = .string R2 ∧ Sc w w' n Wh Be 0 false)
    case first =>
      rcases hpt.out with ⟨rfl, rfl, rfl⟩ | ⟨rfl, h, rfl, rfl⟩ | ⟨rfl, h, rfl⟩
      · go_wp2_with fail
        go_meet
        case rel => exact ⟨rfl, HS.out⟩
      · go_wp2_with fail
        refine Sc.call (C4.out _) HS.out ?_
        intro w2 hS2
        have HS2 := hid hS2
        obtain ⟨c0, c1, c2, c3, c4, f0, f1, f2, f3, f4, hb⟩ := hS2
        clear hb C4 hpt
        go_wp2_with fail
        go_meet
        case rel => exact ⟨rfl, HS2.out.setB _⟩
      · go_wp2_with fail
        refine Sc.call (C4.out _) HS.out ?_
        intro w2 hS2
        have HS2 := hid hS2
        obtain ⟨c0, c1, c2, c3, c4, f0, f1, f2, f3, f4, hb⟩ := hS2
        clear hb C4 hpt
        go_wp2_with fail
        exact door_fail (HS2.out.setB _) rfl rfl rfl rfl rfl
    case rest =>
      obtain ⟨rfl, hS⟩ := hcut
      clear HS c0 c1 c2 c3 c4 f0 f1 f2 f3 f4 hpt C3 C4
      have HS := hid hS
      obtain ⟨c0, c1, c2, c3, c4, f0, f1, f2, f3, f4, hb⟩ := hS
      clear hb
      rcases htl.out with h | ⟨c, h, hlt, hc, h1, h2⟩ | ⟨c, R3, M, P4, Q, Pw, R5, mi, sg, x, o, h, hlt, hc, h1, h3, hsz, C5, C6, hq, C7, C8, hx, ho⟩
      · clear htl
        have hsame := setCell_noop
        go_wp2_with fail
        go_region
        go_wp2_with fail
        exact door_ok (HS.out.setO true).drew rfl rfl rfl rfl rfl
      · clear htl
        have h1 : (((c.toNat : Nat) : Int) != 101) = true := by rw [bne_iff_ne]; omega
        have h2 : (((c.toNat : Nat) : Int) != 69) = true := by rw [bne_iff_ne]; omega
        go_wp2_with fail
        exact door_fail HS.out rfl rfl rfl rfl rfl
      · have C5 := hid C5
        have C6 := hid C6
        have C7 := hid C7
        have C8 := hid C8
        have hq := hid hq
        have ho := hid ho
        have hlen : (1 : Int) ≤ ((R2.size : Nat) : Int) := by omega
        clear htl
        go_upto_region 11 with fail
        go_cut [62] from 14 (fun v w' => v = .bool false ∧ Sc w w' n Wh Be 0 false)
        case first =>
          rcases h1 with h1 | h1
          · have h1 : (((c.toNat : Nat) : Int) != 101) = false := by rw [bne_eq_false_iff_eq]; omega
            go_wp2_with fail
            go_meet
            case rel => exact ⟨rfl, HS.out⟩
          · have h2 : (((c.toNat : Nat) : Int) != 101) = true := by rw [bne_iff_ne]; omega
            have h1 : (((c.toNat : Nat) : Int) != 69) = false := by rw [bne_eq_false_iff_eq]; omega
            go_wp2_with fail
            go_meet
            case rel => exact ⟨rfl, HS.out⟩
        case rest =>
          obtain ⟨rfl, hS⟩ := hcut
          clear HS c0 c1 c2 c3 c4 f0 f1 f2 f3 f4 h1
          have HS := hid hS
          obtain ⟨c0, c1, c2, c3, c4, f0, f1, f2, f3, f4, hb⟩ := hS
          clear hb
          go_upto_if 70 with (go_at_call 109; refine (C5.out _).mono ?_; rintro e1 w1 ⟨rfl, rfl⟩)
          go_cut [10, 7] from 14 (fun v r w' => v = .int .i64 sg ∧ r = .string Q ∧ Sc w w' n Wh Be 0 false)
          case first =>
            rcases hq.out with ⟨rfl, rfl, rfl⟩ | ⟨rfl, rfl, rfl⟩
            · go_wp2_with fail
              go_meet
              case rel => exact ⟨rfl, rfl, HS.out⟩
            · go_wp2_with (go_at_call 111; refine (C6.out _).mono ?_; rintro e1 w1 ⟨rfl, rfl⟩)
              go_meet
              case rel => exact ⟨rfl, rfl, HS.out⟩
          case rest =>
            obtain ⟨rfl, rfl, hS⟩ := hcut
            clear HS c0 c1 c2 c3 c4 f0 f1 f2 f3 f4
            have HS := hid hS
            obtain ⟨c0, c1, c2, c3, c4, f0, f1, f2, f3, f4, hb⟩ := hS
            clear hb
            go_wp2_with fail
            refine Sc.call (C7.out _) HS.out ?_
            intro w2 hS2
            clear c0 c1 c2 c3 c4 f0 f1 f2 f3 f4 HS h hlt hc h3 hlen
            have HS2 := hid hS2
            obtain ⟨c0, c1, c2, c3, c4, f0, f1, f2, f3, f4, hb⟩ := hS2
            clear hb C5 C6 C7
            rcases ho.out with ⟨h, rfl⟩ | ⟨h, h2, rfl⟩ | ⟨h, h2, rfl⟩
            · go_wp2_with fail
              exact door_fail HS2.out rfl rfl rfl rfl rfl
            · go_wp2_with fail
              exact door_fail HS2.out rfl rfl rfl rfl rfl
            · go_wp2_with fail
              refine Sc.call (C8.out _) HS2.out ?_
              intro w3 hS3
              clear c0 c1 c2 c3 c4 f0 f1 f2 f3 f4 HS2
              have HS3 := hid hS3
              obtain ⟨c0, c1, c2, c3, c4, f0, f1, f2, f3, f4, hb⟩ := hS3
              clear hb C8
              have hwr : IntKind.i64.wrap (sg * x) = sg * x := by
                rcases hq.out with ⟨_, _, rfl⟩ | ⟨_, _, rfl⟩
                · rw [IntKind.wrap_i64]; omega
                · rw [IntKind.wrap_i64]; omega
              have hsame := setCell_noop
              go_upto_region 21 with fail
              go_region
              go_wp2_with fail
              exact door_ok ((HS3.out.setE _).setO true).drew rfl rfl rfl rfl rfl

end Go.Proofs.YtiblmkecipoanaaGreatDoor

namespace Go.Proofs.YtiblmkecipoanaaGreatDoor
open Go.RowKit

/-- The power that stands behind the figures; none: it is none. -/
def tailL (l : List UInt8) : Option Int :=
  match l with
  | [] => some 0
  | c :: r =>
    if c.toNat = 101 ∨ c.toNat = 69 then
      let q := if Lib.hasPrefix r [45] = true then Lib.trimPrefix r [45] else Lib.trimPrefix r [43]
      if q.takeWhile isD = [] ∨ q.dropWhile isD ≠ [] then none
      else some ((if Lib.hasPrefix r [45] = true then -1 else 1) * (smallN (q.takeWhile isD) : Int))
    else none
/-- A literal's parts. -/
def scanL (l : List UInt8) : Option (Bool × List UInt8 × List UInt8 × Int) :=
  let r0 := Lib.trimPrefix l [45]
  let wh := r0.takeWhile isD
  let r1 := r0.dropWhile isD
  if wh = [] ∨ (1 < wh.length ∧ wh.head? = some 48) then none
  else if Lib.hasPrefix r1 [46] = true then
    let r := Lib.trimPrefix r1 [46]
    if r.takeWhile isD = [] then none
    else (tailL (r.dropWhile isD)).map fun x => (Lib.hasPrefix l [45], wh, r.takeWhile isD, x)
  else (tailL r1).map fun x => (Lib.hasPrefix l [45], wh, [], x)

theorem empty_iff {s : ByteArray} {l : List UInt8} (h : s.data.toList = l) : s.toList.isEmpty = l.isEmpty := by rw [ByteArray.toList_eq, h]
theorem trimPrefix_le (l p : List UInt8) : (Lib.trimPrefix l p).length ≤ l.length := by
  unfold Lib.trimPrefix
  split
  · simp
  · exact Nat.le_refl _
theorem takeWhile_le (l : List UInt8) (p : UInt8 → Bool) : (l.takeWhile p).length ≤ l.length := (List.takeWhile_prefix _).length_le
theorem dropWhile_le (l : List UInt8) (p : UInt8 → Bool) : (l.dropWhile p).length ≤ l.length := (List.dropWhile_suffix _).length_le
theorem take_digs (l : List UInt8) : Digs (l.takeWhile isD) := fun c hc => isD_iff.1 (by
  have := List.all_takeWhile (l := l) (p := isD)
  exact (List.all_eq_true.1 this) c hc)
theorem smallN_le (l : List UInt8) (h : Digs l) : smallN l ≤ 999999 := by
  unfold smallN
  split
  · exact Nat.le_refl _
  · have h1 : Digs (Lib.trimLeftB l 48) := fun c hc => h c ((List.dropWhile_suffix _).subset hc)
    have h2 := num10_lt _ h1
    have h3 : 10 ^ (Lib.trimLeftB l 48).length ≤ 10 ^ 6 := Nat.pow_le_pow_right (by decide) (by omega)
    omega
theorem head_byte {s : ByteArray} {c : UInt8} {l : List UInt8} (h : s.data.toList = c :: l) (hlt : 0 < s.size) : s[0] = c := by
  have : s.data.toList[0]'(by rw [h]; simp) = c := by simp [h]
  exact this
theorem size_eq {s : ByteArray} {l : List UInt8} (h : s.data.toList = l) : s.size = l.length := by rw [← h]; rfl

theorem cut_c (l p : List UInt8) (W : World) :
    Calls Tryz.prog 109 #[.string ⟨l.toArray⟩, .string ⟨p.toArray⟩] W fun e w' => e = .returned (.tuple #[.string ⟨(Lib.trimPrefix l p).toArray⟩, .bool (Lib.hasPrefix l p)]) ∧ w' = W :=
  Tryz.strings_CutPrefix ⟨l.toArray⟩ ⟨p.toArray⟩ W
theorem trim_c (l p : List UInt8) (W : World) :
    Calls Tryz.prog 111 #[.string ⟨l.toArray⟩, .string ⟨p.toArray⟩] W fun e w' => e = .returned (.string ⟨(Lib.trimPrefix l p).toArray⟩) ∧ w' = W :=
  Tryz.strings_TrimPrefix ⟨l.toArray⟩ ⟨p.toArray⟩ W
theorem digits_c (l : List UInt8) (hl : l.length ≤ 9223372036854775807) (W : World) :
    Calls Tryz.prog 110 #[.string ⟨l.toArray⟩] W fun en w' => en = .returned (.tuple #[.string ⟨(l.takeWhile isD).toArray⟩, .string ⟨(l.dropWhile isD).toArray⟩]) ∧ Below W.heap.size W w' :=
  dec_digits ⟨l.toArray⟩ W (by simp [ByteArray.size]; omega)

theorem tail_of (l : List UInt8) (hl : l.length ≤ 9223372036854775807) : Tail ⟨l.toArray⟩ (tailL l) := by
  cases l with
  | nil => exact .done (empty_iff rfl)
  | cons c r =>
    have hlt : 0 < (⟨(c :: r).toArray⟩ : ByteArray).size := by simp [ByteArray.size]
    have hr : r.length ≤ 9223372036854775806 := by simp at hl; omega
    by_cases hc : c.toNat = 101 ∨ c.toNat = 69
    · obtain ⟨q, hq⟩ : ∃ q, q = if Lib.hasPrefix r [45] = true then Lib.trimPrefix r [45] else Lib.trimPrefix r [43] := ⟨_, rfl⟩
      have hql6 : q.length ≤ 9223372036854775806 := by
        rw [hq]; split
        · exact Nat.le_trans (trimPrefix_le _ _) hr
        · exact Nat.le_trans (trimPrefix_le _ _) hr
      have hql : q.length ≤ 9223372036854775807 := by omega
      have hpl := takeWhile_le q isD
      have ht : tailL (c :: r) = if q.takeWhile isD = [] ∨ q.dropWhile isD ≠ [] then none else some ((if Lib.hasPrefix r [45] = true then -1 else 1) * (smallN (q.takeWhile isD) : Int)) := by
        unfold tailL; simp only [if_pos hc]; rw [hq]
      refine .pow c ⟨r.toArray⟩ _ _ ⟨q.toArray⟩ _ _ _ (if Lib.hasPrefix r [45] = true then -1 else 1) (smallN (q.takeWhile isD)) _ (empty_iff rfl) hlt (head_byte rfl _) hc ?_ (by simp [ByteArray.size]; simp at hl; omega) (cut_c r [45]) (trim_c r [43]) ?_ (digits_c q hql) (dec_small ⟨(q.takeWhile isD).toArray⟩ · (take_digs q) (by simp [ByteArray.size]; omega)) ⟨by omega, by have := smallN_le _ (take_digs q); omega⟩ ?_
      · apply bytes_ext2
        rw [Lib.extract_data]
        simp [ByteArray.size]
      · by_cases h : Lib.hasPrefix r [45] = true
        · left; exact ⟨h, by rw [hq, if_pos h], if_pos h⟩
        · right; exact ⟨by simpa using h, by rw [hq, if_neg h], if_neg h⟩
      · rw [ht]
        by_cases h1 : q.takeWhile isD = []
        · left; exact ⟨by rw [empty_iff (l := q.takeWhile isD) rfl, h1]; rfl, if_pos (.inl h1)⟩
        · have e1 : ((⟨(q.takeWhile isD).toArray⟩ : ByteArray)).toList.isEmpty = false := by
            rw [empty_iff (l := q.takeWhile isD) rfl]; simpa using h1
          by_cases h2 : q.dropWhile isD = []
          · right; right; exact ⟨e1, by rw [empty_iff (l := q.dropWhile isD) rfl, h2]; rfl, if_neg (by simp [h1, h2])⟩
          · right; left; exact ⟨e1, by rw [empty_iff (l := q.dropWhile isD) rfl]; simpa using h2, if_pos (.inr h2)⟩
    · have ht : tailL (c :: r) = none := by unfold tailL; simp only [if_neg hc]
      rw [ht]
      exact .no c (empty_iff rfl) hlt (head_byte rfl _) (fun h => hc (.inl h)) (fun h => hc (.inr h))

/-- What scan tells. -/
def ScanPost (w : World) : Option (Bool × List UInt8 × List UInt8 × Int) → Ending → World → Prop
  | some (n, wh, be, ex) => OutSc w n ⟨wh.toArray⟩ ⟨be.toArray⟩ ex true
  | none => OutSc w false ⟨#[]⟩ ⟨#[]⟩ 0 false

theorem tail_x : Tail ⟨#[120]⟩ none := .no 120 (empty_iff (l := [120]) rfl) (by decide) rfl (by decide) (by decide)

theorem dec_scan (l : List UInt8) (hl : l.length ≤ 9223372036854775807) (w : World) :
    Calls Tryz.prog 72 #[.string ⟨l.toArray⟩] w (ScanPost w (scanL l)) := by
  obtain ⟨r0, hr0⟩ : ∃ r0, r0 = Lib.trimPrefix l [45] := ⟨_, rfl⟩
  have l0 : r0.length ≤ 9223372036854775807 := by rw [hr0]; exact Nat.le_trans (trimPrefix_le _ _) hl
  have C1 := hid fun W => cut_c l [45] W
  rw [← hr0] at C1
  have C2 := hid fun W => digits_c r0 l0 W
  obtain ⟨wh, hwh⟩ : ∃ wh, wh = r0.takeWhile isD := ⟨_, rfl⟩
  obtain ⟨r1, hr1⟩ : ∃ r1, r1 = r0.dropWhile isD := ⟨_, rfl⟩
  rw [← hwh, ← hr1] at C2
  have l1 : r1.length ≤ 9223372036854775807 := by rw [hr1]; exact Nat.le_trans (dropWhile_le _ _) l0
  have hS : scanL l = if wh = [] ∨ (1 < wh.length ∧ wh.head? = some 48) then none
      else if Lib.hasPrefix r1 [46] = true then
        if (Lib.trimPrefix r1 [46]).takeWhile isD = [] then none
        else (tailL ((Lib.trimPrefix r1 [46]).dropWhile isD)).map fun x => (Lib.hasPrefix l [45], wh, (Lib.trimPrefix r1 [46]).takeWhile isD, x)
      else (tailL r1).map fun x => (Lib.hasPrefix l [45], wh, [], x) := by
    unfold scanL; simp only; rw [← hr0, ← hwh, ← hr1]
  rw [hS]
  clear hS
  cases wh with
  | nil =>
    rw [if_pos (.inl rfl)]
    exact scan_whole_bad _ w _ _ _ _ C1 C2 (empty_iff (l := []) rfl)
  | cons c wt =>
    have hne := empty_iff (s := ⟨(c :: wt).toArray⟩) (l := c :: wt) rfl
    have hlt : 0 < (⟨(c :: wt).toArray⟩ : ByteArray).size := by simp [ByteArray.size]
    have hc : (⟨(c :: wt).toArray⟩ : ByteArray)[0] = c := head_byte rfl hlt
    have hsz : (⟨(c :: wt).toArray⟩ : ByteArray).size = (c :: wt).length := rfl
    by_cases hbad : 1 < (c :: wt).length ∧ (c :: wt).head? = some 48
    · rw [if_pos (.inr hbad)]
      refine scan_whole_nought _ w _ _ _ _ C1 C2 hne (by rw [hsz]; have := hbad.1; omega) hlt ?_
      rw [hc]; simpa using hbad.2
    · rw [if_neg (fun h => h.elim (by simp) hbad)]
      have hgood : Hid ((⟨(c :: wt).toArray⟩ : ByteArray).size ≤ 1 ∨ (1 < (⟨(c :: wt).toArray⟩ : ByteArray).size ∧ c.toNat ≠ 48)) := by
        rw [hsz]
        by_cases h : (c :: wt).length ≤ 1
        · exact .inl h
        · refine .inr ⟨by omega, fun e => hbad ⟨by omega, ?_⟩⟩
          have : c = 48 := UInt8.toNat.inj e
          simp [this]
      have C3 := hid fun W => cut_c r1 [46] W
      have l2 : (Lib.trimPrefix r1 [46]).length ≤ 9223372036854775807 := Nat.le_trans (trimPrefix_le _ _) l1
      have C4 := hid fun W => digits_c (Lib.trimPrefix r1 [46]) l2 W
      by_cases hp : Lib.hasPrefix r1 [46] = true
      · rw [if_pos hp]
        rw [hp] at C3
        by_cases hb : (Lib.trimPrefix r1 [46]).takeWhile isD = []
        · rw [if_pos hb]
          exact scan_walk _ w _ _ _ _ _ _ _ ⟨#[]⟩ ⟨#[120]⟩ _ c none C1 C2 hne hlt hc hgood C3 C4 (hid (.inr (.inr ⟨rfl, by rw [empty_iff (l := (Lib.trimPrefix r1 [46]).takeWhile isD) rfl, hb]; rfl, rfl⟩))) (hid tail_x)
        · rw [if_neg hb]
          have l3 := Nat.le_trans (dropWhile_le (Lib.trimPrefix r1 [46]) isD) l2
          have W := scan_walk _ w _ _ _ _ _ _ _ _ _ _ c _ C1 C2 hne hlt hc hgood C3 C4 (hid (.inr (.inl ⟨rfl, by rw [empty_iff (l := (Lib.trimPrefix r1 [46]).takeWhile isD) rfl]; simpa using hb, rfl, rfl⟩))) (hid (tail_of _ l3))
          refine W.mono ?_
          intro e w' h
          cases ht : tailL ((Lib.trimPrefix r1 [46]).dropWhile isD) with
          | none => rw [ht] at h; exact h
          | some x => rw [ht] at h; exact h
      · have hp : Lib.hasPrefix r1 [46] = false := by simpa using hp
        rw [if_neg (by simp [hp])]
        rw [hp] at C3
        have W := scan_walk _ w _ _ _ _ _ _ _ _ _ _ c _ C1 C2 hne hlt hc hgood C3 C4 (hid (.inl ⟨rfl, rfl, rfl⟩)) (hid (tail_of _ l1))
        refine W.mono ?_
        intro e w' h
        cases ht : tailL r1 with
        | none => rw [ht] at h; exact h
        | some x => rw [ht] at h; exact h

end Go.Proofs.YtiblmkecipoanaaGreatDoor

namespace Go.Proofs.YtiblmkecipoanaaGreatDoor
open Go.RowKit

/-- What Parse tells. -/
def parseR (l : List UInt8) : D × Nat :=
  match scanL l with
  | none => (zeroD, 2)
  | some (n, wh, be, ex) =>
    if 1000 < l.length then (zeroD, 3)
    else if fitsB (plainD n (num10 (wh ++ be) 0) (ex - be.length)) = true then (plainD n (num10 (wh ++ be) 0) (ex - be.length), 0)
    else (zeroD, 3)

theorem tail_bound {l : List UInt8} {x : Int} (h : tailL l = some x) : -999999 ≤ x ∧ x ≤ 999999 := by
  unfold tailL at h
  split at h
  · simp at h; omega
  · rename_i c r
    split at h
    · simp only at h
      have h2 := smallN_le _ (take_digs (Lib.trimPrefix r [45]))
      have h3 := smallN_le _ (take_digs (Lib.trimPrefix r [43]))
      by_cases hp : Lib.hasPrefix r [45] = true
      · simp only [hp, if_true] at h
        split at h
        · cases h
        · injection h with h; omega
      · simp only [hp, if_false, Bool.false_eq_true] at h
        split at h
        · cases h
        · injection h with h; omega
    · cases h
theorem scan_facts {l wh be : List UInt8} {n : Bool} {ex : Int} (h : scanL l = some (n, wh, be, ex)) :
    Digs wh ∧ Digs be ∧ wh ≠ [] ∧ wh.length + be.length ≤ l.length ∧ -999999 ≤ ex ∧ ex ≤ 999999 := by
  unfold scanL at h
  simp only at h
  have l0 := trimPrefix_le l [45]
  have l1 : ((Lib.trimPrefix l [45]).takeWhile isD).length + ((Lib.trimPrefix l [45]).dropWhile isD).length = (Lib.trimPrefix l [45]).length := by
    rw [← List.length_append, List.takeWhile_append_dropWhile]
  split at h
  · cases h
  · rename_i h1
    have hne : (Lib.trimPrefix l [45]).takeWhile isD ≠ [] := fun e => h1 (.inl e)
    split at h
    · split at h
      · cases h
      · cases ht : tailL ((Lib.trimPrefix ((Lib.trimPrefix l [45]).dropWhile isD) [46]).dropWhile isD) with
        | none => rw [ht] at h; cases h
        | some x =>
          rw [ht] at h
          simp only [Option.map_some, Option.some.injEq, Prod.mk.injEq] at h
          obtain ⟨_, rfl, rfl, rfl⟩ := h
          have l2 := trimPrefix_le ((Lib.trimPrefix l [45]).dropWhile isD) [46]
          have l3 := takeWhile_le (Lib.trimPrefix ((Lib.trimPrefix l [45]).dropWhile isD) [46]) isD
          exact ⟨take_digs _, take_digs _, hne, by omega, tail_bound ht⟩
    · cases ht : tailL ((Lib.trimPrefix l [45]).dropWhile isD) with
      | none => rw [ht] at h; cases h
      | some x =>
        rw [ht] at h
        simp only [Option.map_some, Option.some.injEq, Prod.mk.injEq] at h
        obtain ⟨_, rfl, rfl, rfl⟩ := h
        exact ⟨take_digs _, fun c hc => by simp at hc, hne, by simp; omega, tail_bound ht⟩

theorem pow_step (K J : Nat) (h : K ≤ 9 * J) : 10 ^ K ≤ Num.B9 ^ J := by
  show 10 ^ K ≤ (10 ^ 9) ^ J
  rw [← Nat.pow_mul]
  exact Nat.pow_le_pow_right (by decide) h
theorem limbs_pow {m K J : Nat} (h : (Num.digs 10 m).length ≤ K) (hK : K ≤ 9 * J) : (Num.limbs m).length ≤ J :=
  limbs_length_le.2 (Nat.lt_of_lt_of_le ((Num.digs_length_le (by decide)).1 h) (pow_step K J hK))
theorem num10_lt_pow (l : List UInt8) (h : Digs l) (K : Nat) (hK : l.length ≤ K) : num10 l 0 < 10 ^ K := Nat.lt_of_lt_of_le (num10_lt _ h) (Nat.pow_le_pow_right (by decide) hK)
theorem digs_num10 (l : List UInt8) (h : Digs l) (K : Nat) (hK : l.length ≤ K) : (Num.digs 10 (num10 l 0)).length ≤ K := (Num.digs_length_le (by decide)).2 (num10_lt_pow l h K hK)

set_option maxRecDepth 100000 in
set_option maxHeartbeats 1600000 in
theorem dec_Parse (l : List UInt8) (hl : l.length ≤ 9223372036854775807) (w : World) (htab : Pow w) :
    Calls Tryz.prog 34 #[.string ⟨l.toArray⟩] w (OutDE w (parseR l).1 (parseR l).2) := by
  have CS := fun W => dec_scan l hl W
  have hsz : (⟨l.toArray⟩ : ByteArray).size = l.length := rfl
  unfold parseR
  cases hs : scanL l with
  | none =>
    simp only
    rw [hs] at CS
    obtain ⟨s, hss⟩ : ∃ s : ByteArray, s = ⟨l.toArray⟩ := ⟨_, rfl⟩
    rw [← hss] at CS ⊢
    have CS := hid CS
    clear hs hss htab hsz
    go_enter Tryz.func34, Tryz.ntmps34
    go_wp2_with fail
    refine (CS.out _).mono ?_
    rintro e1 w1 ⟨rfl, hb1⟩
    have HB1 := hid (below_alloc hb1)
    have hk := blk_three (blk_below (blk_new w _) hb1)
    obtain ⟨⟨k0, k1, k2⟩, f0, f1, f2⟩ := hk
    clear hb1 CS
    go_wp2
    refine bodyPost_ret (v := .tuple #[decV zeroD none 0, .int .i64 2]) (by simp [results, Tryz.results34, go_sem, k0, k1, k2, decV, zeroD]; rfl) rfl ?_
    refine ⟨none, 0, rfl, ?_, World.ownsRow_nil _ _ _ _⟩
    exact ((HB1.out.setCell (Nat.le_refl _) _).setCell (Nat.le_refl _) _).setCell (Nat.le_refl _) _
  | some q =>
    obtain ⟨n, wh, be, ex⟩ := q
    simp only
    rw [hs] at CS
    obtain ⟨dw, db, hne, hlen, hx1, hx2⟩ := scan_facts hs
    by_cases hbig : 1000 < l.length
    · rw [if_pos hbig]
      obtain ⟨s, hss⟩ : ∃ s : ByteArray, s = ⟨l.toArray⟩ := ⟨_, rfl⟩
      rw [← hss] at CS hsz ⊢
      have CS := hid CS
      have hbig : (1000 : Int) < (s.size : Int) := by omega
      clear hs hss htab hsz dw db hne hlen
      go_enter Tryz.func34, Tryz.ntmps34
      go_wp2_with fail
      refine (CS.out _).mono ?_
      rintro e1 w1 ⟨rfl, hb1⟩
      have HB1 := hid (below_alloc hb1)
      have hk := blk_three (blk_below (blk_new w _) hb1)
      obtain ⟨⟨k0, k1, k2⟩, f0, f1, f2⟩ := hk
      clear hb1 CS
      go_wp2
      refine bodyPost_ret (v := .tuple #[decV zeroD none 0, .int .i64 3]) (by simp [results, Tryz.results34, go_sem, k0, k1, k2, decV, zeroD]; rfl) rfl ?_
      refine ⟨none, 0, rfl, ?_, World.ownsRow_nil _ _ _ _⟩
      exact ((HB1.out.setCell (Nat.le_refl _) _).setCell (Nat.le_refl _) _).setCell (Nat.le_refl _) _
    · rw [if_neg hbig]
      have hdig : Digs (wh ++ be) := fun c hc => (List.mem_append.1 hc).elim (dw c) (db c)
      have hln : (wh ++ be).length ≤ 1000 := by rw [List.length_append]; omega
      obtain ⟨m, hm⟩ : ∃ m, m = num10 (wh ++ be) 0 := ⟨_, rfl⟩
      obtain ⟨Wh, hWh⟩ : ∃ Wh : ByteArray, Wh = ⟨wh.toArray⟩ := ⟨_, rfl⟩
      obtain ⟨Be, hBe⟩ : ∃ Be : ByteArray, Be = ⟨be.toArray⟩ := ⟨_, rfl⟩
      have hBl : Be.size = be.length := by rw [hBe]; rfl
      have hap : (Wh ++ Be).data.toList = wh ++ be := by rw [append_data, hWh, hBe]
      have hap2 : (Wh ++ Be).size = (wh ++ be).length := by rw [← hap]; rfl
      have hp1 : 1 ≤ (wh ++ be).length := by
        rw [List.length_append]
        have : 1 ≤ wh.length := by cases wh with | nil => exact absurd rfl hne | cons _ _ => simp
        omega
      have CP := fun W => limb_Parse (Wh ++ Be) W (by rw [hap]; exact hdig) (by omega) (by omega)
      rw [hap, ← hm] at CP
      have hmd : (Num.digs 10 m).length ≤ 1000 := by rw [hm]; exact digs_num10 _ hdig 1000 hln
      have hml : (Num.limbs m).length ≤ 1000 := limbs_pow hmd (by decide)
      have CS : ∀ W, Calls Tryz.prog 72 #[.string ⟨l.toArray⟩] W (OutSc W n Wh Be ex true) := fun W => by rw [hWh, hBe]; exact CS W
      rw [← hm]
      have CD := fun W a cap (h : U32 W a (Num.limbs m)) (hp : Pow W) => dec_plain n a cap (ex - be.length) (Num.limbs m) W h (by omega) (by rw [Num.worth_limbs]; omega) (by omega) hp
      simp only [Num.worth_limbs] at CD
      have pm := plain_m_le n m (ex - be.length)
      have pe : -3000000 ≤ (plainD n m (ex - be.length)).e ∧ (plainD n m (ex - be.length)).e ≤ 3000000 := by
        unfold plainD
        split
        · exact ⟨by simp, by simp⟩
        · have := tz_le m
          simp only; omega
      have plm : (Num.limbs (plainD n m (ex - be.length)).m).length ≤ 1000 := Nat.le_trans (Num.digs_length_mono Num.two_le_B9 pm) hml
      obtain ⟨d, hd⟩ : ∃ d, d = plainD n m (ex - be.length) := ⟨_, rfl⟩
      rw [← hBl] at CD hd
      have hxb : IntKind.i64.wrap (ex - (Be.size : Int)) = ex - (Be.size : Int) := by rw [IntKind.wrap_i64]; omega
      rw [← hBl, ← hd] at pe plm ⊢
      rw [← hd] at CD
      have CF := fun W a1 c1 (hi : InD W d a1 c1) (hp : Pow W) => dec_fits d a1 c1 W hi (by omega) pe hp
      obtain ⟨s, hss⟩ : ∃ s : ByteArray, s = ⟨l.toArray⟩ := ⟨_, rfl⟩
      rw [← hss] at CS hsz ⊢
      have CS := hid CS
      have CP := hid CP
      have CD := hid CD
      have hbig : ((s.size : Nat) : Int) ≤ 1000 := by omega
      have hBs : Be.size ≤ 1000 := by rw [List.length_append] at hln; omega
      have hWs : Wh.size ≤ 1000 := by have : Wh.size = wh.length := by rw [hWh]; rfl
                                      rw [List.length_append] at hln; omega
      have HTAB := hid htab
      obtain ⟨L, hL⟩ : ∃ L, L = Num.limbs m := ⟨_, rfl⟩
      rw [← hL] at CP CD
      have HU := hid (fun (W : World) (a : Option Addr) (cap : Nat) (base : Nat) (h : W.ownsRow base 42 1 (.slice a L.length cap) L.length (u32s L)) => u32_limbs (by rw [hL] at h; exact h))
      rw [← hL] at HU
      clear hs hsz hss htab dw db hne hlen hdig hln hm hWh hBe hBl hap hap2 hp1 hmd hml hL hd pm plm hl
      by_cases hf : fitsB d = true
      · rw [if_pos hf]
        rw [hf] at CF
        have CF := hid CF
        clear hf
        go_enter Tryz.func34, Tryz.ntmps34
        go_wp2_with fail
        refine (CS.out _).mono ?_
        rintro e1 w1 ⟨rfl, hb1⟩
        have HB1 := hid (below_alloc hb1)
        have HK1 := hid (blk_below (blk_new w _) hb1)
        have hz1 : w.heap.size + 1 ≤ w1.heap.size := by simpa using hb1.size
        clear hb1 CS
        go_wp2_with fail
        refine (CP.out _).mono ?_
        rintro e2 w2 ⟨a1, c1, rfl, hb2, ho2⟩
        have HB2 := hid (below_trans HB1.out hb2)
        have HK2 := hid (blk_below HK1.out hb2)
        have HU2 := hid (HU.out _ _ _ _ ho2)
        have hz2 : w.heap.size + 1 ≤ w2.heap.size := Nat.le_trans hz1 hb2.size
        clear hb2 ho2 HB1 HK1 hz1 CP
        go_wp2_with fail
        refine (CD.out w2 a1 c1 HU2.out (HTAB.out.next HB2.out)).mono ?_
        rintro e3 w3 ⟨a2, c2, he, ho⟩
        unfold decV at he
        subst he
        have HK3 := hid (blk_below HK2.out ho.1)
        have HO := hid (owns_mono ho.2 hz2)
        have HB3 := hid (below_trans HB2.out ho.1)
        have HI := hid ho.inD
        clear ho HB2 HK2 hz2 CD HU2
        go_wp2_with fail
        refine (CF.out _ a2 c2 (HI.out.below ((Below.refl _ _).alloc (Nat.le_refl _) _)) ((HTAB.out.next HB3.out).alloc _)).mono ?_
        rintro e4 w4 ⟨rfl, hb4⟩
        have hp := blk_three (blk_below (blk_new w3 _) hb4)
        have hk := blk_three (blk_below (blk_alloc HK3.out _) hb4)
        have HO4 := hid (owns_below HO.out (below_alloc hb4))
        have HB4 := hid (below_trans HB3.out (below_alloc hb4))
        obtain ⟨⟨p0, p1, p2⟩, _⟩ := hp
        obtain ⟨⟨k0, k1, k2⟩, f0, f1, f2⟩ := hk
        clear hb4 HI HK3 HO HB3 CF
        go_wp2
        refine bodyPost_ret (v := .tuple #[decV d a2 c2, .int .i64 0]) (by simp [results, Tryz.results34, go_sem, k0, k1, k2, decV]) rfl ?_
        refine ⟨a2, c2, rfl, ?_, ?_⟩
        · exact ((HB4.out.setCell (Nat.le_refl _) _).setCell (Nat.le_refl _) _).setCell (Nat.le_refl _) _
        · refine owns_mono (base := w.heap.size + 1) ?_ (by omega)
          exact ownsRow_setCell_below (ownsRow_setCell_below (ownsRow_setCell_below HO4.out (Nat.lt_succ_self _) _) (Nat.lt_succ_self _) _) (Nat.lt_succ_self _) _
      · rw [if_neg hf]
        have hf' : fitsB d = false := by simpa using hf
        rw [hf'] at CF
        have CF := hid CF
        clear hf hf'
        go_enter Tryz.func34, Tryz.ntmps34
        go_wp2_with fail
        refine (CS.out _).mono ?_
        rintro e1 w1 ⟨rfl, hb1⟩
        have HB1 := hid (below_alloc hb1)
        have HK1 := hid (blk_below (blk_new w _) hb1)
        have hz1 : w.heap.size + 1 ≤ w1.heap.size := by simpa using hb1.size
        clear hb1 CS
        go_wp2_with fail
        refine (CP.out _).mono ?_
        rintro e2 w2 ⟨a1, c1, rfl, hb2, ho2⟩
        have HB2 := hid (below_trans HB1.out hb2)
        have HK2 := hid (blk_below HK1.out hb2)
        have HU2 := hid (HU.out _ _ _ _ ho2)
        have hz2 : w.heap.size + 1 ≤ w2.heap.size := Nat.le_trans hz1 hb2.size
        clear hb2 ho2 HB1 HK1 hz1 CP
        go_wp2_with fail
        refine (CD.out w2 a1 c1 HU2.out (HTAB.out.next HB2.out)).mono ?_
        rintro e3 w3 ⟨a2, c2, he, ho⟩
        unfold decV at he
        subst he
        have HK3 := hid (blk_below HK2.out ho.1)
        have HB3 := hid (below_trans HB2.out ho.1)
        have HI := hid ho.inD
        clear ho HB2 HK2 hz2 CD HU2
        go_wp2_with fail
        refine (CF.out _ a2 c2 (HI.out.below ((Below.refl _ _).alloc (Nat.le_refl _) _)) ((HTAB.out.next HB3.out).alloc _)).mono ?_
        rintro e4 w4 ⟨rfl, hb4⟩
        have hk := blk_three (blk_below (blk_alloc HK3.out _) hb4)
        have HB4 := hid (below_trans HB3.out (below_alloc hb4))
        obtain ⟨⟨k0, k1, k2⟩, f0, f1, f2⟩ := hk
        clear hb4 HI HK3 HB3 CF
        go_wp2
        refine bodyPost_ret (v := .tuple #[decV zeroD none 0, .int .i64 3]) (by simp [results, Tryz.results34, go_sem, k0, k1, k2, decV, zeroD]; rfl) rfl ?_
        refine ⟨none, 0, rfl, ?_, World.ownsRow_nil _ _ _ _⟩
        exact ((HB4.out.setCell (Nat.le_refl _) _).setCell (Nat.le_refl _) _).setCell (Nat.le_refl _) _

end Go.Proofs.YtiblmkecipoanaaGreatDoor

namespace Go.Proofs.YtiblmkecipoanaaGreatDoor
open Go.RowKit

def signD (d : D) : Int := if d.m = 0 then 0 else if d.neg = true then -1 else 1

theorem limbs_zero_iff (m : Nat) : (Num.limbs m).length = 0 ↔ m = 0 := by
  rw [List.length_eq_zero_iff]; exact Num.digs_eq_nil Num.two_le_B9

theorem dec_sign (d : D) (a : Option Addr) (cap : Nat) (w : World) :
    Calls Tryz.prog 67 #[decV d a cap] w fun en w' => en = .returned (.int .i64 (signD d)) ∧ Below w.heap.size w w' := by
  unfold decV signD
  by_cases h0 : d.m = 0
  · have h1 := (limbs_zero_iff d.m).2 h0
    rw [if_pos h0, h1]
    clear h0 h1
    go_enter Tryz.func67, Tryz.ntmps67
    go_wp2
    go_ret
    exact ⟨rfl, (Below.refl _ _).alloc (Nat.le_refl _) _⟩
  · rw [if_neg h0]
    have h1 : (((Num.limbs d.m).length : Int) == 0) = false := by
      rw [beq_eq_false_iff_ne]; intro e; exact h0 ((limbs_zero_iff d.m).1 (by omega))
    obtain ⟨n, hn⟩ : ∃ n, n = (Num.limbs d.m).length := ⟨_, rfl⟩
    rw [← hn] at h1 ⊢
    clear h0 hn
    obtain ⟨g, m, e⟩ := d
    simp only
    cases g
    all_goals
      go_enter Tryz.func67, Tryz.ntmps67
      go_wp2
      go_ret
      exact ⟨rfl, (Below.refl _ _).alloc (Nat.le_refl _) _⟩

set_option maxRecDepth 100000 in
theorem dec_told (d : D) (a : Option Addr) (cap : Nat) (w : World) (h : InD w d a cap) (hl : (Num.limbs d.m).length ≤ 10000000) (he : -3000000 ≤ d.e ∧ d.e ≤ 3000000) (htab : Pow w) :
    Calls Tryz.prog 61 #[decV d a cap] w fun en w' =>
      (en = .returned (if fitsB d = true then .tuple #[decV d a cap, .int .i64 0] else .tuple #[decV zeroD none 0, .int .i64 3])) ∧ Below w.heap.size w w' := by
  have CF := fun W (hb : Below w.heap.size w W) => dec_fits d a cap W (h.below hb) hl he (htab.next hb)
  by_cases hf : fitsB d = true
  · rw [if_pos hf]
    rw [hf] at CF
    have CF := hid CF
    clear h hl he htab hf
    unfold decV at CF ⊢
    go_enter Tryz.func61, Tryz.ntmps61
    go_wp2_with fail
    refine (CF.out _ (((Below.refl _ _).alloc (Nat.le_refl _) _).alloc (by simp) _)).mono ?_
    rintro e1 w1 ⟨rfl, hb1⟩
    have HB1 := hid (below_alloc (below_alloc hb1))
    have hk := blk_three (blk_below (blk_alloc (blk_new w _) _) hb1)
    have hk2 := blk_three (blk_below (blk_new2 w _ _) hb1)
    obtain ⟨⟨k0, k1, k2⟩, _⟩ := hk
    obtain ⟨⟨p0, p1, p2⟩, f0, f1, f2⟩ := hk2
    clear hb1 CF
    go_wp2
    refine bodyPost_ret (v := .tuple #[.agg #[.bool d.neg, .slice a (Num.limbs d.m).length cap, .int .i64 d.e], .int .i64 0]) (by simp [results, Tryz.results61, go_sem, p0, p1, p2]) rfl ⟨rfl, ?_⟩
    exact ((HB1.out.setCell (Nat.le_succ _) _).setCell (Nat.le_succ _) _).setCell (Nat.le_succ _) _
  · rw [if_neg hf]
    have hf' : fitsB d = false := by simpa using hf
    rw [hf'] at CF
    have CF := hid CF
    clear h hl he htab hf hf'
    unfold decV at CF ⊢
    go_enter Tryz.func61, Tryz.ntmps61
    go_wp2_with fail
    refine (CF.out _ (((Below.refl _ _).alloc (Nat.le_refl _) _).alloc (by simp) _)).mono ?_
    rintro e1 w1 ⟨rfl, hb1⟩
    have HB1 := hid (below_alloc (below_alloc hb1))
    have hk := blk_three (blk_below (blk_alloc (blk_new w _) _) hb1)
    have hk2 := blk_three (blk_below (blk_new2 w _ _) hb1)
    obtain ⟨⟨k0, k1, k2⟩, _⟩ := hk
    obtain ⟨⟨p0, p1, p2⟩, f0, f1, f2⟩ := hk2
    clear hb1 CF
    go_wp2
    refine bodyPost_ret (v := .tuple #[.agg #[.bool zeroD.neg, .slice none (Num.limbs zeroD.m).length 0, .int .i64 zeroD.e], .int .i64 3]) (by simp [results, Tryz.results61, go_sem, p0, p1, p2, zeroD]; rfl) rfl ⟨rfl, ?_⟩
    exact ((HB1.out.setCell (Nat.le_succ _) _).setCell (Nat.le_succ _) _).setCell (Nat.le_succ _) _

/-- What both tells of errors. -/
def bothE (x y : Nat) : Nat := if x = 1 ∨ y = 1 then 1 else if x ≠ 0 then x else y
/-- Two numbers and an error, in memory of the call's own. -/
def OutDD (w : World) (x y : D) (err : Nat) (e : Ending) (w' : World) : Prop :=
  ∃ a1 c1 a2 c2, e = .returned (.tuple #[decV x a1 c1, decV y a2 c2, .int .i64 err]) ∧ OwnD w w' x a1 c1 ∧ OwnD w w' y a2 c2

set_option maxRecDepth 100000 in
set_option maxHeartbeats 1600000 in
theorem dec_both (g : Bool) (a : Option Addr) (cap : Nat) (e : Int) (xs : List Nat) (g2 : Bool) (a2 : Option Addr) (cap2 : Nat) (e2 : Int) (ys : List Nat) (w : World) (h : U32 w a xs) (h2 : U32 w a2 ys) (htab : Pow w) :
    Calls Tryz.prog 58 #[.agg #[.bool g, .slice a xs.length cap, .int .i64 e], .agg #[.bool g2, .slice a2 ys.length cap2, .int .i64 e2]] w
      (OutDD w (takenD g xs.length (Num.worth xs) e) (takenD g2 ys.length (Num.worth ys) e2) (bothE (takenE g xs.length (Num.worth xs) e) (takenE g2 ys.length (Num.worth ys) e2))) := by
  have C1 := fun W (hb : Below w.heap.size w W) => dec_taken g a cap e xs W (h.below hb) (htab.next hb)
  have C2 := fun W (hb : Below w.heap.size w W) => dec_taken g2 a2 cap2 e2 ys W (h2.below hb) (htab.next hb)
  obtain ⟨x, hx⟩ : ∃ x, x = takenD g xs.length (Num.worth xs) e := ⟨_, rfl⟩
  obtain ⟨y, hy⟩ : ∃ y, y = takenD g2 ys.length (Num.worth ys) e2 := ⟨_, rfl⟩
  obtain ⟨ex, hex⟩ : ∃ x, x = takenE g xs.length (Num.worth xs) e := ⟨_, rfl⟩
  obtain ⟨ey, hey⟩ : ∃ y, y = takenE g2 ys.length (Num.worth ys) e2 := ⟨_, rfl⟩
  obtain ⟨n, hn⟩ : ∃ n, n = xs.length := ⟨_, rfl⟩
  obtain ⟨n2, hn2⟩ : ∃ n, n = ys.length := ⟨_, rfl⟩
  rw [← hx, ← hex] at C1
  rw [← hy, ← hey] at C2
  rw [← hx, ← hy, ← hex, ← hey]
  rw [← hn] at C1 ⊢
  rw [← hn2] at C2 ⊢
  have C1 := hid C1
  have C2 := hid C2
  obtain ⟨er, her⟩ : ∃ er, er = bothE ex ey := ⟨_, rfl⟩
  rw [← her]
  have HER := hid her
  clear h h2 htab hx hy hex hey hn hn2 her
  go_enter Tryz.func58, Tryz.ntmps58
  go_wp2_with fail
  refine (C1.out _ (((((Below.refl _ _).alloc (Nat.le_refl _) _).alloc (by simp) _).alloc (by simp; omega) _).alloc (by simp; omega) _)).mono ?_
  rintro e1 w1 ⟨b1, c1, rfl, ho1⟩
  have HB1 := hid (below_alloc (below_alloc (below_alloc (below_alloc ho1.1))))
  have hz1 : w.heap.size + 1 + 1 + 1 + 1 ≤ w1.heap.size := by simpa using ho1.1.size
  have HO1 := hid (owns_mono ho1.2 (show w.heap.size + 1 + 1 + 1 + 1 ≤ _ by simp))
  have hk := blk_three (blk_below (blk_alloc (blk_alloc (blk_new2 w _ _) _) _) ho1.1)
  have HK2 := hid (show w1.heap[w.heap.size + 1 + 1]? = _ by simpa using blk_below (blk_alloc (blk_new2 (w.alloc _) _ _) _) ho1.1)
  have HK3 := hid (show w1.heap[w.heap.size + 1 + 1 + 1]? = _ by simpa using blk_below (blk_new2 ((w.alloc _).alloc _) _ _) ho1.1)
  obtain ⟨⟨k0, k1, k2⟩, _⟩ := hk
  have hz2 : w.heap.size + 1 < w1.heap.size := by omega
  clear ho1 C1
  unfold decV
  go_wp2_with fail
  refine (C2.out _ (HB1.out.alloc (HB1.out.size) _)).mono ?_
  rintro e2 w2 ⟨b2, c2, rfl, ho2⟩
  have hb2 := below_alloc ho2.1
  have HB2 := hid (below_trans HB1.out hb2)
  have HO2 := hid (owns_below HO1.out hb2)
  have HP2 := hid (owns_mono ho2.2 (show w.heap.size + 1 + 1 + 1 + 1 ≤ _ by simp; omega))
  have h7 := blk_three (blk_below (blk_new w1 _) ho2.1)
  have h4 := blk_three (blk_below HK2.out hb2)
  have h5 := blk_three (blk_below HK3.out hb2)
  have hz3 : w1.heap.size < w2.heap.size := by have := ho2.1.size; simp at this; omega
  have hz4 : w.heap.size + 1 + 1 < w2.heap.size := by omega
  have hz5 : w.heap.size + 1 + 1 + 1 < w2.heap.size := by omega
  have hz6 : w.heap.size + 1 + 1 < w1.heap.size := by omega
  have hz7 : w.heap.size + 1 + 1 + 1 < w1.heap.size := by omega
  clear ho2 hb2 HB1 HO1 HK2 HK3 C2 k0 k1 k2
  obtain ⟨⟨k0, k1, k2⟩, _⟩ := h7
  obtain ⟨⟨p0, p1, p2⟩, pf0, pf1, pf2⟩ := h4
  obtain ⟨⟨q0, q1, q2⟩, qf0, qf1, qf2⟩ := h5
  unfold decV
  have b6 : ∀ X, Below w.heap.size w (((((((w2.setCell { block := w.heap.size + 1 + 1, off := 0 } (Value.bool x.neg)).setCell { block := w.heap.size + 1 + 1, off := 1 } (Value.slice b1 (Num.limbs x.m).length c1)).setCell { block := w.heap.size + 1 + 1, off := 2 } (Value.int IntKind.i64 x.e)).setCell { block := w.heap.size + 1 + 1 + 1, off := 0 } (Value.bool y.neg)).setCell { block := w.heap.size + 1 + 1 + 1, off := 1 } (Value.slice b2 (Num.limbs y.m).length c2)).setCell { block := w.heap.size + 1 + 1 + 1, off := 2 } (Value.int IntKind.i64 y.e)).alloc X).drew := fun X =>
    ((((((((HB2.out.setCell (by simp only; omega) _).setCell (by simp only; omega) _).setCell (by simp only; omega) _).setCell (by simp only; omega) _).setCell (by simp only; omega) _).setCell (by simp only; omega) _).alloc (by simpa using HB2.out.size) _).drew)
  have own6 : ∀ (X : Obj) {v : Value} {k : Nat} {zs : List Value}, w2.ownsRow (w.heap.size + 1 + 1 + 1 + 1) 42 1 v k zs → (((((((w2.setCell { block := w.heap.size + 1 + 1, off := 0 } (Value.bool x.neg)).setCell { block := w.heap.size + 1 + 1, off := 1 } (Value.slice b1 (Num.limbs x.m).length c1)).setCell { block := w.heap.size + 1 + 1, off := 2 } (Value.int IntKind.i64 x.e)).setCell { block := w.heap.size + 1 + 1 + 1, off := 0 } (Value.bool y.neg)).setCell { block := w.heap.size + 1 + 1 + 1, off := 1 } (Value.slice b2 (Num.limbs y.m).length c2)).setCell { block := w.heap.size + 1 + 1 + 1, off := 2 } (Value.int IntKind.i64 y.e)).alloc X).drew.ownsRow (w.heap.size + 1 + 1 + 1 + 1) 42 1 v k zs := fun X v k zs h =>
    owns_below (ownsRow_setCell_below (ownsRow_setCell_below (ownsRow_setCell_below (ownsRow_setCell_below (ownsRow_setCell_below (ownsRow_setCell_below h (by simp only; omega) _) (by simp only; omega) _) (by simp only; omega) _) (by simp only; omega) _) (by simp only; omega) _) (by simp only; omega) _) (((Below.refl _ _).alloc (Nat.le_refl _) X).drew)
  have HBE := hid (b6 (Obj.cells #[Value.bool y.neg, Value.slice b2 (Num.limbs y.m).length c2, Value.int IntKind.i64 y.e] 24))
  have HOE := hid (own6 (Obj.cells #[Value.bool y.neg, Value.slice b2 (Num.limbs y.m).length c2, Value.int IntKind.i64 y.e] 24) HO2.out)
  have HPE := hid (own6 (Obj.cells #[Value.bool y.neg, Value.slice b2 (Num.limbs y.m).length c2, Value.int IntKind.i64 y.e] 24) HP2.out)
  clear b6 own6
  by_cases hx1 : ex = 1
  · subst hx1
    have HR := hid (show er = 1 by rw [HER.out]; unfold bothE; rw [if_pos (.inl rfl)])
    go_wp2_with fail
    go_region
    go_wp2_with fail
    refine bodyPost_ret (v := .tuple #[decV x b1 c1, decV y b2 c2, .int .i64 er]) (by rw [HR.out]; simp [results, Tryz.results58, go_sem, p0, p1, p2, q0, q1, q2, decV, hz4, hz5]) rfl ?_
    refine ⟨b1, c1, b2, c2, rfl, ⟨?_, ?_⟩, ⟨?_, ?_⟩⟩
    · exact HBE.out
    · exact owns_mono HOE.out (by omega)
    · exact HBE.out
    · exact owns_mono HPE.out (by omega)
  · have hn1 : ((ex : Int) == 1) = false := by rw [beq_eq_false_iff_ne]; omega
    by_cases hy1 : ey = 1
    · subst hy1
      have HR := hid (show er = 1 by rw [HER.out]; unfold bothE; rw [if_pos (.inr rfl)])
      go_wp2_with fail
      go_region
      go_wp2_with fail
      refine bodyPost_ret (v := .tuple #[decV x b1 c1, decV y b2 c2, .int .i64 er]) (by rw [HR.out]; simp [results, Tryz.results58, go_sem, p0, p1, p2, q0, q1, q2, decV, hz4, hz5]) rfl ?_
      refine ⟨b1, c1, b2, c2, rfl, ⟨?_, ?_⟩, ⟨?_, ?_⟩⟩
      · exact HBE.out
      · exact owns_mono HOE.out (by omega)
      · exact HBE.out
      · exact owns_mono HPE.out (by omega)
    · have hn2 : ((ey : Int) == 1) = false := by rw [beq_eq_false_iff_ne]; omega
      by_cases hx0 : ex = 0
      · subst hx0
        have HR := hid (show er = ey by rw [HER.out]; unfold bothE; rw [if_neg (by omega), if_neg (by omega)])
        go_wp2_with fail
        go_region
        go_wp2_with fail
        refine bodyPost_ret (v := .tuple #[decV x b1 c1, decV y b2 c2, .int .i64 er]) (by rw [HR.out]; simp [results, Tryz.results58, go_sem, p0, p1, p2, q0, q1, q2, decV, hz4, hz5]) rfl ?_
        refine ⟨b1, c1, b2, c2, rfl, ⟨?_, ?_⟩, ⟨?_, ?_⟩⟩
        · exact HBE.out
        · exact owns_mono HOE.out (by omega)
        · exact HBE.out
        · exact owns_mono HPE.out (by omega)
      · have hn3 : ((ex : Int) != 0) = true := by rw [bne_iff_ne]; omega
        have HR := hid (show er = ex by rw [HER.out]; unfold bothE; rw [if_neg (by omega), if_pos hx0])
        go_wp2_with fail
        go_region
        go_wp2_with fail
        refine bodyPost_ret (v := .tuple #[decV x b1 c1, decV y b2 c2, .int .i64 er]) (by rw [HR.out]; simp [results, Tryz.results58, go_sem, p0, p1, p2, q0, q1, q2, decV, hz4, hz5]) rfl ?_
        refine ⟨b1, c1, b2, c2, rfl, ⟨?_, ?_⟩, ⟨?_, ?_⟩⟩
        · exact HBE.out
        · exact owns_mono HOE.out (by omega)
        · exact HBE.out
        · exact owns_mono HPE.out (by omega)

end Go.Proofs.YtiblmkecipoanaaGreatDoor

namespace Go.Proofs.YtiblmkecipoanaaGreatDoor
open Go.RowKit

/-- The opposite. -/
def negD (d : D) : D := if d.m = 0 then d else ⟨!d.neg, d.m, d.e⟩

set_option maxRecDepth 100000 in
set_option maxHeartbeats 800000 in
theorem dec_Neg (g : Bool) (a : Option Addr) (cap : Nat) (e : Int) (xs : List Nat) (w : World) (h : U32 w a xs) (htab : Pow w) :
    Calls Tryz.prog 28 #[.agg #[.bool g, .slice a xs.length cap, .int .i64 e]] w (OutDE w (negD (takenD g xs.length (Num.worth xs) e)) (takenE g xs.length (Num.worth xs) e)) := by
  have CT := fun W (hb : Below w.heap.size w W) => dec_taken g a cap e xs W (h.below hb) (htab.next hb)
  obtain ⟨d, hd⟩ : ∃ d, d = takenD g xs.length (Num.worth xs) e := ⟨_, rfl⟩
  obtain ⟨er, her⟩ : ∃ er, er = takenE g xs.length (Num.worth xs) e := ⟨_, rfl⟩
  obtain ⟨n, hn⟩ : ∃ n, n = xs.length := ⟨_, rfl⟩
  rw [← hd, ← her] at CT ⊢
  rw [← hn] at CT ⊢
  have CT := hid CT
  clear h htab hd her hn
  by_cases h0 : d.m = 0
  · have hr : negD d = d := if_pos h0
    rw [hr]
    have hl := (limbs_zero_iff d.m).2 h0
    obtain ⟨gn, m, ed⟩ := d
    simp only at h0 hl
    subst h0
    clear hr hl
    go_enter Tryz.func28, Tryz.ntmps28
    go_wp2_with fail
    refine (CT.out _ (((Below.refl _ _).alloc (Nat.le_refl _) _).alloc (by simp) _)).mono ?_
    rintro e1 w1 ⟨a1, c1, rfl, ho⟩
    have HB1 := hid (below_alloc (below_alloc ho.1))
    have hz1 : w.heap.size + 1 < w1.heap.size := by have := ho.1.size; simp at this; omega
    have HO := hid (owns_mono ho.2 (show w.heap.size + 2 ≤ _ by simp))
    have hk := blk_three (blk_below (blk_new2 w _ _) ho.1)
    obtain ⟨⟨k0, k1, k2⟩, f0, f1, f2⟩ := hk
    clear ho CT
    unfold decV
    rw [show (Num.limbs 0).length = 0 by rfl]
    go_wp2
    refine bodyPost_ret (v := .tuple #[decV ⟨gn, 0, ed⟩ a1 c1, .int .i64 er]) (by simp [results, Tryz.results28, go_sem, k0, k1, k2, decV, hz1]; try rfl) rfl ?_
    refine ⟨a1, c1, rfl, ?_, ?_⟩
    · exact (((HB1.out.setCell (Nat.le_succ _) _).setCell (Nat.le_succ _) _).setCell (Nat.le_succ _) _).alloc (by simpa using HB1.out.size) _
    · refine owns_mono (base := w.heap.size + 2) ?_ (by omega)
      exact owns_below (ownsRow_setCell_below (ownsRow_setCell_below (ownsRow_setCell_below HO.out (Nat.lt_succ_self _) _) (Nat.lt_succ_self _) _) (Nat.lt_succ_self _) _) ((Below.refl _ _).alloc (Nat.le_refl _) _)
  · have hr : negD d = ⟨!d.neg, d.m, d.e⟩ := if_neg h0
    rw [hr]
    have h1 : (Num.limbs d.m).length ≠ 0 := fun e => h0 ((limbs_zero_iff d.m).1 e)
    have hl : (0 : Int) < ((Num.limbs d.m).length : Int) := by omega
    clear h1
    obtain ⟨gn, m, ed⟩ := d
    simp only at hl
    obtain ⟨L, hL⟩ : ∃ L, L = (Num.limbs m).length := ⟨_, rfl⟩
    have HL := hid hL
    rw [← hL] at hl
    clear hr h0 hL
    cases gn with
    | false =>
      go_enter Tryz.func28, Tryz.ntmps28
      go_wp2_with fail
      refine (CT.out _ (((Below.refl _ _).alloc (Nat.le_refl _) _).alloc (by simp) _)).mono ?_
      rintro e1 w1 ⟨a1, c1, rfl, ho⟩
      have HB1 := hid (below_alloc (below_alloc ho.1))
      have hz1 : w.heap.size + 1 < w1.heap.size := by have := ho.1.size; simp at this; omega
      have HO := hid (owns_mono ho.2 (show w.heap.size + 2 ≤ _ by simp))
      have hk := blk_three (blk_below (blk_new2 w _ _) ho.1)
      obtain ⟨⟨k0, k1, k2⟩, f0, f1, f2⟩ := hk
      clear ho CT
      unfold decV
      simp only [← HL.out]
      go_wp2
      refine bodyPost_ret (v := .tuple #[decV ⟨true, m, ed⟩ a1 c1, .int .i64 er]) (by simp [results, Tryz.results28, go_sem, k0, k1, k2, decV, HL.out, hz1]) rfl ?_
      refine ⟨a1, c1, rfl, ?_, ?_⟩
      · exact (((HB1.out.setCell (Nat.le_succ _) _).setCell (Nat.le_succ _) _).setCell (Nat.le_succ _) _).alloc (by simpa using HB1.out.size) _
      · refine owns_mono (base := w.heap.size + 2) ?_ (by omega)
        exact owns_below (ownsRow_setCell_below (ownsRow_setCell_below (ownsRow_setCell_below HO.out (Nat.lt_succ_self _) _) (Nat.lt_succ_self _) _) (Nat.lt_succ_self _) _) ((Below.refl _ _).alloc (Nat.le_refl _) _)
    | true =>
      go_enter Tryz.func28, Tryz.ntmps28
      go_wp2_with fail
      refine (CT.out _ (((Below.refl _ _).alloc (Nat.le_refl _) _).alloc (by simp) _)).mono ?_
      rintro e1 w1 ⟨a1, c1, rfl, ho⟩
      have HB1 := hid (below_alloc (below_alloc ho.1))
      have hz1 : w.heap.size + 1 < w1.heap.size := by have := ho.1.size; simp at this; omega
      have HO := hid (owns_mono ho.2 (show w.heap.size + 2 ≤ _ by simp))
      have hk := blk_three (blk_below (blk_new2 w _ _) ho.1)
      obtain ⟨⟨k0, k1, k2⟩, f0, f1, f2⟩ := hk
      clear ho CT
      unfold decV
      simp only [← HL.out]
      go_wp2
      refine bodyPost_ret (v := .tuple #[decV ⟨false, m, ed⟩ a1 c1, .int .i64 er]) (by simp [results, Tryz.results28, go_sem, k0, k1, k2, decV, HL.out, hz1]) rfl ?_
      refine ⟨a1, c1, rfl, ?_, ?_⟩
      · exact (((HB1.out.setCell (Nat.le_succ _) _).setCell (Nat.le_succ _) _).setCell (Nat.le_succ _) _).alloc (by simpa using HB1.out.size) _
      · refine owns_mono (base := w.heap.size + 2) ?_ (by omega)
        exact owns_below (ownsRow_setCell_below (ownsRow_setCell_below (ownsRow_setCell_below HO.out (Nat.lt_succ_self _) _) (Nat.lt_succ_self _) _) (Nat.lt_succ_self _) _) ((Below.refl _ _).alloc (Nat.le_refl _) _)

end Go.Proofs.YtiblmkecipoanaaGreatDoor
