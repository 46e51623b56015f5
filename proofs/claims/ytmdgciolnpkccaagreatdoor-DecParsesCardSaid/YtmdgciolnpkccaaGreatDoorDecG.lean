/- Layer 2, seventh part: digits, small. -/
import Derived.Test.YtmdgciolnpkccaaGreatDoorDecE
import Derived.Test.YtmdgciolnpkccaaGreatDoorLimbJ
import Derived.Laws.RangeAny
namespace Go.Proofs.YtmdgciolnpkccaaGreatDoor
open Go.RowKit

def isD (c : UInt8) : Bool := decide (48 ≤ c.toNat) && decide (c.toNat ≤ 57)
theorem isD_iff {c : UInt8} : isD c = true ↔ 48 ≤ c.toNat ∧ c.toNat ≤ 57 := by simp [isD]

theorem takeWhile_stop (l : List UInt8) (k : Nat) (hk : k < l.length) (h : ∀ j (hj : j < k), isD (l[j]'(by omega)) = true) (hs : isD (l[k]'hk) = false) : l.takeWhile isD = l.take k ∧ l.dropWhile isD = l.drop k := by
  induction l generalizing k with
  | nil => simp at hk
  | cons c l ih =>
    cases k with
    | zero => simp at hs; simp [hs]
    | succ k =>
      have h0 := h 0 (by omega)
      simp at h0
      obtain ⟨e1, e2⟩ := ih k (by simpa using hk) (fun j hj => by have := h (j + 1) (by omega); simpa using this) (by simpa using hs)
      simp [h0, e1, e2]
theorem takeWhile_all (l : List UInt8) (h : ∀ j (hj : j < l.length), isD (l[j]) = true) : l.takeWhile isD = l ∧ l.dropWhile isD = [] := by
  induction l with
  | nil => exact ⟨rfl, rfl⟩
  | cons c l ih =>
    have h0 := h 0 (by simp)
    simp at h0
    obtain ⟨e1, e2⟩ := ih (fun j hj => by have := h (j + 1) (by simpa using hj); simpa using this)
    simp [h0, e1, e2]

theorem below_iter (w : World) (s : ByteArray) (k : Nat) : Below w.heap.size w (w.iter s k) := (Below.refl _ _).alloc (Nat.le_refl _) _

set_option maxRecDepth 100000 in
set_option maxHeartbeats 400000 in
theorem dec_digits (s : ByteArray) (w : World) (_hs : s.size ≤ 9223372036854775807) :
    Calls Tryz.prog 120 #[.string s] w fun en w' => en = .returned (.tuple #[.string ⟨(s.data.toList.takeWhile isD).toArray⟩, .string ⟨(s.data.toList.dropWhile isD).toArray⟩]) ∧ Below w.heap.size w w' := by
  obtain ⟨A, hA⟩ : ∃ A : ByteArray, A = ⟨(s.data.toList.takeWhile isD).toArray⟩ := ⟨_, rfl⟩
  obtain ⟨B, hB⟩ : ∃ B : ByteArray, B = ⟨(s.data.toList.dropWhile isD).toArray⟩ := ⟨_, rfl⟩
  rw [← hA, ← hB]
  have HA := hid hA
  have HB := hid hB
  have hls : s.data.toList.length = s.size := rfl
  have HLS := hid hls
  clear hA hB hls
  go_enter Tryz.func120, Tryz.ntmps120
  go_wp2
  go_loopw [] (fun wr => ∃ k : Nat, k ≤ s.size ∧ wr = w.iter s k ∧ ∀ j (hj : j < k) (hjs : j < s.size), isD (s[j]'hjs) = true) (fun wr => s.size - wr.iterPos w.heap.size)
  case atStart => exact ⟨0, Nat.zero_le _, rfl, fun j hj => by omega⟩
  case round =>
    obtain ⟨k, hk, rfl, hd⟩ := hrel
    have HD := hid hd
    clear hd
    by_cases hlt : k < s.size
    · by_cases hdig : isD (s[k]'hlt) = true
      · have hb := isD_iff.1 hdig
        have hrun := fun ty => run_next_ascii (P := Tryz.prog) w s k ty hlt (by omega)
        obtain ⟨c, hc⟩ : ∃ c, c = (s[k]'hlt).toNat := ⟨_, rfl⟩
        rw [← hc] at hrun hb
        have HD2 : Hid (∀ j (hj : j < k + 1) (hjs : j < s.size), isD (s[j]'hjs) = true) := fun j hj hjs => by
          by_cases h : j < k
          · exact HD.out j h hjs
          · obtain rfl : j = k := by omega
            exact hdig
        clear hdig hc
        go_wp2
        go_roundw
        case rel => exact ⟨k + 1, by omega, rfl, HD2.out⟩
        case measure => simp; omega
      · have hdig : isD (s[k]'hlt) = false := by simpa using hdig
        have hrun := fun ty => run_next_any (P := Tryz.prog) w s k ty hlt
        have hr : (Utf8.decode s k).1 < 48 ∨ 57 < (Utf8.decode s k).1 := by
          by_cases h8 : (s[k]'hlt).toNat < 128
          · rw [decode_ascii s k hlt h8]
            have : ¬ (48 ≤ (s[k]'hlt).toNat ∧ (s[k]'hlt).toNat ≤ 57) := fun h => by rw [isD_iff.2 h] at hdig; cases hdig
            simp only; omega
          · have := (decode_high s k hlt (by omega)).1; omega
        have hr2 := decode_le s k
        obtain ⟨r, hre⟩ : ∃ r, r = (Utf8.decode s k).1 := ⟨_, rfl⟩
        obtain ⟨q, hqe⟩ : ∃ q, q = (Utf8.decode s k).2 := ⟨_, rfl⟩
        rw [← hre, ← hqe] at hrun
        rw [← hre] at hr hr2
        have HE := hid (takeWhile_stop s.data.toList k hlt (fun j hj => HD.out j hj (by omega)) hdig)
        clear hdig hre hqe
        have hkk : (0 : Int) ≤ (k : Int) ∧ (k : Int) ≤ (s.size : Int) := by omega
        rcases hr with hr | hr
        all_goals
          go_wp2_with fail
          go_quiet (fail)
          go_wp2
          go_ret2
          refine ⟨?_, below_drewN (below_iter w s _) nq⟩
          have e1 : s.extract 0 k = A := bytes_ext2 (by rw [Lib.extract_data, HA.out]; simp [HE.out.1])
          have e2 : s.extract k s.size = B := bytes_ext2 (by rw [Lib.extract_data, HB.out]; simp only [HE.out.2]; rw [List.take_of_length_le (by rw [List.length_drop, HLS.out]; omega)])
          rw [← e1, ← e2]
          rfl
    · have hrun := fun ty => run_next_end (P := Tryz.prog) w s k ty hlt
      have HE := hid (takeWhile_all s.data.toList (fun j hj => HD.out j (by have := HLS.out; omega) hj))
      go_wp2
      go_ret2
      refine ⟨?_, below_iter w s _⟩
      have e1 : s = A := bytes_ext2 (by rw [HA.out]; simp [HE.out.1])
      have e2 : (⟨#[]⟩ : ByteArray) = B := bytes_ext2 (by rw [HB.out]; simp [HE.out.2])
      rw [← e1, ← e2]
      rfl

/-- A power's worth; what is too great is cut. -/
def smallN (l : List UInt8) : Nat := if 6 < (Lib.trimLeftB l 48).length then 999999 else num10 (Lib.trimLeftB l 48) 0

theorem parse_num : ∀ (l : List UInt8) (acc : Nat), Digs l → (acc + 1) * 10 ^ l.length ≤ 1000000000000000000 → Lib.parseUint10 acc l = .ok (num10 l acc)
  | [], acc, _, _ => rfl
  | c :: r, acc, h, hb => by
    have hc := h c (by simp)
    have hp : 1 ≤ 10 ^ r.length := Nat.pow_pos (by decide)
    rw [List.length_cons, Nat.pow_succ] at hb
    have h1 : (acc + 1) * (10 ^ r.length * 10) = (acc * 10 + 10) * 10 ^ r.length := by
      rw [show acc * 10 + 10 = (acc + 1) * 10 by omega]; ac_rfl
    rw [h1] at hb
    have h2 : (acc * 10 + 10) * 1 ≤ (acc * 10 + 10) * 10 ^ r.length := Nat.mul_le_mul_left _ hp
    have h3 : (acc * 10 + (c.toNat - 48) + 1) * 10 ^ r.length ≤ (acc * 10 + 10) * 10 ^ r.length := Nat.mul_le_mul_right _ (by omega)
    have ih := parse_num r (acc * 10 + (c.toNat - 48)) (fun d hd => h d (by simp [hd])) (by omega)
    rw [Lib.parseUint10, if_pos hc, if_neg (by omega), if_neg (by omega), ih, num10, Nat.mul_comm 10]
theorem atoi_num (l : List UInt8) (h : Digs l) (hl : l.length ≤ 6) : Lib.atoiAll (48 :: l) = .ok ((num10 l 0 : Nat) : Int) := by
  have hd : Digs (48 :: l) := fun c hc => by
    rcases List.mem_cons.1 hc with rfl | hc
    · exact ⟨by decide, by decide⟩
    · exact h c hc
  have hb : 10 ^ (48 :: l).length ≤ 10 ^ 7 := Nat.pow_le_pow_right (by decide) (by simp; omega)
  have e := parse_num (48 :: l) 0 hd (by omega)
  have e2 : num10 (48 :: l) 0 = num10 l 0 := rfl
  have hlt := num10_lt l h
  have hb2 : 10 ^ l.length ≤ 10 ^ 6 := Nat.pow_le_pow_right (by decide) hl
  rw [e2] at e
  unfold Lib.atoiAll Lib.parseMag
  simp only [show (48 : UInt8).toNat = 48 from rfl, show ¬ ((48 : Nat) = 43 ∨ (48 : Nat) = 45) by decide, if_false, e, List.cons_ne_nil]
  rw [if_neg (by omega), if_neg (by omega), if_neg (by decide)]

set_option maxRecDepth 100000 in
set_option maxHeartbeats 400000 in
theorem dec_small (s : ByteArray) (w : World) (hd : Digs s.data.toList) (_hs : s.size ≤ 9223372036854775806) :
    Calls Tryz.prog 122 #[.string s] w fun en w' => en = .returned (.int .i64 (smallN s.data.toList)) ∧ Below w.heap.size w w' := by
  have C := Tryz.strings_TrimLeft_one s 48 (by decide) w
  obtain ⟨T, hT⟩ : ∃ T : ByteArray, T = ⟨(Lib.trimLeftB s.data.toList 48).toArray⟩ := ⟨_, rfl⟩
  rw [← hT] at C
  have hTd : T.data.toList = Lib.trimLeftB s.data.toList 48 := by rw [hT]
  have hTl : T.data.toList.length = T.size := rfl
  have hDT : Digs T.data.toList := fun c hc => hd c (by
    rw [hTd] at hc; exact (List.dropWhile_suffix _).subset hc)
  have hr : smallN s.data.toList = if 6 < T.size then 999999 else num10 T.data.toList 0 := by unfold smallN; rw [← hTd, hTl]
  rw [hr]
  have C := hid C
  clear hd hT hTd hr
  by_cases h6 : 6 < T.size
  · rw [if_pos h6]
    clear hTl hDT
    go_enter Tryz.func122, Tryz.ntmps122
    go_wp2_with (go_at_call 178; refine C.out.mono ?_; rintro e1 w1 ⟨rfl, rfl⟩)
    go_ret
    exact ⟨rfl, Below.refl _ _⟩
  · rw [if_neg h6]
    have h6' : T.size ≤ 6 := by omega
    obtain ⟨n, hn⟩ : ∃ n, n = num10 T.data.toList 0 := ⟨_, rfl⟩
    have hat : Lib.atoiAll ((⟨#[48]⟩ : ByteArray) ++ T).data.toList = .ok (n : Int) := by
      rw [append_data, hn]; exact atoi_num T.data.toList hDT (by omega)
    have hsz : ((⟨#[48]⟩ : ByteArray) ++ T).size ≤ 10 := by simp [ByteArray.size_append]; show 1 + T.size ≤ 10; omega
    have CA := hid (fun W => Tryz.strconv_Atoi_ok ((⟨#[48]⟩ : ByteArray) ++ T) (by omega) (n : Int) hat W)
    rw [← hn]
    clear h6 hn hat hsz hTl hDT
    go_enter Tryz.func122, Tryz.ntmps122
    go_wp2_with (first | (go_at_call 178; refine C.out.mono ?_; rintro e1 w1 ⟨rfl, rfl⟩) | (go_at_call 98; refine (CA.out _).mono ?_; rintro e2 w2 ⟨rfl, hw2⟩))
    go_ret
    refine ⟨rfl, ?_⟩
    rcases hw2 with rfl | ⟨t, rfl⟩
    · exact Below.refl _ _
    · exact Lib.bytesWorld_below _ _ _

end Go.Proofs.YtmdgciolnpkccaaGreatDoor
