/- The document's answer, sixteenth part: run, and the parts of a literal. -/
import Derived.Test.YtmdgciolnpkccaaGreatDoorDecI
import Derived.Test.YtmdgciolnpkccaaGreatDoorRefI
namespace Go.Proofs.YtmdgciolnpkccaaGreatDoor
open Go.RowKit

/-- The power's digits and its sign; none: it is none. -/
def ctailL (l : List UInt8) : Option (List UInt8 × Bool) :=
  match l with
  | [] => some ([], false)
  | c :: r =>
    if c.toNat = 101 ∨ c.toNat = 69 then
      let q := if Lib.hasPrefix r [45] = true then Lib.trimPrefix r [45] else Lib.trimPrefix r [43]
      if q.takeWhile isD = [] ∨ q.dropWhile isD ≠ [] then none
      else some (q.takeWhile isD, Lib.hasPrefix r [45])
    else none
def powV (x : List UInt8 × Bool) : Int := (if x.2 = true then -1 else 1) * (smallN x.1 : Int)
theorem tail_cut (l : List UInt8) : tailL l = (ctailL l).map powV := by
  unfold tailL ctailL
  cases l with
  | nil => rfl
  | cons c r =>
    simp only
    split
    · by_cases hp : Lib.hasPrefix r [45] = true
      · simp only [hp, if_true]
        split
        · rfl
        · simp [powV]
      · simp only [hp, Bool.false_eq_true, if_false]
        split
        · rfl
        · simp [powV]
    · rfl
/-- A literal's parts, its power in digits. -/
def cutL (l : List UInt8) : Option (Bool × List UInt8 × List UInt8 × List UInt8 × Bool) :=
  let r0 := Lib.trimPrefix l [45]
  let wh := r0.takeWhile isD
  let r1 := r0.dropWhile isD
  if wh = [] ∨ (1 < wh.length ∧ wh.head? = some 48) then none
  else if Lib.hasPrefix r1 [46] = true then
    let r := Lib.trimPrefix r1 [46]
    if r.takeWhile isD = [] then none
    else (ctailL (r.dropWhile isD)).map fun x => (Lib.hasPrefix l [45], wh, r.takeWhile isD, x.1, x.2)
  else (ctailL r1).map fun x => (Lib.hasPrefix l [45], wh, [], x.1, x.2)
theorem scan_cut (l : List UInt8) : scanL l = (cutL l).map fun x => (x.1, x.2.1, x.2.2.1, powV x.2.2.2) := by
  unfold scanL cutL
  simp only [tail_cut]
  split
  · rfl
  · split
    · split
      · rfl
      · rw [Option.map_map, Option.map_map]; rfl
    · rw [Option.map_map, Option.map_map]; rfl

theorem tw_in (R : List UInt8) (n : Nat) (h : n < (R.takeWhile isD).length) : ∃ h2 : n < R.length, isD (R[n]'h2) = true := by
  have hp := List.takeWhile_prefix (p := isD) (l := R)
  have h2 : n < R.length := Nat.lt_of_lt_of_le h hp.length_le
  refine ⟨h2, ?_⟩
  have e : (R.takeWhile isD)[n]'h = R[n]'h2 := hp.getElem h
  rw [← e]
  exact isD_iff.2 (take_digs R _ (List.getElem_mem h))
theorem tw_out : ∀ (R : List UInt8) (h : (R.takeWhile isD).length < R.length), isD (R[(R.takeWhile isD).length]'h) = false
  | [], h => by simp at h
  | c :: r, h => by
    by_cases hc : isD c = true
    · have e : (c :: r).takeWhile isD = c :: r.takeWhile isD := by rw [List.takeWhile_cons_of_pos hc]
      simp only [e, List.length_cons, List.getElem_cons_succ]
      exact tw_out r (by rw [e] at h; simpa using h)
    · have e : (c :: r).takeWhile isD = [] := by rw [List.takeWhile_cons_of_neg hc]
      simp only [e, List.length_nil, List.getElem_cons_zero]
      simpa using hc
theorem byte_at {s : ByteArray} {at' : Nat} {R : List UInt8} (hR : s.data.toList.drop at' = R) {n : Nat} (hn : n < R.length) : ∃ hlt : at' + n < s.size, s[at' + n]'hlt = R[n]'hn := by
  subst hR
  have hl : s.data.toList.length = s.size := rfl
  have hlt : at' + n < s.size := by rw [List.length_drop] at hn; omega
  refine ⟨hlt, ?_⟩
  rw [List.getElem_drop]
  rfl
theorem index_byte {s : ByteArray} {i c : Nat} {x : Int} (hx : x = (i : Int)) (hlt : i < s.size) (hc : (s[i]'hlt).toNat = c) (W : World) :
    (Instr.index 9 (.string s) (.int .i64 x)).run Tryz.prog W = .ok (.int .u8 (c : Int)) W := by
  subst hx
  rw [run_index_string W 9 s .i64 (i : Int) Tryz.underlying9, dif_pos ⟨by omega, by omega⟩]
  simp [hc]

set_option maxHeartbeats 800000 in
theorem ref2_run (s : ByteArray) (p : Nat) (R : List UInt8) (w : World) (hR : s.data.toList.drop p = R) (hp : p ≤ s.size) (hs : s.size ≤ 9223372036854775807) :
    Calls Tryz.prog 127 #[.string s, .int .i64 p] w fun e w' => e = .returned (.int .i64 (((R.takeWhile isD).length : Nat) : Int)) ∧ w' = w := by
  have hl : R.length + p = s.size := by
    have h1 : s.data.toList.length = s.size := rfl
    rw [← hR, List.length_drop]; omega
  have hin : ∀ n, n < (R.takeWhile isD).length → ∃ c : Nat, 48 ≤ c ∧ c ≤ 57 ∧ p + n < s.size ∧ ∀ W, (Instr.index 9 (.string s) (.int .i64 ((p : Int) + n))).run Tryz.prog W = .ok (.int .u8 (c : Int)) W := by
    intro n hn
    obtain ⟨h2, hd⟩ := tw_in R n hn
    obtain ⟨hlt, hb⟩ := byte_at hR h2
    have hd2 := isD_iff.1 hd
    exact ⟨(R[n]'h2).toNat, hd2.1, hd2.2, hlt, index_byte (by omega) hlt (by rw [hb])⟩
  have hout : (R.takeWhile isD).length < R.length → ∃ c : Nat, (c < 48 ∨ 57 < c) ∧ ∀ W, (Instr.index 9 (.string s) (.int .i64 ((p : Int) + (R.takeWhile isD).length))).run Tryz.prog W = .ok (.int .u8 (c : Int)) W := by
    intro hn
    have hd := tw_out R hn
    obtain ⟨hlt, hb⟩ := byte_at hR hn
    refine ⟨(R[(R.takeWhile isD).length]'hn).toNat, ?_, index_byte (by omega) hlt (by rw [hb])⟩
    have : ¬ (48 ≤ (R[(R.takeWhile isD).length]'hn).toNat ∧ (R[(R.takeWhile isD).length]'hn).toNat ≤ 57) := fun h => by rw [isD_iff.2 h] at hd; cases hd
    omega
  have hNR := takeWhile_le R isD
  obtain ⟨N, hN⟩ : ∃ N, N = (R.takeWhile isD).length := ⟨_, rfl⟩
  rw [← hN] at hin hout hNR ⊢
  have HIN := hid hin
  have HOUT := hid hout
  clear hin hout hN hR
  go_enter Tryz.func127, Tryz.ntmps127
  go_wp2
  go_loopw [5] (fun v wr => ∃ n : Nat, n ≤ N ∧ v = .int .i64 n ∧ wr = w) (fun v _ => N - (intOf v).toNat)
  case atStart => exact ⟨0, Nat.zero_le _, rfl, by trivial⟩
  case round =>
    obtain ⟨n, hn, rfl, rfl⟩ := hrel
    by_cases hlt : n < N
    · obtain ⟨c, c1, c2, c3, hix⟩ := HIN.out n hlt
      have hlt2 : (p : Int) + n < s.size := by omega
      go_wp2
      go_roundw
      case rel => exact ⟨n + 1, by omega, by go_num, by trivial⟩
      case measure => simp [intOf]; omega
    · obtain rfl : n = N := by omega
      by_cases he : n < R.length
      · obtain ⟨c, hc, hix⟩ := HOUT.out he
        have hlt2 : (p : Int) + n < s.size := by omega
        rcases hc with hc | hc
        · go_wp2
          go_ret
          exact ⟨rfl, by trivial⟩
        · go_wp2
          go_ret
          exact ⟨rfl, by trivial⟩
      · have hlt2 : ¬ (p : Int) + n < s.size := by omega
        go_wp2
        go_ret
        exact ⟨rfl, by trivial⟩

end Go.Proofs.YtmdgciolnpkccaaGreatDoor
