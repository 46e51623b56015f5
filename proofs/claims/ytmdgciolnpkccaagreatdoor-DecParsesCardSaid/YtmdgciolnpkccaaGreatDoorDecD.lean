/- Layer 2, fourth part: figures, Text. -/
import Derived.Test.YtmdgciolnpkccaaGreatDoorDecC
namespace Go.Proofs.YtmdgciolnpkccaaGreatDoor
open Go.RowKit

theorem bytes_ext {s : ByteArray} {l : List UInt8} (h : s.data.toList = l) : s = ⟨l.toArray⟩ := by
  subst h; obtain ⟨⟨l⟩⟩ := s; rfl
theorem bytes_ext2 {s t : ByteArray} (h : s.data.toList = t.data.toList) : s = t := by rw [bytes_ext h, ← bytes_ext (s := t) rfl]
theorem append_data (s t : ByteArray) : (s ++ t).data.toList = s.data.toList ++ t.data.toList := by simp [ByteArray.data_append]
theorem ret_str {s : ByteArray} {l : List UInt8} (h : s.data.toList = l) : Ending.returned (.string s) = .returned (.string ⟨l.toArray⟩) := by rw [bytes_ext h]

theorem itoa_len (h : Int) (hh : -1000000 ≤ h ∧ h ≤ 1000000) : (Lib.itoa h).length ≤ 8 := by
  unfold Lib.itoa
  split
  · have := Num.decDigits_le h.natAbs 7 (by decide) (by omega)
    simp; omega
  · have := Num.decDigits_le h.toNat 7 (by decide) (by omega)
    omega
theorem point_join (Z : List UInt8) (p n : Nat) (h : Z.length = n) : ((Z.drop 0).take (p - 0) ++ [46]) ++ (Z.drop p).take (n - p) = Z.take p ++ 46 :: Z.drop p := by
  rw [List.take_of_length_le (l := Z.drop p) (by rw [List.length_drop]; omega)]; simp

/-- How digits are laid out. -/
def figL (m : List UInt8) (exp h : Int) : List UInt8 :=
  if 0 ≤ exp ∧ h ≤ 20 then m ++ List.replicate exp.toNat 48
  else if exp < 0 ∧ -7 ≤ h then
    let z := List.replicate (1 - exp - m.length).toNat 48 ++ m
    z.take (z.length + exp).toNat ++ 46 :: z.drop (z.length + exp).toNat
  else (if 1 < m.length then m.take 1 ++ 46 :: m.drop 1 else m) ++ 101 :: Lib.itoa h

set_option maxRecDepth 100000 in
set_option maxHeartbeats 1000000 in
theorem dec_figures (s : ByteArray) (exp h : Int) (w : World) (hs : 1 ≤ s.size ∧ s.size ≤ 1000000) (he : -1000000 ≤ exp ∧ exp ≤ 1000000) (hh : -1000000 ≤ h ∧ h ≤ 1000000) (htab : Pow w) :
    Calls Tryz.prog 116 #[.string s, .int .i64 exp, .int .i64 h] w fun en w' => en = .returned (.string ⟨(figL s.data.toList exp h).toArray⟩) ∧ Below w.heap.size w w' := by
  have hls : s.data.toList.length = s.size := rfl
  obtain ⟨F, hF⟩ : ∃ F, F = figL s.data.toList exp h := ⟨_, rfl⟩
  rw [← hF]
  have HF := hid hF
  have HLS := hid hls
  have HTAB := hid htab
  clear hF hls htab
  by_cases c1 : 0 ≤ exp ∧ h ≤ 20
  · obtain ⟨c1a, c1b⟩ := c1
    obtain ⟨x, rfl⟩ : ∃ x : Nat, exp = x := ⟨exp.toNat, by omega⟩
    have CR := Tryz.strings_Repeat ⟨#[48]⟩ x w (by omega) (by simp [ByteArray.size]; omega)
    obtain ⟨R, hR⟩ : ∃ R : ByteArray, R = ⟨(Lib.repeatL (ByteArray.data ⟨#[48]⟩).toList x).toArray⟩ := ⟨_, rfl⟩
    rw [← hR] at CR
    have CR := hid CR
    have HR := hid (show R.data.toList = List.replicate x 48 by rw [hR]; simp [Num.repeatL_one])
    have hRl : R.size ≤ 1000000 := by rw [hR]; simp [ByteArray.size, Num.repeatL_one]; omega
    clear hR
    go_enter Tryz.func116, Tryz.ntmps116
    go_wp2_with fail
    refine CR.out.mono ?_
    rintro e1 w1 ⟨rfl, hb1⟩
    have HB1 := hid hb1
    clear hb1 CR
    go_wp2
    go_ret
    refine ⟨ret_str ?_, HB1.out⟩
    rw [append_data, HR.out, HF.out]
    simp [figL, c1b]
  · by_cases c2 : exp < 0 ∧ -7 ≤ h
    · obtain ⟨c2a, c2b⟩ := c2
      have hF2 : F = ((List.replicate (1 - exp - s.data.toList.length).toNat 48 ++ s.data.toList).take ((List.replicate (1 - exp - s.data.toList.length).toNat 48 ++ s.data.toList).length + exp).toNat ++ 46 :: (List.replicate (1 - exp - s.data.toList.length).toNat 48 ++ s.data.toList).drop ((List.replicate (1 - exp - s.data.toList.length).toNat 48 ++ s.data.toList).length + exp).toNat) := by
        rw [HF.out]; unfold figL
        rw [if_neg (by omega), if_pos ⟨c2a, c2b⟩]
      rw [HLS.out] at hF2
      by_cases c3 : 0 < 1 - exp - (s.size : Int)
      · obtain ⟨x, hx⟩ : ∃ x : Nat, 1 - exp - (s.size : Int) = x := ⟨(1 - exp - (s.size : Int)).toNat, by omega⟩
        have CR := Tryz.strings_Repeat ⟨#[48]⟩ x w (by omega) (by simp [ByteArray.size]; omega)
        rw [← hx] at CR
        obtain ⟨R, hR⟩ : ∃ R : ByteArray, R = ⟨(Lib.repeatL (ByteArray.data ⟨#[48]⟩).toList x).toArray⟩ := ⟨_, rfl⟩
        rw [← hR] at CR
        have CR := hid CR
        have HR := hid (show R.data.toList = List.replicate x 48 by rw [hR]; simp [Num.repeatL_one])
        have hRl : R.size = x := by rw [hR]; simp [ByteArray.size, Num.repeatL_one]
        have hxb : x ≤ 2000000 := by omega
        have ha0 : 0 ≤ (x : Int) + (s.size : Int) + exp := by omega
        have ha1 : (x : Int) + (s.size : Int) + exp ≤ (x : Int) + (s.size : Int) := by omega
        have ha2 : (x : Int) + (s.size : Int) + exp ≤ 2000000 := by omega
        rw [hx] at hF2
        have HX := hid hx
        have HF2 := hid hF2
        clear hx hR hF2 HF
        go_enter Tryz.func116, Tryz.ntmps116
        go_wp2_with fail
        refine CR.out.mono ?_
        rintro e1 w1 ⟨rfl, hb1⟩
        have HB1 := hid hb1
        clear hb1 CR
        go_wp2_with fail
        go_quiet (fail)
        go_wp2
        go_ret
        refine ⟨ret_str ?_, below_drewN HB1.out nq⟩
        have hd46 : (ByteArray.mk #[46]).data.toList = [46] := rfl
        rw [append_data, append_data, Lib.extract_data, Lib.extract_data, append_data, HR.out, hd46, point_join _ _ _ (by rw [List.length_append, List.length_replicate, HLS.out]), HF2.out, Int.toNat_natCast, List.length_append, List.length_replicate, HLS.out, Int.natCast_add]
      · have hz : (1 - exp - (s.size : Int)).toNat = 0 := by omega
        rw [hz, List.replicate_zero, List.nil_append, HLS.out] at hF2
        have ha0 : 0 ≤ (s.size : Int) + exp := by omega
        have ha1 : (s.size : Int) + exp ≤ (s.size : Int) := by omega
        have c3' : 1 - exp - (s.size : Int) ≤ 0 := by omega
        have HF2 := hid hF2
        clear hF2 HF hz c3
        go_enter Tryz.func116, Tryz.ntmps116
        go_wp2_with fail
        go_quiet (fail)
        go_wp2
        go_ret
        refine ⟨ret_str ?_, below_drewN (Below.refl _ _) nq⟩
        have hd46 : (ByteArray.mk #[46]).data.toList = [46] := rfl
        rw [append_data, append_data, Lib.extract_data, Lib.extract_data, hd46, point_join _ _ _ HLS.out, HF2.out]
    · have hF2 : F = (if 1 < s.data.toList.length then s.data.toList.take 1 ++ 46 :: s.data.toList.drop 1 else s.data.toList) ++ 101 :: Lib.itoa h := by
        rw [HF.out]; unfold figL
        rw [if_neg c1, if_neg c2]
      rw [HLS.out] at hF2
      have CI := fun W (hb : Below w.heap.size w W) => Tryz.strconv_Itoa h (by omega) (by omega) W (HTAB.out.next hb)
      obtain ⟨I, hI⟩ : ∃ I : ByteArray, I = ⟨(Lib.itoa h).toArray⟩ := ⟨_, rfl⟩
      rw [← hI] at CI
      have hIl : I.size ≤ 8 := by rw [hI]; exact itoa_len h hh
      have HI := hid (show I.data.toList = Lib.itoa h by rw [hI])
      have CI := hid CI
      have HC1 := hid c1
      have HC2 := hid c2
      clear hI c1 c2 HF
      by_cases h1 : 1 < s.size
      · rw [if_pos h1] at hF2
        have HF2 := hid hF2
        clear hF2
        have d1 : (exp < 0 ∧ h ≤ -8) ∨ (0 ≤ exp ∧ 21 ≤ h) := by have := HC1.out; have := HC2.out; omega
        rcases d1 with ⟨e1, e2⟩ | ⟨e1, e2⟩
        all_goals
          go_enter Tryz.func116, Tryz.ntmps116
          go_wp2_with fail
          go_quiet (fail)
          go_wp2_with fail
          refine (CI.out _ (below_drewN (Below.refl _ _) nq)).mono ?_
          rintro e3 w3 ⟨rfl, k2, os, rfl⟩
          go_wp2
          go_ret
          refine ⟨ret_str ?_, below_grow _ _ _⟩
          have hd46 : (ByteArray.mk #[46]).data.toList = [46] := rfl
          have hd101 : (ByteArray.mk #[101]).data.toList = [101] := rfl
          rw [append_data, append_data, append_data, append_data, Lib.extract_data, Lib.extract_data, hd46, hd101, HI.out, point_join _ _ _ HLS.out, HF2.out, List.append_assoc]
          rfl
      · rw [if_neg h1] at hF2
        have HF2 := hid hF2
        clear hF2
        have h1' : s.size ≤ 1 := by omega
        clear h1
        have d1 : (exp < 0 ∧ h ≤ -8) ∨ (0 ≤ exp ∧ 21 ≤ h) := by have := HC1.out; have := HC2.out; omega
        rcases d1 with ⟨e1, e2⟩ | ⟨e1, e2⟩
        all_goals
          go_enter Tryz.func116, Tryz.ntmps116
          go_wp2_with fail
          refine (CI.out _ (Below.refl _ _)).mono ?_
          rintro e3 w3 ⟨rfl, k2, os, rfl⟩
          go_wp2
          go_ret
          refine ⟨ret_str ?_, below_grow _ _ _⟩
          have hd101 : (ByteArray.mk #[101]).data.toList = [101] := rfl
          rw [append_data, append_data, hd101, HI.out, HF2.out, List.append_assoc]
          rfl

end Go.Proofs.YtmdgciolnpkccaaGreatDoor
