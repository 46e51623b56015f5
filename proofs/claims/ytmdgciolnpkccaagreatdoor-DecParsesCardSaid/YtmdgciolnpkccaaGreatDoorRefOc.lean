/- The document's answer, eighteenth part: Cut's walk. -/
import Derived.Test.YtmdgciolnpkccaaGreatDoorRefOb
namespace Go.Proofs.YtmdgciolnpkccaaGreatDoor
open Go.RowKit

/-- The power's digits, behind its sign. -/
def tlD (q : List UInt8) (d : Bool) : Option (List UInt8 × Bool) := if q.takeWhile isD = [] ∨ q.dropWhile isD ≠ [] then none else some (q.takeWhile isD, d)
theorem ctail_sign {c : UInt8} (r : List UInt8) (hc : c.toNat = 101 ∨ c.toNat = 69) :
    (∃ r2, r = 45 :: r2 ∧ ctailL (c :: r) = tlD r2 true) ∨ (∃ r2, r = 43 :: r2 ∧ ctailL (c :: r) = tlD r2 false) ∨ ((r = [] ∨ ∃ x t, r = x :: t ∧ x ≠ 45 ∧ x ≠ 43) ∧ ctailL (c :: r) = tlD r false) := by
  have e : ctailL (c :: r) = tlD (if Lib.hasPrefix r [45] = true then Lib.trimPrefix r [45] else Lib.trimPrefix r [43]) (Lib.hasPrefix r [45]) := by
    unfold ctailL tlD
    simp only
    rw [if_pos hc]
  rcases pre_cases r 45 with ⟨r2, h1, h2, h3⟩ | ⟨h1, h2, _⟩
  · refine .inl ⟨r2, h1, ?_⟩
    rw [e, h2, h3]; rfl
  · rw [h2] at e
    simp only [Bool.false_eq_true, if_false] at e
    rcases pre_cases r 43 with ⟨r2, h3, _, h4⟩ | ⟨h3, _, h4⟩
    · refine .inr (.inl ⟨r2, h3, ?_⟩)
      rw [e, h4]
    · refine .inr (.inr ⟨?_, by rw [e, h4]⟩)
      rcases h1 with h1 | ⟨x, t, h1, h5⟩
      · exact .inl h1
      · rcases h3 with h3 | ⟨y, u, h3, h6⟩
        · exact .inl h3
        · rw [h1] at h3
          simp only [List.cons.injEq] at h3
          obtain ⟨rfl, rfl⟩ := h3
          exact .inr ⟨x, t, h1, h5, h6⟩
theorem tl_some {q : List UInt8} {d : Bool} (h : q.takeWhile isD ≠ []) : tlD q d = if q.dropWhile isD = [] then some (q.takeWhile isD, d) else none := by
  unfold tlD
  by_cases h2 : q.dropWhile isD = []
  · rw [if_neg (fun e => e.elim h (fun e => e h2)), if_pos h2]
  · rw [if_pos (.inr h2), if_neg h2]
theorem ctail_none {c : UInt8} {r : List UInt8} (hc : ¬ (c.toNat = 101 ∨ c.toNat = 69)) : ctailL (c :: r) = none := by
  unfold ctailL
  simp only
  rw [if_neg hc]
theorem byte_ne {c d : UInt8} {k : Nat} (h : c ≠ d) (hd : d.toNat = k) : ((c.toNat : Int) == (k : Int)) = false := by
  rw [beq_eq_false_iff_ne]
  intro e
  exact h (UInt8.toNat_inj.1 (by omega))

set_option maxRecDepth 100000 in
set_option maxHeartbeats 6400000 in
theorem ref2_Cut (s : ByteArray) (l : List UInt8) (w : World) (hl : s.data.toList = l) (hs : s.size ≤ 9223372036854775807) :
    Calls Tryz.prog 63 #[.string s] w (OutCut w l) := by
  have CR := fun p R W hR hp => ref2_run s p R W hR hp hs
  replace CR := hid CR
  have HL := hid hl
  have hpc := pre_cases l 45
  obtain ⟨n0, hn0⟩ : ∃ n, n = Lib.hasPrefix l [45] := ⟨_, rfl⟩
  obtain ⟨r0, hr0⟩ : ∃ r, r = Lib.trimPrefix l [45] := ⟨_, rfl⟩
  rw [← hn0, ← hr0] at hpc
  replace hpc := hid hpc
  replace hn0 := hid hn0
  replace hr0 := hid hr0
  clear hl
  go_enter Tryz.func63, Tryz.ntmps63
  go_upto_region 3 with fail
  go_cut [17] from 8 (fun v17 w' => v17 = .bool n0 ∧ CutAt w w' s 0 l false ⟨#[]⟩ ⟨#[]⟩ ⟨#[]⟩ false)
  case first =>
    have HA : Hid (∀ (o : Obj), o = .cells #[.bool false, .string ⟨#[]⟩, .string ⟨#[]⟩, .string ⟨#[]⟩, .bool false] 79 → CutAt w ((w.alloc o).alloc o) s 0 l false ⟨#[]⟩ ⟨#[]⟩ ⟨#[]⟩ false) := by
      rintro o rfl
      exact ⟨⟨_, by simpa using blk_below (blk_new w _) ((Below.refl _ _).alloc (Nat.le_refl _) _)⟩, ⟨_, blk_new2 w _ _⟩, ((Below.refl _ _).alloc (Nat.le_refl _) _).alloc (by simp) _, by simpa using HL.out, Nat.zero_le _⟩
    rcases hpc.out with ⟨r, e1, e2, _⟩ | ⟨e1 | ⟨c, r, e1, hc⟩, e2, _⟩
    · have hlt : 0 < s.size := by rw [size_eq (HL.out.trans e1)]; simp
      have hlt2 : (0 : Int) < s.size := by omega
      have hix := fun W => index_byte (s := s) (i := 0) (x := 0) rfl hlt (congrArg UInt8.toNat (head_byte (HL.out.trans e1) hlt)) W
      replace e1 := hid e1
      replace e2 := hid e2
      go_wp2_with fail
      go_meet
      case rel => exact ⟨by rw [e2.out], HA.out _ rfl⟩
    · have hlt : s.size = 0 := by rw [size_eq (HL.out.trans e1)]; simp
      have hlt2 : ¬ (0 : Int) < s.size := by omega
      replace e1 := hid e1
      replace e2 := hid e2
      go_wp2_with fail
      go_meet
      case rel => exact ⟨by rw [e2.out], HA.out _ rfl⟩
    · have hlt : 0 < s.size := by rw [size_eq (HL.out.trans e1)]; simp
      have hlt2 : (0 : Int) < s.size := by omega
      have hix := fun W => index_byte (s := s) (i := 0) (x := 0) rfl hlt (congrArg UInt8.toNat (head_byte (HL.out.trans e1) hlt)) W
      have hc2 : ((c.toNat : Int) == 45) = false := by
        rw [beq_eq_false_iff_ne]
        intro h
        exact hc (UInt8.toNat_inj.1 (by have : c.toNat = 45 := by omega
                                        rw [this]; rfl))
      replace e1 := hid e1
      replace e2 := hid e2
      clear hc
      go_wp2_with fail
      go_meet
      case rel => exact ⟨by rw [e2.out], HA.out _ rfl⟩
  case rest =>
    obtain ⟨rfl, hA⟩ := hcut
    have HA := hid hA
    obtain ⟨k0, k1, k2, k3, k4⟩ := hA.lit.cells
    obtain ⟨f0, f1, f2, f3, f4⟩ := hA.lit.free
    clear hA
    go_upto_if 17 with fail
    go_cut [5] from 18 (fun v5 w' => ∃ p : Nat, v5 = .int .i64 p ∧ CutAt w w' s p r0 n0 ⟨#[]⟩ ⟨#[]⟩ ⟨#[]⟩ false)
    case first =>
      rcases hpc.out with ⟨r, e1, e2, e3⟩ | ⟨_, e2, e3⟩
      · have hlt : 0 < s.size := by rw [size_eq (HL.out.trans e1)]; simp
        have HN : Hid (CutAt w (wc.setCell ⟨w.heap.size + 1, 0, none⟩ (.bool true)) s 1 r0 n0 ⟨#[]⟩ ⟨#[]⟩ ⟨#[]⟩ false) := by
          subst e2
          rw [e3]
          exact ⟨HA.out.res.other (by omega) _ _, HA.out.lit.set0 true, HA.out.bel.setCell (by simp only; omega) _, by rw [HL.out, e1]; rfl, by omega⟩
        clear e1 e3
        subst e2
        go_wp2_with fail
        go_meet
        case rel => exact ⟨1, by trivial, HN.out⟩
      · have HN : Hid (CutAt w wc s 0 r0 n0 ⟨#[]⟩ ⟨#[]⟩ ⟨#[]⟩ false) := by subst e2; rw [e3]; exact HA.out
        clear e3
        subst e2
        go_wp2_with fail
        go_meet
        case rel => exact ⟨0, by trivial, HN.out⟩
    case rest =>
      obtain ⟨p, rfl, hA⟩ := hcut
      clear HA k0 k1 k2 k3 k4 f0 f1 f2 f3 f4
      have HA := hid hA
      have hpl := hA.le
      have hlen := hA.len
      clear hA
      obtain ⟨n, hn⟩ : ∃ n, n = (r0.takeWhile isD).length := ⟨_, rfl⟩
      have hnr : n ≤ r0.length := by rw [hn]; exact takeWhile_le _ _
      replace hn := hid hn
      go_upto_region 6 with fail
      go_cut [6] from 8 (fun v6 w' => v6 = .int .i64 n ∧ CutAt w w' s p r0 n0 ⟨#[]⟩ ⟨#[]⟩ ⟨#[]⟩ false)
      case first =>
        go_wp2_with fail
        refine (CR.out p r0 _ HA.out.rest hpl).mono ?_
        rintro e1 w1 ⟨rfl, rfl⟩
        go_wp2_with fail
        go_meet
        case rel => exact ⟨by rw [hn.out], HA.out⟩
      case rest =>
        obtain ⟨rfl, hA⟩ := hcut
        replace HA := hid hA
        clear hA
        obtain ⟨bad, hbad⟩ : ∃ b, b = decide (r0.takeWhile isD = [] ∨ (1 < (r0.takeWhile isD).length ∧ (r0.takeWhile isD).head? = some 48)) := ⟨_, rfl⟩
        replace hbad := hid hbad
        go_upto_region 7 with fail
        go_cut [35] from 8 (fun v35 w' => v35 = .bool bad ∧ CutAt w w' s p r0 n0 ⟨#[]⟩ ⟨#[]⟩ ⟨#[]⟩ false)
        case first =>
          have hby := fun c r (h : r0 = c :: r) W => (show CutAt w wc s p (c :: r) n0 ⟨#[]⟩ ⟨#[]⟩ ⟨#[]⟩ false from h ▸ HA.out).byte W
          by_cases hz : r0.takeWhile isD = []
          · obtain rfl : n = 0 := by rw [hn.out, hz]; rfl
            obtain rfl : bad = true := by rw [hbad.out]; simp [hz]
            clear hby
            replace hz := hid hz
            go_wp2_with fail
            go_meet
            case rel => exact ⟨by trivial, HA.out⟩
          · obtain ⟨c, r, hcr⟩ : ∃ c r, r0 = c :: r := by
              cases h : r0 with
              | nil => exact absurd (by rw [h]; rfl) hz
              | cons c r => exact ⟨c, r, rfl⟩
            have hc : isD c = true := by
              by_cases h : isD c = true
              · exact h
              · exact absurd (by rw [hcr, List.takeWhile_cons_of_neg h]) hz
            have htw : r0.takeWhile isD = c :: r.takeWhile isD := by rw [hcr, List.takeWhile_cons_of_pos hc]
            have hix := hby c r hcr
            have hn1 : 1 ≤ n := by rw [hn.out, htw]; simp
            have hne : ((n : Int) == 0) = false := by rw [beq_eq_false_iff_ne]; omega
            have hbd : bad = decide (1 < n ∧ c = 48) := by rw [hbad.out, ← hn.out, htw]; simp
            replace htw := hid htw
            replace hcr := hid hcr
            clear hby hz hc
            by_cases h1 : 1 < n
            · by_cases h48 : c = 48
              · subst h48
                obtain rfl : bad = true := by rw [hbd]; simp [h1]
                replace hbd := hid hbd
                go_wp2_with fail
                go_meet
                case rel => exact ⟨by trivial, HA.out⟩
              · obtain rfl : bad = false := by rw [hbd]; simp [h48]
                have hc2 : ((c.toNat : Int) == 48) = false := by
                  rw [beq_eq_false_iff_ne]
                  intro h
                  exact h48 (UInt8.toNat_inj.1 (by have : c.toNat = 48 := by omega
                                                   rw [this]; rfl))
                replace hbd := hid hbd
                clear h48
                go_wp2_with fail
                go_meet
                case rel => exact ⟨by trivial, HA.out⟩
            · obtain rfl : bad = false := by rw [hbd]; simp [h1]
              replace hbd := hid hbd
              go_wp2_with fail
              go_meet
              case rel => exact ⟨by trivial, HA.out⟩
        case rest =>
          obtain ⟨rfl, hA⟩ := hcut
          replace HA := hid hA
          obtain ⟨k0, k1, k2, k3, k4⟩ := hA.lit.cells
          obtain ⟨f0, f1, f2, f3, f4⟩ := hA.lit.free
          obtain ⟨p0, p1, p2, p3, p4⟩ := hA.res.cells
          obtain ⟨g0, g1, g2, g3, g4⟩ := hA.res.free
          clear hA
          go_upto_if 35 with fail
          go_cut [5] from 36 (fun v5 w' => v5 = .int .i64 p ∧ bad = false ∧ CutAt w w' s p r0 n0 ⟨#[]⟩ ⟨#[]⟩ ⟨#[]⟩ false)
          case first =>
            cases bad with
            | true =>
              have hno : cutL l = none := cut_bad hr0.out.symm (of_decide_eq_true hbad.out.symm)
              replace hno := hid hno
              go_wp2
              refine bodyPost_ret (v := .tuple #[.agg #[.bool n0, .string ⟨#[]⟩, .string ⟨#[]⟩, .string ⟨#[]⟩, .bool false], .bool false]) (by simp [results, Tryz.results63, go_sem, p0, p1, p2, p3, p4]) rfl ?_
              exact ⟨n0, _, _, _, false, false, rfl, ((((HA.out.bel.setCell (by simp) _).setCell (by simp) _).setCell (by simp) _).setCell (by simp) _).setCell (by simp) _, by simpa using hno.out⟩
            | false =>
              go_wp2_with fail
              go_meet
              case rel => exact ⟨by trivial, by trivial, HA.out⟩
          case rest =>
            obtain ⟨rfl, hbf, hA⟩ := hcut
            have hok := of_decide_eq_false (hbad.out.symm.trans hbf)
            replace hok := hid hok
            replace HA := hid hA
            clear k0 k1 k2 k3 k4 f0 f1 f2 f3 f4 p0 p1 p2 p3 p4 g0 g1 g2 g3 g4 hA hbf hbad
            obtain ⟨k0, k1, k2, k3, k4⟩ := HA.out.lit.cells
            obtain ⟨f0, f1, f2, f3, f4⟩ := HA.out.lit.free
            obtain ⟨A, hA⟩ : ∃ A, A = s.extract p (p + n) := ⟨_, rfl⟩
            have hAd : A.data.toList = r0.takeWhile isD := by rw [hA, hn.out]; exact take_digits HA.out.rest
            have hsl1 : (p : Int) + n ≤ s.size := by omega
            replace hAd := hid hAd
            have HN : Hid (CutAt w (wc.setCell ⟨w.heap.size + 1, 1, none⟩ (.string (s.extract p (p + n)))) s p r0 n0 A ⟨#[]⟩ ⟨#[]⟩ false) := by
              rw [← hA]
              exact ⟨HA.out.res.other (by omega) _ _, HA.out.lit.set1 A, HA.out.bel.setCell (by simp only; omega) _, HA.out.rest, HA.out.le⟩
            replace hA := hid hA
            go_upto_region 9 with fail
            go_cut [6] from 8 (fun v6 w' => v6 = .int .i64 n ∧ CutAt w w' s p r0 n0 A ⟨#[]⟩ ⟨#[]⟩ false)
            case first =>
              go_wp2_with fail
              go_meet
              case rel => exact ⟨by trivial, HN.out⟩
            case rest =>
              obtain ⟨rfl, hB⟩ := hcut
              clear HA HN k0 k1 k2 k3 k4 f0 f1 f2 f3 f4
              have HA := hid (show CutAt w wc s (p + n) (r0.dropWhile isD) n0 A ⟨#[]⟩ ⟨#[]⟩ false from ⟨hB.res, hB.lit, hB.bel, by rw [hn.out]; exact drop_digits hB.rest, by omega⟩)
              clear hB
              go_upto_region 10 with fail
              go_cut [5] from 8 (fun v5 w' => v5 = .int .i64 ((p + n : Nat) : Int) ∧ CutAt w w' s (p + n) (r0.dropWhile isD) n0 A ⟨#[]⟩ ⟨#[]⟩ false)
              case first =>
                go_wp2_with fail
                go_meet
                case rel => exact ⟨by simp, HA.out⟩
              case rest =>
                obtain ⟨rfl, hB⟩ := hcut
                obtain ⟨q, hq⟩ : ∃ q, q = p + n := ⟨_, rfl⟩
                obtain ⟨R1, hR1⟩ : ∃ R, R = r0.dropWhile isD := ⟨_, rfl⟩
                rw [← hq, ← hR1] at hB
                rw [← hq]
                have HB := hid hB
                have hql := hB.le
                have hqlen := hB.len
                clear HA hB hq hsl1
                obtain ⟨b1, hb1⟩ : ∃ b, b = Lib.hasPrefix R1 [46] := ⟨_, rfl⟩
                have hpp := pre_cases R1 46
                rw [← hb1] at hpp
                replace hpp := hid hpp
                replace hb1 := hid hb1
                replace hR1 := hid hR1
                go_upto_region 11 with fail
                go_cut [56] from 8 (fun v56 w' => v56 = .bool b1 ∧ CutAt w w' s q R1 n0 A ⟨#[]⟩ ⟨#[]⟩ false)
                case first =>
                  rcases hpp.out with ⟨r, e1, e2, _⟩ | ⟨e1 | ⟨c, r, e1, hc⟩, e2, _⟩
                  · have hlt2 : (q : Int) < s.size := by have := congrArg List.length e1; simp at this; omega
                    have hix := fun W => (show CutAt w wc s q (46 :: r) n0 A ⟨#[]⟩ ⟨#[]⟩ false from e1 ▸ HB.out).byte W
                    replace e1 := hid e1
                    replace e2 := hid e2
                    go_wp2_with fail
                    go_meet
                    case rel => exact ⟨by rw [e2.out], HB.out⟩
                  · have hlt2 : ¬ (q : Int) < s.size := by rw [e1] at hqlen; simp at hqlen; omega
                    replace e1 := hid e1
                    replace e2 := hid e2
                    go_wp2_with fail
                    go_meet
                    case rel => exact ⟨by rw [e2.out], HB.out⟩
                  · have hlt2 : (q : Int) < s.size := by have := congrArg List.length e1; simp at this; omega
                    have hix := fun W => (show CutAt w wc s q (c :: r) n0 A ⟨#[]⟩ ⟨#[]⟩ false from e1 ▸ HB.out).byte W
                    have hc2 : ((c.toNat : Int) == 46) = false := by
                      rw [beq_eq_false_iff_ne]
                      intro h
                      exact hc (UInt8.toNat_inj.1 (by have : c.toNat = 46 := by omega
                                                      rw [this]; rfl))
                    replace e1 := hid e1
                    replace e2 := hid e2
                    clear hc
                    go_wp2_with fail
                    go_meet
                    case rel => exact ⟨by rw [e2.out], HB.out⟩
                case rest =>
                  obtain ⟨rfl, hB⟩ := hcut
                  replace HB := hid hB
                  clear hB
                  obtain ⟨k0, k1, k2, k3, k4⟩ := HB.out.lit.cells
                  obtain ⟨f0, f1, f2, f3, f4⟩ := HB.out.lit.free
                  obtain ⟨p0, p1, p2, p3, p4⟩ := HB.out.res.cells
                  obtain ⟨g0, g1, g2, g3, g4⟩ := HB.out.res.free
                  go_upto_if 56 with fail
                  go_cut [5] from 57 (fun v5 w' => ∃ (q : Nat) (R : List UInt8) (B : ByteArray), v5 = .int .i64 q ∧ CutAt w w' s q R n0 A B ⟨#[]⟩ false ∧ cutL l = (ctailL R).map fun x => (n0, A.data.toList, B.data.toList, x.1, x.2))
                  case first =>
                    rcases hpp.out with ⟨r, e1, e2, _⟩ | ⟨_, e2, _⟩
                    · subst e2
                      have hpt := cut_point hr0.out.symm hok.out (hR1.out.symm.trans e1)
                      rw [← hn0.out, ← hAd.out] at hpt
                      have hd1 : s.data.toList.drop (q + 1) = r := by rw [← List.drop_drop, HB.out.rest, e1]; rfl
                      have hle1 : q + 1 ≤ s.size := by have := congrArg List.length e1; simp at this; omega
                      obtain ⟨n1, hn1⟩ : ∃ n, n = (r.takeWhile isD).length := ⟨_, rfl⟩
                      have hnr1 : n1 ≤ r.length := by rw [hn1]; exact takeWhile_le _ _
                      have hlr : r.length + (q + 1) = s.size := by have := congrArg List.length e1; simp at this; omega
                      have C1 := fun W => CR.out (q + 1) r W hd1 hle1
                      rw [← hn1] at C1
                      replace C1 := hid C1
                      replace hpt := hid hpt
                      replace hd1 := hid hd1
                      replace hn1 := hid hn1
                      replace e1 := hid e1
                      have hq1 : ((q + 1 : Nat) : Int) = (q : Int) + 1 := by omega
                      go_wp2_with fail
                      rw [← hq1]
                      refine (C1.out _).mono ?_
                      rintro e1 w1 ⟨rfl, rfl⟩
                      have hsz1 : (q : Int) + 1 + n1 ≤ s.size := by omega
                      by_cases hz : n1 = 0
                      · obtain rfl : n1 = 0 := hz
                        have hno : cutL l = none := by rw [hpt.out, if_pos (List.eq_nil_of_length_eq_zero hn1.out.symm)]
                        replace hno := hid hno
                        go_wp2
                        refine bodyPost_ret (v := .tuple #[.agg #[.bool n0, .string A, .string ⟨#[]⟩, .string ⟨#[]⟩, .bool false], .bool false]) (by simp [results, Tryz.results63, go_sem, p0, p1, p2, p3, p4]) rfl ?_
                        exact ⟨n0, A, _, _, false, false, rfl, ((((HB.out.bel.setCell (by simp) _).setCell (by simp) _).setCell (by simp) _).setCell (by simp) _).setCell (by simp) _, by simpa using hno.out⟩
                      · have hne1 : ((n1 : Int) == 0) = false := by rw [beq_eq_false_iff_ne]; omega
                        have hnn : r.takeWhile isD ≠ [] := fun e => hz (by rw [hn1.out, e]; rfl)
                        have hcp : cutL l = (ctailL (r.dropWhile isD)).map fun x => (n0, A.data.toList, r.takeWhile isD, x.1, x.2) := by rw [hpt.out, if_neg hnn]
                        replace hcp := hid hcp
                        clear hz hnn
                        obtain ⟨B, hB⟩ : ∃ B, B = s.extract (q + 1) (q + 1 + n1) := ⟨_, rfl⟩
                        have hBd : B.data.toList = r.takeWhile isD := by rw [hB, hn1.out]; exact take_digits hd1.out
                        replace hBd := hid hBd
                        have HN : Hid (CutAt w (w1.setCell ⟨w.heap.size + 1, 2, none⟩ (.string (s.extract (q + 1) (q + 1 + n1)))) s (q + 1 + n1) (r.dropWhile isD) n0 A B ⟨#[]⟩ false) := by
                          rw [← hB]
                          exact ⟨HB.out.res.other (by omega) _ _, HB.out.lit.set2 B, HB.out.bel.setCell (by simp only; omega) _, by rw [hn1.out]; exact drop_digits hd1.out, by omega⟩
                        replace hB := hid hB
                        go_wp2_with fail
                        go_meet
                        case rel => exact ⟨q + 1 + n1, r.dropWhile isD, B, by simp, HN.out, by rw [hcp.out, hBd.out]⟩
                    · subst e2
                      have hpl := cut_plain hr0.out.symm hok.out (show Lib.hasPrefix (r0.dropWhile isD) [46] = false by rw [← hR1.out]; exact hb1.out.symm)
                      rw [← hn0.out, ← hR1.out, ← hAd.out] at hpl
                      replace hpl := hid hpl
                      go_wp2_with fail
                      go_meet
                      case rel => exact ⟨q, R1, ⟨#[]⟩, rfl, HB.out, hpl.out⟩
                  case rest =>
                    obtain ⟨q, R, B, rfl, hB, hcl⟩ := hcut
                    clear HB k0 k1 k2 k3 k4 f0 f1 f2 f3 f4 p0 p1 p2 p3 p4 g0 g1 g2 g3 g4 hql hqlen
                    have HB := hid hB
                    have hql := hB.le
                    have hqlen := hB.len
                    replace hcl := hid hcl
                    clear hB hpp hok hb1 hR1
                    obtain ⟨b2, hb2⟩ : ∃ b : Bool, (b = true ∧ ∃ c r, R = c :: r ∧ (c.toNat = 101 ∨ c.toNat = 69)) ∨ (b = false ∧ (R = [] ∨ ∃ c r, R = c :: r ∧ ¬ (c.toNat = 101 ∨ c.toNat = 69))) := by
                      cases R with
                      | nil => exact ⟨false, .inr ⟨rfl, .inl rfl⟩⟩
                      | cons c r =>
                        by_cases h : c.toNat = 101 ∨ c.toNat = 69
                        · exact ⟨true, .inl ⟨rfl, c, r, rfl, h⟩⟩
                        · exact ⟨false, .inr ⟨rfl, .inr ⟨c, r, rfl, h⟩⟩⟩
                    replace hb2 := hid hb2
                    go_upto_region 17 with fail
                    go_cut [92] from 8 (fun v92 w' => v92 = .bool b2 ∧ CutAt w w' s q R n0 A B ⟨#[]⟩ false)
                    case first =>
                      rcases hb2.out with ⟨e2, c, r, e1, hc⟩ | ⟨e2, e1 | ⟨c, r, e1, hc⟩⟩
                      · have hlt2 : (q : Int) < s.size := by have := congrArg List.length e1; simp at this; omega
                        have hix := fun W => (show CutAt w wc s q (c :: r) n0 A B ⟨#[]⟩ false from e1 ▸ HB.out).byte W
                        replace e1 := hid e1
                        replace e2 := hid e2
                        rcases hc with hc | hc
                        · rw [hc] at hix
                          go_wp2_with fail
                          go_meet
                          case rel => exact ⟨by rw [e2.out], HB.out⟩
                        · rw [hc] at hix
                          go_wp2_with fail
                          go_meet
                          case rel => exact ⟨by rw [e2.out], HB.out⟩
                      · have hlt2 : ¬ (q : Int) < s.size := by rw [e1] at hqlen; simp at hqlen; omega
                        replace e1 := hid e1
                        replace e2 := hid e2
                        go_wp2_with fail
                        go_meet
                        case rel => exact ⟨by rw [e2.out], HB.out⟩
                      · have hlt2 : (q : Int) < s.size := by have := congrArg List.length e1; simp at this; omega
                        have hix := fun W => (show CutAt w wc s q (c :: r) n0 A B ⟨#[]⟩ false from e1 ▸ HB.out).byte W
                        have hc1 : ((c.toNat : Int) == 101) = false := by rw [beq_eq_false_iff_ne]; omega
                        have hc2 : ((c.toNat : Int) == 69) = false := by rw [beq_eq_false_iff_ne]; omega
                        replace e1 := hid e1
                        replace e2 := hid e2
                        clear hc
                        go_wp2_with fail
                        go_meet
                        case rel => exact ⟨by rw [e2.out], HB.out⟩
                    case rest =>
                      obtain ⟨rfl, hB⟩ := hcut
                      replace HB := hid hB
                      clear hB
                      obtain ⟨k0, k1, k2, k3, k4⟩ := HB.out.lit.cells
                      obtain ⟨f0, f1, f2, f3, f4⟩ := HB.out.lit.free
                      obtain ⟨p0, p1, p2, p3, p4⟩ := HB.out.res.cells
                      obtain ⟨g0, g1, g2, g3, g4⟩ := HB.out.res.free
                      go_upto_if 92 with fail
                      go_cut [5] from 93 (fun v5 w' => ∃ (q : Nat) (R : List UInt8) (C : ByteArray) (d : Bool), v5 = .int .i64 q ∧ CutAt w w' s q R n0 A B C d ∧ cutL l = if R = [] then some (n0, A.data.toList, B.data.toList, C.data.toList, d) else none)
                      case first =>
                        rcases hb2.out with ⟨e2, c, r, e1, hc⟩ | ⟨e2, he⟩
                        · subst e2
                          have hR := HB.out.rest
                          rw [e1] at hR
                          have hd1 : s.data.toList.drop (q + 1) = r := by rw [← List.drop_drop, hR]; rfl
                          have hle1 : q + 1 ≤ s.size := by have := congrArg List.length e1; simp at this; omega
                          have hlr : r.length + (q + 1) = s.size := by have := congrArg List.length e1; simp at this; omega
                          have hsg := ctail_sign r hc
                          rw [← e1] at hsg
                          have hH1 : CutAt w wc s (q + 1) r n0 A B ⟨#[]⟩ false := ⟨HB.out.res, HB.out.lit, HB.out.bel, hd1, hle1⟩
                          have H1 := hid hH1
                          clear hR hc hH1
                          replace e1 := hid e1
                          replace hd1 := hid hd1
                          replace hsg := hid hsg
                          have hq1 : ((q + 1 : Nat) : Int) = (q : Int) + 1 := by omega
                          obtain ⟨b3, hb3⟩ : ∃ b : Bool, (b = true ∧ ∃ r2, r = 45 :: r2 ∧ ctailL R = tlD r2 true) ∨ (b = true ∧ ∃ r2, r = 43 :: r2 ∧ ctailL R = tlD r2 false) ∨ (b = false ∧ (r = [] ∨ ∃ x t, r = x :: t ∧ x ≠ 45 ∧ x ≠ 43) ∧ ctailL R = tlD r false) := by
                            rcases hsg.out with h | h | h
                            · exact ⟨true, .inl ⟨rfl, h⟩⟩
                            · exact ⟨true, .inr (.inl ⟨rfl, h⟩)⟩
                            · exact ⟨false, .inr (.inr ⟨rfl, h⟩)⟩
                          replace hb3 := hid hb3
                          go_upto_region 19 with fail
                          go_cut [5, 110] from 93 (fun v5 v110 w' => v5 = .int .i64 ((q + 1 : Nat) : Int) ∧ v110 = .bool b3 ∧ CutAt w w' s (q + 1) r n0 A B ⟨#[]⟩ false)
                          case first =>
                            rcases hb3.out with ⟨e2, r2, e3, e4⟩ | ⟨e2, r2, e3, e4⟩ | ⟨e2, e3, e4⟩
                            · have hix1 : ∀ W, (Instr.index 9 (.string s) (.int .i64 ((q : Int) + 1))).run Tryz.prog W = .ok (.int .u8 ((45 : UInt8).toNat : Int)) W := by
                                intro W
                                have h := (show CutAt w wc s (q + 1) (45 :: r2) n0 A B ⟨#[]⟩ false from e3 ▸ H1.out).byte W
                                rwa [hq1] at h
                              have hlt3 : (q : Int) + 1 < s.size := by rw [e3] at hlr; simp at hlr; omega
                              replace e2 := hid e2
                              replace e3 := hid e3
                              replace e4 := hid e4
                              replace hq1 := hid hq1
                              go_wp2_with fail
                              go_meet
                              case rel => exact ⟨by rw [hq1.out], by rw [e2.out], H1.out⟩
                            · have hix1 : ∀ W, (Instr.index 9 (.string s) (.int .i64 ((q : Int) + 1))).run Tryz.prog W = .ok (.int .u8 ((43 : UInt8).toNat : Int)) W := by
                                intro W
                                have h := (show CutAt w wc s (q + 1) (43 :: r2) n0 A B ⟨#[]⟩ false from e3 ▸ H1.out).byte W
                                rwa [hq1] at h
                              have hlt3 : (q : Int) + 1 < s.size := by rw [e3] at hlr; simp at hlr; omega
                              replace e2 := hid e2
                              replace e3 := hid e3
                              replace e4 := hid e4
                              replace hq1 := hid hq1
                              go_wp2_with fail
                              go_meet
                              case rel => exact ⟨by rw [hq1.out], by rw [e2.out], H1.out⟩
                            · replace e4 := hid e4
                              replace e2 := hid e2
                              rcases e3 with e3 | ⟨x, t, e3, e5, e6⟩
                              · have hlt3 : ¬ (q : Int) + 1 < s.size := by rw [e3] at hlr; simp at hlr; omega
                                replace e3 := hid e3
                                replace hq1 := hid hq1
                                go_wp2_with fail
                                go_meet
                                case rel => exact ⟨by rw [hq1.out], by rw [e2.out], H1.out⟩
                              · have hix1 : ∀ W, (Instr.index 9 (.string s) (.int .i64 ((q : Int) + 1))).run Tryz.prog W = .ok (.int .u8 (x.toNat : Int)) W := by
                                  intro W
                                  have h := (show CutAt w wc s (q + 1) (x :: t) n0 A B ⟨#[]⟩ false from e3 ▸ H1.out).byte W
                                  rwa [hq1] at h
                                have hlt3 : (q : Int) + 1 < s.size := by rw [e3] at hlr; simp at hlr; omega
                                have hx1 : ((x.toNat : Int) == 43) = false := byte_ne e6 rfl
                                have hx2 : ((x.toNat : Int) == 45) = false := byte_ne e5 rfl
                                replace e3 := hid e3
                                replace hq1 := hid hq1
                                clear e5 e6
                                go_wp2_with fail
                                go_meet
                                case rel => exact ⟨by rw [hq1.out], by rw [e2.out], H1.out⟩
                          case rest =>
                            obtain ⟨rfl, rfl, hB⟩ := hcut
                            replace H1 := hid hB
                            clear hB HB k0 k1 k2 k3 k4 f0 f1 f2 f3 f4 p0 p1 p2 p3 p4 g0 g1 g2 g3 g4
                            obtain ⟨k0, k1, k2, k3, k4⟩ := H1.out.lit.cells
                            obtain ⟨f0, f1, f2, f3, f4⟩ := H1.out.lit.free
                            go_upto_if 110 with fail
                            go_cut [5] from 93 (fun v5 w' => ∃ (p : Nat) (r2 : List UInt8) (d : Bool), v5 = .int .i64 p ∧ CutAt w w' s p r2 n0 A B ⟨#[]⟩ d ∧ ctailL R = tlD r2 d)
                            case first =>
                              have hlr1 := H1.out.len
                              rcases hb3.out with ⟨e2, r2, e3, e4⟩ | ⟨e2, r2, e3, e4⟩ | ⟨e2, e3, e4⟩
                              · subst e2
                                obtain ⟨hltb, hbb⟩ := byte_at (R := 45 :: r2) (H1.out.rest.trans e3) (n := 0) (by simp)
                                have hbv : (((s[q + 1]'hltb).toNat : Int) == 45) = true := by rw [show s[q + 1]'hltb = 45 from hbb]; rfl
                                have hd2 : s.data.toList.drop (q + 1 + 1) = r2 := by rw [← List.drop_drop, H1.out.rest, e3]; rfl
                                have hlr2 : r2.length + (q + 2) = s.size := by rw [e3] at hlr1; simp at hlr1; omega
                                have HN : Hid (CutAt w (wc.setCell ⟨w.heap.size + 1, 4, none⟩ (.bool true)) s (q + 1 + 1) r2 n0 A B ⟨#[]⟩ true) :=
                                  ⟨H1.out.res.other (by omega) _ _, H1.out.lit.set4 true, H1.out.bel.setCell (by simp only; omega) _, hd2, by omega⟩
                                have hlt3 : ((q + 1 : Nat) : Int) < s.size := by omega
                                replace hd2 := hid hd2
                                replace e3 := hid e3
                                replace e4 := hid e4
                                replace hq1 := hid hq1
                                go_wp2_with fail
                                go_meet
                                case rel => exact ⟨q + 1 + 1, r2, true, by go_num, HN.out, e4.out⟩
                              · subst e2
                                obtain ⟨hltb, hbb⟩ := byte_at (R := 43 :: r2) (H1.out.rest.trans e3) (n := 0) (by simp)
                                have hbv : (((s[q + 1]'hltb).toNat : Int) == 45) = false := by rw [show s[q + 1]'hltb = 43 from hbb]; rfl
                                have hd2 : s.data.toList.drop (q + 1 + 1) = r2 := by rw [← List.drop_drop, H1.out.rest, e3]; rfl
                                have hlr2 : r2.length + (q + 2) = s.size := by rw [e3] at hlr1; simp at hlr1; omega
                                have HN : Hid (CutAt w (wc.setCell ⟨w.heap.size + 1, 4, none⟩ (.bool false)) s (q + 1 + 1) r2 n0 A B ⟨#[]⟩ false) :=
                                  ⟨H1.out.res.other (by omega) _ _, H1.out.lit.set4 false, H1.out.bel.setCell (by simp only; omega) _, hd2, by omega⟩
                                have hlt3 : ((q + 1 : Nat) : Int) < s.size := by omega
                                replace hd2 := hid hd2
                                replace e3 := hid e3
                                replace e4 := hid e4
                                replace hq1 := hid hq1
                                go_wp2_with fail
                                go_meet
                                case rel => exact ⟨q + 1 + 1, r2, false, by go_num, HN.out, e4.out⟩
                              · subst e2
                                replace e4 := hid e4
                                replace hq1 := hid hq1
                                clear e3
                                go_wp2_with fail
                                go_meet
                                case rel => exact ⟨q + 1, r, false, by go_num, H1.out, e4.out⟩
                            case rest =>
                              obtain ⟨p, r2, d, rfl, hB, e4⟩ := hcut
                              clear k0 k1 k2 k3 k4 f0 f1 f2 f3 f4 hd1 H1 hql hqlen hlr e1 hsg hle1 hb3 hq1
                              have HB := hid hB
                              have hql := hB.le
                              have hqlen := hB.len
                              clear hB
                              obtain ⟨k0, k1, k2, k3, k4⟩ := HB.out.lit.cells
                              obtain ⟨f0, f1, f2, f3, f4⟩ := HB.out.lit.free
                              obtain ⟨p0, p1, p2, p3, p4⟩ := HB.out.res.cells
                              obtain ⟨g0, g1, g2, g3, g4⟩ := HB.out.res.free
                              obtain ⟨n2, hn2⟩ : ∃ n, n = (r2.takeWhile isD).length := ⟨_, rfl⟩
                              have hnr2 : n2 ≤ r2.length := by rw [hn2]; exact takeWhile_le _ _
                              have C2 := fun W => CR.out p r2 W HB.out.rest hql
                              rw [← hn2] at C2
                              replace C2 := hid C2
                              replace hn2 := hid hn2
                              replace e4 := hid e4
                              have hsz1 : (p : Int) + n2 ≤ s.size := by omega
                              go_wp2_with fail
                              refine (C2.out _).mono ?_
                              rintro e1 w1 ⟨rfl, rfl⟩
                              by_cases hz : n2 = 0
                              · obtain rfl : n2 = 0 := hz
                                have hno : cutL l = none := by rw [hcl.out, e4.out]; unfold tlD; rw [if_pos (.inl (List.eq_nil_of_length_eq_zero hn2.out.symm))]; rfl
                                replace hno := hid hno
                                go_wp2
                                refine bodyPost_ret (v := .tuple #[.agg #[.bool n0, .string A, .string B, .string ⟨#[]⟩, .bool d], .bool false]) (by simp [results, Tryz.results63, go_sem, p0, p1, p2, p3, p4]) rfl ?_
                                exact ⟨n0, A, B, _, d, false, rfl, ((((HB.out.bel.setCell (by simp) _).setCell (by simp) _).setCell (by simp) _).setCell (by simp) _).setCell (by simp) _, by simpa using hno.out⟩
                              · have hne1 : ((n2 : Int) == 0) = false := by rw [beq_eq_false_iff_ne]; omega
                                have hnn : r2.takeWhile isD ≠ [] := fun e => hz (by rw [hn2.out, e]; rfl)
                                have hcp : cutL l = if r2.dropWhile isD = [] then some (n0, A.data.toList, B.data.toList, r2.takeWhile isD, d) else none := by rw [hcl.out, e4.out, tl_some hnn]; split <;> rfl
                                replace hcp := hid hcp
                                clear hz hnn
                                obtain ⟨C, hC⟩ : ∃ C, C = s.extract p (p + n2) := ⟨_, rfl⟩
                                have hCd : C.data.toList = r2.takeWhile isD := by rw [hC, hn2.out]; exact take_digits HB.out.rest
                                replace hCd := hid hCd
                                have HN : Hid (CutAt w (w1.setCell ⟨w.heap.size + 1, 3, none⟩ (.string (s.extract p (p + n2)))) s (p + n2) (r2.dropWhile isD) n0 A B C d) := by
                                  rw [← hC]
                                  exact ⟨HB.out.res.other (by omega) _ _, HB.out.lit.set3 C, HB.out.bel.setCell (by simp only; omega) _, by rw [hn2.out]; exact drop_digits HB.out.rest, by omega⟩
                                replace hC := hid hC
                                go_wp2_with fail
                                go_meet
                                case rel => exact ⟨p + n2, r2.dropWhile isD, C, d, by simp, HN.out, by rw [hcp.out, hCd.out]⟩
                        · subst e2
                          have hcn : cutL l = if R = [] then some (n0, A.data.toList, B.data.toList, [], false) else none := by
                            rw [hcl.out]
                            rcases he with he | ⟨c, r, he, hc⟩
                            · rw [he]; rfl
                            · rw [he, ctail_none hc]; rfl
                          replace hcn := hid hcn
                          clear he
                          go_wp2_with fail
                          go_meet
                          case rel => exact ⟨q, R, ⟨#[]⟩, false, rfl, HB.out, hcn.out⟩
                      case rest =>
                        obtain ⟨q, R, C, d, rfl, hB, hcn⟩ := hcut
                        clear HB k0 k1 k2 k3 k4 f0 f1 f2 f3 f4 p0 p1 p2 p3 p4 g0 g1 g2 g3 g4 hql hqlen hcl hb2
                        have HB := hid hB
                        have hql := hB.le
                        have hqlen := hB.len
                        replace hcn := hid hcn
                        clear hB
                        obtain ⟨k0, k1, k2, k3, k4⟩ := HB.out.lit.cells
                        obtain ⟨f0, f1, f2, f3, f4⟩ := HB.out.lit.free
                        obtain ⟨p0, p1, p2, p3, p4⟩ := HB.out.res.cells
                        obtain ⟨g0, g1, g2, g3, g4⟩ := HB.out.res.free
                        obtain ⟨ok, hok⟩ : ∃ b, b = ((q : Int) == s.size) := ⟨_, rfl⟩
                        have hfin : if ok = true then cutL l = some (n0, A.data.toList, B.data.toList, C.data.toList, d) else cutL l = none := by
                          by_cases h0 : R = []
                          · have : ok = true := by rw [hok, beq_iff_eq]; rw [h0] at hqlen; simp at hqlen; omega
                            rw [if_pos this, hcn.out, if_pos h0]
                          · have hl0 : R.length ≠ 0 := fun e => h0 (List.eq_nil_of_length_eq_zero e)
                            have : ok = false := by rw [hok, beq_eq_false_iff_ne]; omega
                            rw [if_neg (by rw [this]; simp), hcn.out, if_neg h0]
                        have hok2 : ((q : Int) == s.size) = ok := hok.symm
                        replace hfin := hid hfin
                        clear hok hcn
                        go_wp2
                        refine bodyPost_ret (v := .tuple #[.agg #[.bool n0, .string A, .string B, .string C, .bool d], .bool ok]) (by simp [results, Tryz.results63, go_sem, p0, p1, p2, p3, p4]) rfl ?_
                        exact ⟨n0, A, B, C, d, ok, rfl, ((((HB.out.bel.setCell (by simp) _).setCell (by simp) _).setCell (by simp) _).setCell (by simp) _).setCell (by simp) _, hfin.out⟩

end Go.Proofs.YtmdgciolnpkccaaGreatDoor
