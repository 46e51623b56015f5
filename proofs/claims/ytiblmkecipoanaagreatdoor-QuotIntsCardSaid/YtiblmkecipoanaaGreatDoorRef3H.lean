/- The document's answer of chapter 03, eighth part: Int. -/
import Derived.Test.YtiblmkecipoanaaGreatDoorRef3F
import Derived.Test.YtiblmkecipoanaaGreatDoorMi
import Derived.Deep.CutBlock
namespace Go.Proofs.YtiblmkecipoanaaGreatDoor
open Go.RowKit

set_option maxRecDepth 100000 in
set_option maxHeartbeats 3200000 in
theorem ref3_Int (g : Bool) (a : Option Addr) (cap : Nat) (e : Int) (xs : List Nat) (w : World) (h : U32 w a xs) :
    Calls Tryz.prog 17 #[.agg #[.bool g, .slice a xs.length cap, .int .i64 e]] w
      (OutIE w (intR (takenE g xs.length (Num.worth xs) e) (takenD g xs.length (Num.worth xs) e)).1 (intR (takenE g xs.length (Num.worth xs) e) (takenD g xs.length (Num.worth xs) e)).2) := by
  have CT := fun W (hb : Below w.heap.size w W) => ref2_Take g a cap e xs W (h.below hb)
  have bd := taken_bounds (g := g) (e := e) h.lt
  have gd := (tk_taken g xs.length (Num.worth xs) e).good
  obtain ⟨d, hd⟩ : ∃ d, d = takenD g xs.length (Num.worth xs) e := ⟨_, rfl⟩
  obtain ⟨er, her⟩ : ∃ r, r = takenE g xs.length (Num.worth xs) e := ⟨_, rfl⟩
  rw [← hd, ← her] at CT ⊢
  rw [← hd] at bd gd
  obtain ⟨r, hr⟩ : ∃ r, r = intR er d := ⟨_, rfl⟩
  rw [← hr]
  obtain ⟨n, hn⟩ : ∃ n, n = xs.length := ⟨_, rfl⟩
  rw [← hn] at CT ⊢
  unfold OutIE
  replace CT := hid CT
  replace bd := hid bd
  replace gd := hid gd
  replace hr := hid hr
  clear h hd her hn
  go_enter Tryz.func17, Tryz.ntmps17
  go_upto_region 1 with fail
  go_cut [1, 4, 5] from 9 (fun v1 v4 v5 w' => ∃ N b c, v1 = .pointer (some ⟨w.heap.size, 0, none⟩) ∧ v4 = .pointer (some ⟨N, 0, none⟩) ∧ v5 = .int .i64 er ∧ HasR w' N d b c ∧ RdD w' d b c ∧ Below w.heap.size w w')
  case first =>
    go_wp2_with fail
    refine (CT.out _ ((Below.refl _ _).alloc (Nat.le_refl _) _)).mono ?_
    rintro e1 w1 ⟨b1, c1, rfl, hb1, hr1⟩
    have HB1 := hid (below_alloc hb1)
    have HI := hid hr1
    clear hb1 hr1 CT
    unfold refV
    go_wp2_with fail
    go_meet
    case rel =>
      have k1 := (Below.refl w1.heap.size w1).alloc (Nat.le_refl _) (.cells #[.bool d.neg, .slice b1 (Num.digs 10 d.m).length c1, .int .i64 d.e] 57)
      exact ⟨w1.heap.size, b1, c1, rfl, rfl, rfl, HasR.new _ _ _ _ _, HI.out.below k1, below_trans HB1.out k1⟩
  case rest =>
    obtain ⟨N, b, c, rfl, rfl, rfl, hblk, hrd, hb⟩ := hcut
    have HN := hid hblk
    have HRD := hid hrd
    have HB := hid hb
    clear hblk hrd hb CT
    obtain ⟨⟨k0, k1, k2⟩, _⟩ := HN.out.get
    have z1 := HN.out.lt
    by_cases h0 : er = 0
    · have hne : ((er : Int) != 0) = false := by rw [bne_eq_false_iff_eq]; omega
      have hR := hr.out
      unfold intR at hR
      rw [if_neg (by omega)] at hR
      by_cases he : d.e < 0
      · rw [if_pos he] at hR
        have HR := hid hR
        clear hR h0 hr
        go_wp2
        refine bodyPost_ret (v := .tuple #[.int .i64 0, .int .i64 9]) (by simp [results, Tryz.results17, go_sem]) rfl ?_
        rw [HR.out]
        exact ⟨rfl, HB.out⟩
      · rw [if_neg he] at hR
        have bx := bd.out
        have CH := fun W => ref2_Head d b c W (by omega) (by omega)
        unfold refV at CH
        have zx : (Num.digs 10 d.m).length = 0 ↔ d.m = 0 := by rw [List.length_eq_zero_iff]; exact Num.digs_eq_nil (by decide)
        obtain ⟨hU, hhU⟩ : ∃ h, h = headD d := ⟨_, rfl⟩
        have hUe : hU = d.e + (Num.digs 10 d.m).length - 1 := hhU
        rw [← hhU] at CH
        obtain ⟨bad, hbad⟩ : ∃ v, v = (decide (0 < (Num.digs 10 d.m).length) && decide (16 < hU)) := ⟨_, rfl⟩
        obtain ⟨L, hL⟩ : ∃ L, L = (Num.digs 10 d.m).length := ⟨_, rfl⟩
        rw [← hL] at CH k1 hUe hbad hR zx
        have CH := hid CH
        have HBAD := hid hbad
        have HUE := hid hUe
        have HLE := hid hL
        have HRR := hid hR
        have ZX := hid zx
        have HB0 := hid he
        clear hhU hbad hUe hL hR zx hr h0 bx he
        go_upto_region 6 with fail
        go_cut [28] from 9 (fun v w' => v = .bool bad ∧ Below wc.heap.size wc w')
        case first =>
          by_cases hl : 0 < L
          · have il : (0 : Int) < (L : Int) := by omega
            go_wp2_with fail
            refine (CH.out _).mono ?_
            rintro e3 w3 ⟨rfl, hb3⟩
            have B3 := hid hb3
            clear hb3 CH
            go_wp2_with fail
            go_meet
            case rel => exact ⟨by rw [HBAD.out]; simp [hl], B3.out⟩
          · have il : ¬ (0 : Int) < (L : Int) := by omega
            go_wp2_with fail
            go_meet
            case rel => exact ⟨by rw [HBAD.out]; simp; omega, Below.refl _ _⟩
        case rest =>
          obtain ⟨rfl, hb⟩ := hcut
          replace HN := hid (HN.out.below hb)
          replace HRD := hid (HRD.out.below hb)
          replace HB := hid (below_trans HB.out hb)
          clear hb k0 k1 k2 z1 CH
          cases bad with
          | true =>
            have h17 : 16 < d.e + (L : Int) := by
              have h1 := HBAD.out.symm
              simp only [Bool.and_eq_true, decide_eq_true_eq] at h1
              have := HUE.out
              omega
            have HR := hid (show r = (0, 3) by rw [HRR.out, if_pos h17])
            clear h17 HRR
            go_wp2
            refine bodyPost_ret (v := .tuple #[.int .i64 0, .int .i64 3]) (by simp [results, Tryz.results17, go_sem]) rfl ?_
            rw [HR.out]
            exact ⟨rfl, HB.out⟩
          | false =>
            have h17 : L = 0 ∨ d.e + (L : Int) ≤ 17 := by
              have h1 := HBAD.out
              by_cases hl : 0 < L
              · right
                simp [hl] at h1
                have := HUE.out
                omega
              · left; omega
            have hsh : d.m * 10 ^ d.e.toNat = wholeN d := by
              show _ = if 0 ≤ d.e then _ else _
              rw [if_pos (by have := HB0.out; omega)]
            have he0 : 0 ≤ d.e := by have := HB0.out; omega
            have hW : (Num.digs 10 (wholeN d)).length ≤ 17 := by
              rcases h17 with h | h
              · rw [← hsh, ZX.out.1 h, Nat.zero_mul, Num.digs_zero]; simp
              · by_cases hm : d.m = 0
                · rw [← hsh, hm, Nat.zero_mul, Num.digs_zero]; simp
                · have h1 := Num.digs_length_mul_pow (b := 10) (by decide) hm d.e.toNat
                  rw [hsh, ← HLE.out] at h1
                  omega
            have hWlt := (Num.digs_length_le (b := 10) (by decide)).1 hW
            have hbig : 16 < d.e + (L : Int) → 9007199254740992 < wholeN d ∨ d.m = 0 := fun h => by
              by_cases hm : d.m = 0
              · exact Or.inr hm
              · left
                have h1 := Num.digs_length_mul_pow (b := 10) (by decide) hm d.e.toNat
                rw [hsh, ← HLE.out] at h1
                have h2 := Num.pow_le_of_lt_length (b := 10) (n := wholeN d) (k := 16) (by decide) (by omega)
                omega
            have hzero : d.m = 0 → d.e = 0 ∧ L = 0 := fun h => by
              have := gd.out.1.1 h
              exact ⟨by rw [this]; rfl, ZX.out.2 h⟩
            have hfin : r = if 9007199254740992 < wholeN d then (0, 3) else (if d.neg = true then -((wholeN d : Nat) : Int) else ((wholeN d : Nat) : Int), 0) := by
              rw [HRR.out]
              by_cases h : 16 < d.e + (L : Int)
              · rw [if_pos h]
                rcases hbig h with h1 | h1
                · rw [if_pos h1]
                · have := hzero h1
                  omega
              · rw [if_neg h]
            have hmE : d.e.toNat ≤ 1000000 := by have := bd.out; omega
            have hmL : (Num.digs 10 d.m).length ≤ 1000000 := by have := bd.out; omega
            have CS : ∀ W, Below wc.heap.size wc W → Calls Tryz.prog 51 #[.slice b (Num.digs 10 d.m).length c, .int .i64 d.e] W (OutR8 W (Num.digs 10 (wholeN d))) := fun W hb => by
              have h := ref1_Shift b c d.m d.e.toNat W (HRD.out.below hb).1 HRD.out.2.2.2 (by omega) (by omega)
              rw [show ((d.e.toNat : Nat) : Int) = d.e by omega, hsh] at h
              exact h
            obtain ⟨⟨k0, k1, k2⟩, _⟩ := HN.out.get
            have z1 := HN.out.lt
            obtain ⟨V, hV⟩ : ∃ V, V = wholeN d := ⟨_, rfl⟩
            rw [← hV] at CS hfin hWlt hW
            have CS := hid CS
            have HFIN := hid hfin
            clear h17 hsh hbig hzero hfin hmE hmL hV HRR ZX HRD
            go_wp2_with fail
            refine (CS.out _ (Below.refl _ _)).mono ?_
            rintro e5 w5 ho
            obtain ⟨a5, c5, rfl, hb5, hr5⟩ := ho.rd
            replace HN := hid (HN.out.below hb5)
            replace HB := hid (below_trans HB.out hb5)
            have CX := fun j (hj : j < (Num.digs 10 V).length) => hr5.1.spot hj
            have HS := fun j (hj : j < (Num.digs 10 V).length) => digit_step (m := V) hj
            have BX := fun k => hr5.1.getD_lt k
            have hVL : V / 10 ^ (Num.digs 10 V).length = 0 := Nat.div_eq_of_lt (Num.lt_pow_length (by decide) V)
            obtain ⟨LV, hLV⟩ : ∃ l, l = (Num.digs 10 V).length := ⟨_, rfl⟩
            rw [← hLV] at CX HS hVL hW ⊢
            replace CX := hid CX
            replace HS := hid HS
            replace BX := hid BX
            replace hVL := hid hVL
            clear ho hb5 hr5 CS k0 k1 k2 z1 hLV
            go_wp2
            go_loop [6, 8] (fun nv iv => ∃ k : Nat, k ≤ LV ∧ iv = .int .i64 ((k : Int) - 1) ∧ nv = .int .i64 ((V / 10 ^ k : Nat) : Int)) (fun _ iv => (intOf iv + 1).toNat)
            case atStart => exact ⟨LV, Nat.le_refl _, by go_num, by rw [hVL.out]; rfl⟩
            case round =>
              obtain ⟨k, hk, rfl, rfl⟩ := hrel
              by_cases hk0 : k = 0
              · subst hk0
                have hV0 : V / 10 ^ 0 = V := by rw [Nat.pow_zero, Nat.div_one]
                rw [hV0]
                obtain ⟨⟨k0, k1, k2⟩, _⟩ := HN.out.get
                have z1 := HN.out.lt
                by_cases hbig : 9007199254740992 < V
                · have HR := hid (show r = (0, 3) by rw [HFIN.out, if_pos hbig])
                  have ib : (9007199254740992 : Int) < (V : Int) := by omega
                  clear HFIN hbig
                  go_wp2
                  refine bodyPost_ret (v := .tuple #[.int .i64 0, .int .i64 3]) (by simp [results, Tryz.results17, go_sem]) rfl ?_
                  rw [HR.out]
                  exact ⟨rfl, HB.out⟩
                · have hR := HFIN.out
                  rw [if_neg hbig] at hR
                  have ib : ¬ (9007199254740992 : Int) < (V : Int) := by omega
                  clear HFIN hbig
                  cases hg : d.neg with
                  | true =>
                    rw [hg] at hR k0
                    have HR := hid (show r = (-(V : Int), 0) from hR)
                    clear hR hg
                    go_wp2
                    refine bodyPost_ret (v := .tuple #[.int .i64 (-(V : Int)), .int .i64 0]) (by simp [results, Tryz.results17, go_sem]) rfl ?_
                    rw [HR.out]
                    exact ⟨rfl, HB.out⟩
                  | false =>
                    rw [hg] at hR k0
                    have HR := hid (show r = ((V : Int), 0) from hR)
                    clear hR hg
                    go_wp2
                    refine bodyPost_ret (v := .tuple #[.int .i64 (V : Int), .int .i64 0]) (by simp [results, Tryz.results17, go_sem]) rfl ?_
                    rw [HR.out]
                    exact ⟨rfl, HB.out⟩
              · obtain ⟨j, rfl⟩ : ∃ j, k = j + 1 := ⟨k - 1, by omega⟩
                have hj : j < LV := by omega
                obtain ⟨b0, off, rfl, hc⟩ := CX.out j hj
                have hst := HS.out j hj
                have hu9 := BX.out j
                obtain ⟨u, hu⟩ : ∃ u, u = (Num.digs 10 V).getD j 0 := ⟨_, rfl⟩
                rw [← hu] at hc hst hu9
                have hle := Nat.div_le_self V (10 ^ j)
                obtain ⟨q, hq⟩ : ∃ q, q = V / 10 ^ (j + 1) := ⟨_, rfl⟩
                rw [← hq] at hst ⊢
                have hq9 : 10 * q + u ≤ 100000000000000000 := by omega
                have hi1 : ((j + 1 : Nat) : Int) - 1 = (j : Int) := by omega
                have HST := hid hst
                clear hst hu hq hle CX HS BX HFIN
                go_wp2
                go_round
                case rel => exact ⟨j, by omega, by go_num, by rw [HST.out]; go_num⟩
                case measure => simp [intOf]
    · have hne : ((er : Int) != 0) = true := by rw [bne_iff_ne]; omega
      have HR := hid (show r = (0, er) by rw [hr.out]; unfold intR; rw [if_pos h0])
      clear h0 hr
      go_wp2
      refine bodyPost_ret (v := .tuple #[.int .i64 0, .int .i64 er]) (by simp [results, Tryz.results17, go_sem]) rfl ?_
      rw [HR.out]
      exact ⟨rfl, HB.out⟩

end Go.Proofs.YtiblmkecipoanaaGreatDoor
