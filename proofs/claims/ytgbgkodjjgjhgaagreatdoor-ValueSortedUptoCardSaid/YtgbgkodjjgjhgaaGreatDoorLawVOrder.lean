/- ValueOrder: the law, walked. -/
import Derived.Test.YtgbgkodjjgjhgaaGreatDoorMn
namespace Go.Proofs.YtgbgkodjjgjhgaaGreatDoor
open Go.RowKit

theorem cmpVR_no {u v : JV} (h : ¬ (mayJ 200 u = true ∧ mayJ 200 v = true)) : cmpVR u v = (0, 1) := if_neg h
theorem cmpVR_yes {u v : JV} (h1 : mayJ 200 u = true) (h2 : mayJ 200 v = true) : cmpVR u v = (orderJ 201 u v, 0) := if_pos ⟨h1, h2⟩

set_option maxRecDepth 100000 in
set_option maxHeartbeats 16000000 in
theorem order_law (ka kb kc : Int) (ga gb gc : Bool) (pa pb pc : Option Addr) (la lb lc ca cb cc : Nat) (ea eb ec : Int) (sa sb sc : List UInt8) (qa qb qc : Option Addr) (ra rb rc da db dc : Nat) (ta tb tc : Option Addr) (ua ub uc va vb vc : Nat) (w : World)
    (ma mb mc : Bool) (X Y Z : Int) (hX : X = -1 ∨ X = 0 ∨ X = 1) (hY : Y = -1 ∨ Y = 0 ∨ Y = 1) (hZ : Z = -1 ∨ Z = 0 ∨ Z = 1) (h1 : 0 < X ∨ 0 < Y ∨ Z ≤ 0) (h2 : X ≠ 0 ∨ Z = Y)
    (xab xba xbc xac xaa eab eba ebc eac eaa : Int)
    (hS : ∀ W, Below w.heap.size w W → Calls Tryz.prog 10 #[] W fun en w' => en = .returned (.bool true) ∧ Below W.heap.size W w')
    (hA : ∀ W, Below w.heap.size w W → Calls Tryz.prog 16 #[valV ka ga pa la ca ea sa qa ra da ta ua va] W fun en w' => en = .returned (.bool ma) ∧ Below W.heap.size W w')
    (hB : ∀ W, Below w.heap.size w W → Calls Tryz.prog 16 #[valV kb gb pb lb cb eb sb qb rb db tb ub vb] W fun en w' => en = .returned (.bool mb) ∧ Below W.heap.size W w')
    (hC : ∀ W, Below w.heap.size w W → Calls Tryz.prog 16 #[valV kc gc pc lc cc ec sc qc rc dc tc uc vc] W fun en w' => en = .returned (.bool mc) ∧ Below W.heap.size W w')
    (hab : ∀ W, Below w.heap.size w W → Calls Tryz.prog 11 #[valV ka ga pa la ca ea sa qa ra da ta ua va, valV kb gb pb lb cb eb sb qb rb db tb ub vb] W fun en w' => en = .returned (.tuple #[.int .i64 xab, .int .i64 eab]) ∧ Below W.heap.size W w')
    (hba : ∀ W, Below w.heap.size w W → Calls Tryz.prog 11 #[valV kb gb pb lb cb eb sb qb rb db tb ub vb, valV ka ga pa la ca ea sa qa ra da ta ua va] W fun en w' => en = .returned (.tuple #[.int .i64 xba, .int .i64 eba]) ∧ Below W.heap.size W w')
    (hbc : ∀ W, Below w.heap.size w W → Calls Tryz.prog 11 #[valV kb gb pb lb cb eb sb qb rb db tb ub vb, valV kc gc pc lc cc ec sc qc rc dc tc uc vc] W fun en w' => en = .returned (.tuple #[.int .i64 xbc, .int .i64 ebc]) ∧ Below W.heap.size W w')
    (hac : ∀ W, Below w.heap.size w W → Calls Tryz.prog 11 #[valV ka ga pa la ca ea sa qa ra da ta ua va, valV kc gc pc lc cc ec sc qc rc dc tc uc vc] W fun en w' => en = .returned (.tuple #[.int .i64 xac, .int .i64 eac]) ∧ Below W.heap.size W w')
    (haa : ∀ W, Below w.heap.size w W → Calls Tryz.prog 11 #[valV ka ga pa la ca ea sa qa ra da ta ua va, valV ka ga pa la ca ea sa qa ra da ta ua va] W fun en w' => en = .returned (.tuple #[.int .i64 xaa, .int .i64 eaa]) ∧ Below W.heap.size W w')
    (hE : (eab = if ma = true ∧ mb = true then 0 else 1) ∧ (eba = if ma = true ∧ mb = true then 0 else 1) ∧ (ebc = if mb = true ∧ mc = true then 0 else 1) ∧ (eac = if ma = true ∧ mc = true then 0 else 1) ∧ (eaa = if ma = true then 0 else 1))
    (hV : ma = true → mb = true → mc = true → xab = X ∧ xba = -X ∧ xbc = Y ∧ xac = Z ∧ xaa = 0) :
    Calls Tryz.prog 5 #[valV ka ga pa la ca ea sa qa ra da ta ua va, valV kb gb pb lb cb eb sb qb rb db tb ub vb, valV kc gc pc lc cc ec sc qc rc dc tc uc vc] w fun en w' => en = .returned (.bool true) ∧ Below w.heap.size w w' := by
  unfold valV strV at *
  generalize (⟨sa.toArray⟩ : ByteArray) = za at *
  generalize (⟨sb.toArray⟩ : ByteArray) = zb at *
  generalize (⟨sc.toArray⟩ : ByteArray) = zc at *
  obtain ⟨W, hW⟩ : ∃ W, W = ((w.alloc (.cells #[.int .i64 ka, .bool ga, .slice pa la ca, .int .i64 ea, .string za, .slice qa ra da, .slice ta ua va] 28)).alloc (.cells #[.int .i64 kb, .bool gb, .slice pb lb cb, .int .i64 eb, .string zb, .slice qb rb db, .slice tb ub vb] 28)).alloc (.cells #[.int .i64 kc, .bool gc, .slice pc lc cc, .int .i64 ec, .string zc, .slice qc rc dc, .slice tc uc vc] 28) := ⟨_, rfl⟩
  have HB := hid (show Below w.heap.size w W by rw [hW]; exact (alloc_below2 _ _ _).alloc (by simp; omega) _)
  have HX : Hid (BoxV W w.heap.size ka ga pa la ca ea za qa ra da ta ua va) := by
    rw [hW]
    exact ⟨by simp [go_sem], by simp [go_sem], by simp [go_sem], by simp [go_sem], by simp [go_sem], by simp [go_sem], by simp [go_sem]⟩
  have HY : Hid (BoxV W (w.heap.size + 1) kb gb pb lb cb eb zb qb rb db tb ub vb) := by
    rw [hW]
    exact ⟨by simp [go_sem], by simp [go_sem], by simp [go_sem], by simp [go_sem], by simp [go_sem], by simp [go_sem], by simp [go_sem]⟩
  have HZ : Hid (BoxV W (w.heap.size + 1 + 1) kc gc pc lc cc ec zc qc rc dc tc uc vc) := by
    rw [hW]
    have h := blk_new3 w (.cells #[.int .i64 ka, .bool ga, .slice pa la ca, .int .i64 ea, .string za, .slice qa ra da, .slice ta ua va] 28) (.cells #[.int .i64 kb, .bool gb, .slice pb lb cb, .int .i64 eb, .string zb, .slice qb rb db, .slice tb ub vb] 28) (.cells #[.int .i64 kc, .bool gc, .slice pc lc cc, .int .i64 ec, .string zc, .slice qc rc dc, .slice tc uc vc] 28)
    exact (blk_seven h).1
  replace hW := hid hW.symm
  replace hS := hid hS
  replace hA := hid hA
  replace hB := hid hB
  replace hC := hid hC
  replace hab := hid hab
  replace hba := hid hba
  replace hbc := hid hbc
  replace hac := hid hac
  replace haa := hid haa
  obtain ⟨E1, E2, E3, E4, E5⟩ := hE
  replace E1 := hid E1
  replace E2 := hid E2
  replace E3 := hid E3
  replace E4 := hid E4
  replace E5 := hid E5
  replace hV := hid hV
  replace hX := hid hX
  replace hY := hid hY
  replace hZ := hid hZ
  replace h1 := hid h1
  replace h2 := hid h2
  go_enter Tryz.func5, Tryz.ntmps5
  go_upto_region 1 with fail
  go_cut [7] from 18 (fun v7 w' => v7 = .bool true ∧ Below w.heap.size w w' ∧ BoxV w' w.heap.size ka ga pa la ca ea za qa ra da ta ua va ∧ BoxV w' (w.heap.size + 1) kb gb pb lb cb eb zb qb rb db tb ub vb ∧ BoxV w' (w.heap.size + 1 + 1) kc gc pc lc cc ec zc qc rc dc tc uc vc)
  case first =>
    rw [hW.out]
    go_wp2_with fail
    refine (hS.out _ HB.out).mono ?_
    rintro en w1 ⟨rfl, hb⟩
    have q1 := hid (below_trans HB.out hb)
    have q2 := hid (HX.out.stay hb)
    have q3 := hid (HY.out.stay hb)
    have q4 := hid (HZ.out.stay hb)
    clear hb
    go_wp2_with fail
    go_meet
    case rel => exact ⟨rfl, q1.out, q2.out, q3.out, q4.out⟩
  case rest =>
    obtain ⟨rfl, g1, g2, g3, g4⟩ := hcut
    replace HB := hid g1
    replace HX := hid g2
    replace HY := hid g3
    replace HZ := hid g4
    clear g1 g2 g3 g4 hW hS
    go_upto_region 2 with fail
    go_cut [8, 9] from 18 (fun v8 v9 w' => v8 = .int .i64 xab ∧ v9 = .int .i64 eab ∧ Below w.heap.size w w' ∧ BoxV w' w.heap.size ka ga pa la ca ea za qa ra da ta ua va ∧ BoxV w' (w.heap.size + 1) kb gb pb lb cb eb zb qb rb db tb ub vb ∧ BoxV w' (w.heap.size + 1 + 1) kc gc pc lc cc ec zc qc rc dc tc uc vc)
    case first =>
      obtain ⟨x0, x1, x2, x3, x4, x5, x6⟩ := HX.out
      obtain ⟨y0, y1, y2, y3, y4, y5, y6⟩ := HY.out
      obtain ⟨u0, u1, u2, u3, u4, u5, u6⟩ := HZ.out
      go_wp2_with fail
      refine (hab.out _ HB.out).mono ?_
      rintro en w1 ⟨rfl, hb⟩
      have q1 := hid (below_trans HB.out hb)
      have q2 := hid (HX.out.stay hb)
      have q3 := hid (HY.out.stay hb)
      have q4 := hid (HZ.out.stay hb)
      clear hb x0 x1 x2 x3 x4 x5 x6 y0 y1 y2 y3 y4 y5 y6 u0 u1 u2 u3 u4 u5 u6
      go_wp2_with fail
      go_meet
      case rel => exact ⟨rfl, rfl, q1.out, q2.out, q3.out, q4.out⟩
    case rest =>
    obtain ⟨rfl, rfl, g1, g2, g3, g4⟩ := hcut
    replace HB := hid g1
    replace HX := hid g2
    replace HY := hid g3
    replace HZ := hid g4
    clear g1 g2 g3 g4
    go_upto_region 3 with fail
    go_cut [10, 11] from 18 (fun v10 v11 w' => v10 = .int .i64 xba ∧ v11 = .int .i64 eba ∧ Below w.heap.size w w' ∧ BoxV w' w.heap.size ka ga pa la ca ea za qa ra da ta ua va ∧ BoxV w' (w.heap.size + 1) kb gb pb lb cb eb zb qb rb db tb ub vb ∧ BoxV w' (w.heap.size + 1 + 1) kc gc pc lc cc ec zc qc rc dc tc uc vc)
    case first =>
      obtain ⟨x0, x1, x2, x3, x4, x5, x6⟩ := HX.out
      obtain ⟨y0, y1, y2, y3, y4, y5, y6⟩ := HY.out
      obtain ⟨u0, u1, u2, u3, u4, u5, u6⟩ := HZ.out
      go_wp2_with fail
      refine (hba.out _ HB.out).mono ?_
      rintro en w1 ⟨rfl, hb⟩
      have q1 := hid (below_trans HB.out hb)
      have q2 := hid (HX.out.stay hb)
      have q3 := hid (HY.out.stay hb)
      have q4 := hid (HZ.out.stay hb)
      clear hb x0 x1 x2 x3 x4 x5 x6 y0 y1 y2 y3 y4 y5 y6 u0 u1 u2 u3 u4 u5 u6
      go_wp2_with fail
      go_meet
      case rel => exact ⟨rfl, rfl, q1.out, q2.out, q3.out, q4.out⟩
    case rest =>
    obtain ⟨rfl, rfl, g1, g2, g3, g4⟩ := hcut
    replace HB := hid g1
    replace HX := hid g2
    replace HY := hid g3
    replace HZ := hid g4
    clear g1 g2 g3 g4
    go_upto_region 4 with fail
    go_cut [12, 13] from 18 (fun v12 v13 w' => v12 = .int .i64 xbc ∧ v13 = .int .i64 ebc ∧ Below w.heap.size w w' ∧ BoxV w' w.heap.size ka ga pa la ca ea za qa ra da ta ua va ∧ BoxV w' (w.heap.size + 1) kb gb pb lb cb eb zb qb rb db tb ub vb ∧ BoxV w' (w.heap.size + 1 + 1) kc gc pc lc cc ec zc qc rc dc tc uc vc)
    case first =>
      obtain ⟨x0, x1, x2, x3, x4, x5, x6⟩ := HX.out
      obtain ⟨y0, y1, y2, y3, y4, y5, y6⟩ := HY.out
      obtain ⟨u0, u1, u2, u3, u4, u5, u6⟩ := HZ.out
      go_wp2_with fail
      refine (hbc.out _ HB.out).mono ?_
      rintro en w1 ⟨rfl, hb⟩
      have q1 := hid (below_trans HB.out hb)
      have q2 := hid (HX.out.stay hb)
      have q3 := hid (HY.out.stay hb)
      have q4 := hid (HZ.out.stay hb)
      clear hb x0 x1 x2 x3 x4 x5 x6 y0 y1 y2 y3 y4 y5 y6 u0 u1 u2 u3 u4 u5 u6
      go_wp2_with fail
      go_meet
      case rel => exact ⟨rfl, rfl, q1.out, q2.out, q3.out, q4.out⟩
    case rest =>
    obtain ⟨rfl, rfl, g1, g2, g3, g4⟩ := hcut
    replace HB := hid g1
    replace HX := hid g2
    replace HY := hid g3
    replace HZ := hid g4
    clear g1 g2 g3 g4
    go_upto_region 5 with fail
    go_cut [14, 15] from 18 (fun v14 v15 w' => v14 = .int .i64 xac ∧ v15 = .int .i64 eac ∧ Below w.heap.size w w' ∧ BoxV w' w.heap.size ka ga pa la ca ea za qa ra da ta ua va ∧ BoxV w' (w.heap.size + 1) kb gb pb lb cb eb zb qb rb db tb ub vb ∧ BoxV w' (w.heap.size + 1 + 1) kc gc pc lc cc ec zc qc rc dc tc uc vc)
    case first =>
      obtain ⟨x0, x1, x2, x3, x4, x5, x6⟩ := HX.out
      obtain ⟨y0, y1, y2, y3, y4, y5, y6⟩ := HY.out
      obtain ⟨u0, u1, u2, u3, u4, u5, u6⟩ := HZ.out
      go_wp2_with fail
      refine (hac.out _ HB.out).mono ?_
      rintro en w1 ⟨rfl, hb⟩
      have q1 := hid (below_trans HB.out hb)
      have q2 := hid (HX.out.stay hb)
      have q3 := hid (HY.out.stay hb)
      have q4 := hid (HZ.out.stay hb)
      clear hb x0 x1 x2 x3 x4 x5 x6 y0 y1 y2 y3 y4 y5 y6 u0 u1 u2 u3 u4 u5 u6
      go_wp2_with fail
      go_meet
      case rel => exact ⟨rfl, rfl, q1.out, q2.out, q3.out, q4.out⟩
    case rest =>
    obtain ⟨rfl, rfl, g1, g2, g3, g4⟩ := hcut
    replace HB := hid g1
    replace HX := hid g2
    replace HY := hid g3
    replace HZ := hid g4
    clear g1 g2 g3 g4
    go_upto_region 6 with fail
    go_cut [16, 17] from 18 (fun v16 v17 w' => v16 = .int .i64 xaa ∧ v17 = .int .i64 eaa ∧ Below w.heap.size w w' ∧ BoxV w' w.heap.size ka ga pa la ca ea za qa ra da ta ua va ∧ BoxV w' (w.heap.size + 1) kb gb pb lb cb eb zb qb rb db tb ub vb ∧ BoxV w' (w.heap.size + 1 + 1) kc gc pc lc cc ec zc qc rc dc tc uc vc)
    case first =>
      obtain ⟨x0, x1, x2, x3, x4, x5, x6⟩ := HX.out
      obtain ⟨y0, y1, y2, y3, y4, y5, y6⟩ := HY.out
      obtain ⟨u0, u1, u2, u3, u4, u5, u6⟩ := HZ.out
      go_wp2_with fail
      refine (haa.out _ HB.out).mono ?_
      rintro en w1 ⟨rfl, hb⟩
      have q1 := hid (below_trans HB.out hb)
      have q2 := hid (HX.out.stay hb)
      have q3 := hid (HY.out.stay hb)
      have q4 := hid (HZ.out.stay hb)
      clear hb x0 x1 x2 x3 x4 x5 x6 y0 y1 y2 y3 y4 y5 y6 u0 u1 u2 u3 u4 u5 u6
      go_wp2_with fail
      go_meet
      case rel => exact ⟨rfl, rfl, q1.out, q2.out, q3.out, q4.out⟩
    case rest =>
    obtain ⟨rfl, rfl, g1, g2, g3, g4⟩ := hcut
    replace HB := hid g1
    replace HX := hid g2
    replace HY := hid g3
    replace HZ := hid g4
    clear g1 g2 g3 g4 hab hba hbc hac haa
    obtain ⟨x0, x1, x2, x3, x4, x5, x6⟩ := HX.out
    cases ma with
    | false =>
      cases mb <;> cases mc
      all_goals
        have e1 := E1.out
        have e2 := E2.out
        have e3 := E3.out
        have e4 := E4.out
        have e5 := E5.out
        simp at e1 e2 e3 e4 e5
        subst e1 e2 e3 e4 e5
        clear E1 E2 E3 E4 E5
        clear hX hY hZ h1 h2 hV
        go_wp2_with fail
        refine (hA.out _ HB.out).mono ?_
        rintro en w1 ⟨rfl, hb⟩
        replace HB := hid (below_trans HB.out hb)
        replace HX := hid (HX.out.stay hb)
        replace HY := hid (HY.out.stay hb)
        replace HZ := hid (HZ.out.stay hb)
        clear hb x0 x1 x2 x3 x4 x5 x6
        obtain ⟨x0, x1, x2, x3, x4, x5, x6⟩ := HX.out
        go_wp2_with fail
        go_ret
        exact ⟨rfl, HB.out⟩
    | true =>
    cases mb with
    | false =>
      cases mc
      all_goals
        have e1 := E1.out
        have e2 := E2.out
        have e3 := E3.out
        have e4 := E4.out
        have e5 := E5.out
        simp at e1 e2 e3 e4 e5
        subst e1 e2 e3 e4 e5
        clear E1 E2 E3 E4 E5
        clear hX hY hZ h1 h2 hV
        go_wp2_with fail
        refine (hA.out _ HB.out).mono ?_
        rintro en w1 ⟨rfl, hb⟩
        replace HB := hid (below_trans HB.out hb)
        replace HX := hid (HX.out.stay hb)
        replace HY := hid (HY.out.stay hb)
        replace HZ := hid (HZ.out.stay hb)
        clear hb x0 x1 x2 x3 x4 x5 x6
        obtain ⟨x0, x1, x2, x3, x4, x5, x6⟩ := HY.out
        go_wp2_with fail
        refine (hB.out _ HB.out).mono ?_
        rintro en w1 ⟨rfl, hb⟩
        replace HB := hid (below_trans HB.out hb)
        replace HX := hid (HX.out.stay hb)
        replace HY := hid (HY.out.stay hb)
        replace HZ := hid (HZ.out.stay hb)
        clear hb x0 x1 x2 x3 x4 x5 x6
        obtain ⟨x0, x1, x2, x3, x4, x5, x6⟩ := HY.out
        go_wp2_with fail
        go_ret
        exact ⟨rfl, HB.out⟩
    | true =>
    cases mc with
    | false =>
      have e1 := E1.out
      have e2 := E2.out
      have e3 := E3.out
      have e4 := E4.out
      have e5 := E5.out
      simp at e1 e2 e3 e4 e5
      subst e1 e2 e3 e4 e5
      clear E1 E2 E3 E4 E5
      clear hX hY hZ h1 h2 hV
      go_wp2_with fail
      refine (hA.out _ HB.out).mono ?_
      rintro en w1 ⟨rfl, hb⟩
      replace HB := hid (below_trans HB.out hb)
      replace HX := hid (HX.out.stay hb)
      replace HY := hid (HY.out.stay hb)
      replace HZ := hid (HZ.out.stay hb)
      clear hb x0 x1 x2 x3 x4 x5 x6
      obtain ⟨x0, x1, x2, x3, x4, x5, x6⟩ := HY.out
      go_wp2_with fail
      refine (hB.out _ HB.out).mono ?_
      rintro en w1 ⟨rfl, hb⟩
      replace HB := hid (below_trans HB.out hb)
      replace HX := hid (HX.out.stay hb)
      replace HY := hid (HY.out.stay hb)
      replace HZ := hid (HZ.out.stay hb)
      clear hb x0 x1 x2 x3 x4 x5 x6
      obtain ⟨x0, x1, x2, x3, x4, x5, x6⟩ := HZ.out
      go_wp2_with fail
      refine (hC.out _ HB.out).mono ?_
      rintro en w1 ⟨rfl, hb⟩
      replace HB := hid (below_trans HB.out hb)
      replace HX := hid (HX.out.stay hb)
      replace HY := hid (HY.out.stay hb)
      replace HZ := hid (HZ.out.stay hb)
      clear hb x0 x1 x2 x3 x4 x5 x6
      obtain ⟨x0, x1, x2, x3, x4, x5, x6⟩ := HX.out
      go_wp2_with fail
      go_ret
      exact ⟨rfl, HB.out⟩
    | true =>
      have e1 := E1.out
      have e2 := E2.out
      have e3 := E3.out
      have e4 := E4.out
      have e5 := E5.out
      simp at e1 e2 e3 e4 e5
      subst e1 e2 e3 e4 e5
      clear E1 E2 E3 E4 E5
      obtain ⟨v1, v2, v3, v4, v5⟩ := hV.out rfl rfl rfl
      clear hV hA hB hC x0 x1 x2 x3 x4 x5 x6
      subst v1 v2 v3 v4 v5
      have k1 := h1.out
      have k2 := h2.out
      have k3 := hX.out
      have k4 := hY.out
      have k5 := hZ.out
      clear h1 h2 hX hY hZ HX HY HZ
      rcases k3 with rfl | rfl | rfl <;> rcases k4 with rfl | rfl | rfl <;> rcases k5 with rfl | rfl | rfl
      all_goals first
        | (exfalso; omega)
        | (clear k1 k2
           go_wp2_with fail
           go_ret
           exact ⟨rfl, HB.out⟩)

end Go.Proofs.YtgbgkodjjgjhgaaGreatDoor
