/- The document's answer on texts: sound ones held against each other. -/
import Derived.Test.YtgbgkodjjgjhgaaGreatDoorUtfI
namespace Go.Proofs.YtgbgkodjjgjhgaaGreatDoor
open Go.RowKit

theorem row_i64 {w : World} {a : Option Addr} {ps : List Nat} (h : Row w a (i64s ps)) {j : Nat} (hj : j < ps.length) : ∃ b off, a = some ⟨b, off, none⟩ ∧ w.cell? ⟨b, off + j, none⟩ = some (.int .i64 ((ps.getD j 0 : Nat) : Int)) :=
  h j _ (by simp [i64s, List.getElem?_eq_getElem hj])
theorem cmp_step {ps qs : List Nat} {k : Nat} (h1 : k < ps.length) (h2 : k < qs.length) : cmpL (ps.drop k) (qs.drop k) = if ps.getD k 0 < qs.getD k 0 then -1 else if qs.getD k 0 < ps.getD k 0 then 1 else cmpL (ps.drop (k + 1)) (qs.drop (k + 1)) := by
  rw [List.drop_eq_getElem_cons h1, List.drop_eq_getElem_cons h2, cmpL]
  simp [List.getElem?_eq_getElem h1, List.getElem?_eq_getElem h2]
theorem cmp_end {ps qs : List Nat} {k : Nat} (hk1 : k ≤ ps.length) (hk2 : k ≤ qs.length) (h : k = ps.length ∨ k = qs.length) : cmpL (ps.drop k) (qs.drop k) = if ps.length < qs.length then -1 else if qs.length < ps.length then 1 else 0 := by
  rcases h with rfl | rfl
  · rw [List.drop_of_length_le (Nat.le_refl _)]
    by_cases hl : ps.length < qs.length
    · rw [if_pos hl, List.drop_eq_getElem_cons hl, cmpL]
    · rw [if_neg hl, if_neg (by omega), List.drop_of_length_le (by omega), cmpL]
  · rw [List.drop_of_length_le (Nat.le_refl qs.length)]
    by_cases hl : qs.length < ps.length
    · rw [if_neg (by omega), if_pos hl, List.drop_eq_getElem_cons hl, cmpL]
    · rw [if_neg (by omega), if_neg hl, List.drop_of_length_le (by omega), cmpL]

set_option maxRecDepth 100000 in
set_option maxHeartbeats 1600000 in
theorem ref4_Cmp (a b : List UInt8) (w : World) (ha : a.length ≤ 17592186044415) (hb : b.length ≤ 17592186044415) (sa : soundB a = true) (sb : soundB b = true) :
    Calls Tryz.prog 52 #[.string ⟨a.toArray⟩, .string ⟨b.toArray⟩] w fun e w' => e = .returned (.int .i64 (keyC a b)) ∧ Below w.heap.size w w' := by
  simp only [soundB, decide_eq_true_eq] at sa sb
  obtain ⟨ps, hp, ea⟩ := encs_of_valid (nats a).length (nats a) (Nat.le_refl _) (nats_lt a) (by rw [sa, nats_length])
  obtain ⟨qs, hq, eb⟩ := encs_of_valid (nats b).length (nats b) (Nat.le_refl _) (nats_lt b) (by rw [sb, nats_length])
  have C1 := fun w1 => ref4_Explode a ps w1 ha hp ea
  have C2 := fun w1 => ref4_Explode b qs w1 hb hq eb
  have hK : keyC a b = cmpL ps qs := by unfold keyC; rw [ea, eb, cmp_encs ps qs hp hq]
  have l1 : ps.length ≤ 17592186044415 := by
    have := encs_len ps
    rw [← ea, nats_length] at this; omega
  have l2 : qs.length ≤ 17592186044415 := by
    have := encs_len qs
    rw [← eb, nats_length] at this; omega
  rw [hK]
  clear hK sa sb ea eb hp hq ha hb
  generalize (⟨a.toArray⟩ : ByteArray) = x at *
  generalize (⟨b.toArray⟩ : ByteArray) = y at *
  obtain ⟨R, hR⟩ : ∃ R, R = cmpL ps qs := ⟨_, rfl⟩
  rw [← hR]
  replace hR := hid hR
  replace C1 := hid C1
  replace C2 := hid C2
  go_enter Tryz.func52, Tryz.ntmps52
  go_wp2_with fail
  refine (C1.out _).mono ?_
  rintro e w1 ⟨a1, c1, rfl, hb1, ho1⟩
  have O1 := hid ho1
  clear ho1
  go_wp2_with fail
  refine (C2.out _).mono ?_
  rintro e w2 ⟨a2, c2, rfl, hb2, ho2⟩
  have ho1 := owns_below O1.out hb2
  obtain ⟨_, _, e1, r1, _⟩ := owns_row ho1
  injection e1 with e1a _ _
  obtain ⟨_, _, e2, r2, _⟩ := owns_row ho2
  injection e2 with e2a _ _
  rw [← e1a] at r1
  rw [← e2a] at r2
  have R1 := hid r1
  have R2 := hid r2
  have HB := hid (below_trans hb1 hb2)
  clear e1a e2a r1 r2 ho1 ho2 O1 hb1 hb2 C1 C2
  go_wp2
  go_loopw [7] (fun i wr => ∃ k : Nat, k ≤ ps.length ∧ k ≤ qs.length ∧ i = .int .i64 k ∧ R = cmpL (ps.drop k) (qs.drop k) ∧ ∃ q, wr = w2.drewN q) (fun i _ => ps.length - (intOf i).toNat)
  case atStart => exact ⟨0, Nat.zero_le _, Nat.zero_le _, rfl, hR.out, 0, rfl⟩
  case round =>
    obtain ⟨k, hk1, hk2, rfl, hc, hq⟩ := hrel
    have HC := hid hc
    have HQ := hid hq
    clear hc
    by_cases hin : k < ps.length ∧ k < qs.length
    · obtain ⟨i1, i2⟩ := hin
      obtain ⟨b1, off1, rfl, g1⟩ := row_i64 R1.out i1
      obtain ⟨b2, off2, rfl, g2⟩ := row_i64 R2.out i2
      have g1' : wr.cell? ⟨b1, off1 + k, none⟩ = some (.int .i64 ((ps.getD k 0 : Nat) : Int)) := by obtain ⟨q, rfl⟩ := hq; exact g1
      have g2' : wr.cell? ⟨b2, off2 + k, none⟩ = some (.int .i64 ((qs.getD k 0 : Nat) : Int)) := by obtain ⟨q, rfl⟩ := hq; exact g2
      have hs := cmp_step i1 i2
      clear hq g1 g2
      generalize ps.getD k 0 = x1 at *
      generalize qs.getD k 0 = y1 at *
      have HS := hid hs
      clear hs
      go_wp2_with fail
      go_quiet (fail)
      have h3 : x1 < y1 ∨ y1 < x1 ∨ x1 = y1 := by omega
      rcases h3 with h | h | h
      · have HR : Hid (R = -1) := hid (by rw [HC.out, HS.out, if_pos h])
        go_wp2_with fail
        go_ret
        exact ⟨ret_int HR.out.symm, by obtain ⟨q2, hq2⟩ := drewN_more HQ.out nq; rw [hq2]; exact below_drewN HB.out _⟩
      · have HR : Hid (R = 1) := hid (by rw [HC.out, HS.out, if_neg (by omega), if_pos h])
        go_wp2_with fail
        go_quiet (fail)
        go_wp2_with fail
        go_ret
        exact ⟨ret_int HR.out.symm, by obtain ⟨q2, hq2⟩ := HQ.out; rw [hq2]; repeat (first | exact HB.out | refine below_drewN ?_ _)⟩
      · have HR : Hid (R = cmpL (ps.drop (k + 1)) (qs.drop (k + 1))) := hid (by rw [HC.out, HS.out, if_neg (by omega), if_neg (by omega)])
        go_wp2_with fail
        go_quiet (fail)
        go_wp2_with fail
        go_roundw
        case rel => exact ⟨k + 1, by omega, by omega, by go_num, HR.out, drewN_more HQ.out _⟩
        case measure => simp [intOf]; omega
    · have hs := cmp_end hk1 hk2 (by omega)
      have HS := hid hs
      clear hs
      have hB : Below w.heap.size w wr := by obtain ⟨q, rfl⟩ := hq; exact below_drewN HB.out _
      have HBB := hid hB
      clear hB hq
      have h3 : ps.length < qs.length ∨ qs.length < ps.length ∨ ps.length = qs.length := by omega
      rcases h3 with h | h | h
      · have HR : Hid (R = -1) := hid (by rw [HC.out, HS.out, if_pos h])
        have hk : ¬ k < ps.length := by omega
        have hk' : ¬ (k : Int) < ps.length := by omega
        go_wp2_with fail
        go_ret
        exact ⟨ret_int HR.out.symm, HBB.out⟩
      · have HR : Hid (R = 1) := hid (by rw [HC.out, HS.out, if_neg (by omega), if_pos h])
        have hk1 : (k : Int) < ps.length := by omega
        have hk' : ¬ (k : Int) < qs.length := by omega
        go_wp2_with fail
        go_ret
        exact ⟨ret_int HR.out.symm, HBB.out⟩
      · have HR : Hid (R = 0) := hid (by rw [HC.out, HS.out, if_neg (by omega), if_neg (by omega)])
        have hk' : ¬ (k : Int) < ps.length := by omega
        have h4 : ¬ (ps.length : Int) < qs.length := by omega
        have h5 : ¬ (qs.length : Int) < ps.length := by omega
        go_wp2_with fail
        go_ret
        exact ⟨ret_int HR.out.symm, HBB.out⟩

end Go.Proofs.YtgbgkodjjgjhgaaGreatDoor
