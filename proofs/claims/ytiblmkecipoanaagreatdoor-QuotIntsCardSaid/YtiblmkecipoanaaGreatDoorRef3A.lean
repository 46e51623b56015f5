/- The document's answer of chapter 03, first part: the long division. -/
import Derived.Test.YtiblmkecipoanaaGreatDoorMf
import Derived.Test.YtiblmkecipoanaaGreatDoorRefPa
import Derived.Deep.CutBlock
namespace Go.Proofs.YtiblmkecipoanaaGreatDoor
open Go.RowKit

/-- A number's digits that read, and how far their row goes. -/
def RdN (w : World) (m : Nat) (a : Option Addr) (cap : Nat) : Prop := U8 w a (Num.digs 10 m) ∧ (Num.digs 10 m).length ≤ cap ∧ cap ≤ 9223372036854775807 ∧ (a = none → cap = 0)
theorem RdN.below {w w' : World} {m cap : Nat} {a : Option Addr} (h : RdN w m a cap) (hb : Below w.heap.size w w') : RdN w' m a cap := ⟨h.1.below hb, h.2⟩
theorem OutR8.rd {w w' : World} {m : Nat} {e : Ending} (h : OutR8 w (Num.digs 10 m) e w') : ∃ a cap, e = .returned (.slice a (Num.digs 10 m).length cap) ∧ Below w.heap.size w w' ∧ RdN w' m a cap := by
  obtain ⟨a, cap, h1, h2, h3, h4, h5, h6⟩ := h
  exact ⟨a, cap, h1, h2, h3, h4, h5, h6⟩
theorem OutO.rd {w w' : World} {m : Nat} {e : Ending} (h : OutO w (Num.digs 10 m) e w') : ∃ a cap, e = .returned (.slice a (Num.digs 10 m).length cap) ∧ Below w.heap.size w w' ∧ RdN w' m a cap ∧ (∀ A, a = some A → w.heap.size ≤ A.block) := by
  obtain ⟨a, cap, h1, h2, h3, h4, h5, h6, h7⟩ := h
  exact ⟨a, cap, h1, h2, ⟨h3, h4, h5, h6⟩, h7⟩
theorem rdn_zero (w : World) : RdN w 0 none 0 := ⟨⟨Row.nil _ _, fun d hd => by cases hd⟩, Nat.le_refl _, by decide, fun _ => rfl⟩
theorem U8.spot {W : World} {a : Option Addr} {xs : List Nat} (h : U8 W a xs) {j : Nat} (hj : j < xs.length) : ∃ b off, a = some ⟨b, off, none⟩ ∧ W.cell? ⟨b, off + j, none⟩ = some (.int .u8 ((xs.getD j 0 : Nat) : Int)) := by
  obtain ⟨b, off, rfl, _⟩ := h.row j (.int .u8 ((xs[j] : Nat) : Int)) (by simp [u8s, hj])
  exact ⟨b, off, rfl, h.row.u8 hj⟩
/-- A store into a block in which the digits do not lie. -/
theorem RdN.set {w : World} {m cap : Nat} {a : Option Addr} (h : RdN w m a cap) {g : Nat} (hg : ∀ A, a = some A → g < A.block) (o : Nat) (u : Value) : RdN (w.setCell ⟨g, o, none⟩ u) m a cap := by
  refine ⟨⟨fun j x hx => ?_, h.1.lt⟩, h.2⟩
  obtain ⟨b, off, rfl, hc⟩ := h.1.row j x hx
  refine ⟨b, off, rfl, ?_⟩
  have hne := hg _ rfl
  simp only at hne
  rw [← hc]
  exact World.cell?_of_block (Below.heap_setCell _ _ _ _ (by simp only; omega))
theorem digit_step {m j : Nat} (h : j < (Num.digs 10 m).length) : m / 10 ^ j = (Num.digs 10 m).getD j 0 + 10 * (m / 10 ^ (j + 1)) := by
  have a := Num.val_drop (b := 10) (by decide) (Num.digs 10 m) (digs_ten_lt m) j
  have b := Num.val_drop (b := 10) (by decide) (Num.digs 10 m) (digs_ten_lt m) (j + 1)
  rw [Num.val_digs (by decide)] at a b
  rw [Num.drop_getD h, Num.val_cons, b] at a
  exact a.symm

/-- What holds at the head of a round of 'Div': k digits are left. -/
def DivS (w : World) (m n L k g : Nat) (v : Value) (wr : World) : Prop :=
  ∃ (hi : List Nat) (R : Nat) (ar : Option Addr) (cr : Nat), v = .slice ar (Num.digs 10 R).length cr ∧ hi.length + k = L ∧ (∀ x ∈ hi, x < 10) ∧ m / 10 ^ k = Num.val 10 hi * n + R ∧ R < n ∧
    wr.ownsRow w.heap.size 5 1 (.slice (some ⟨g, 0, none⟩) L L) L (u8s (List.replicate k 0 ++ hi)) ∧ RdN wr R ar cr ∧ (∀ A, ar = some A → g < A.block) ∧ Below w.heap.size w wr
/-- What holds at the head of a round in which the divisor is taken off. -/
def DivI (w : World) (n L j g V : Nat) (hi : List Nat) (v : Value) (wr : World) : Prop :=
  ∃ (c R : Nat) (ar : Option Addr) (cr : Nat), v = .slice ar (Num.digs 10 R).length cr ∧ c * n + R = V ∧
    wr.ownsRow w.heap.size 5 1 (.slice (some ⟨g, 0, none⟩) L L) L (u8s (List.replicate j 0 ++ c :: hi)) ∧ RdN wr R ar cr ∧ (∀ A, ar = some A → g < A.block) ∧ Below w.heap.size w wr
theorem DivI.start {w wr : World} {n L j g V cr : Nat} {hi : List Nat} {ar : Option Addr} (ho : wr.ownsRow w.heap.size 5 1 (.slice (some ⟨g, 0, none⟩) L L) L (u8s (List.replicate (j + 1) 0 ++ hi)))
    (hr : RdN wr V ar cr) (hg : ∀ A, ar = some A → g < A.block) (hb : Below w.heap.size w wr) : DivI w n L j g V hi (.slice ar (Num.digs 10 V).length cr) wr := by
  refine ⟨0, V, ar, cr, rfl, by omega, ?_, hr, hg, hb⟩
  rw [List.replicate_succ'] at ho
  simpa using ho
theorem DivI.step {w wr w1 : World} {n L j g V c R cr : Nat} {hi : List Nat} {ar : Option Addr} (h1 : c * n + R = V) (hR : n ≤ R) (ho : wr.ownsRow w.heap.size 5 1 (.slice (some ⟨g, 0, none⟩) L L) L (u8s (List.replicate j 0 ++ c :: hi)))
    (hr : RdN wr (R - n) ar cr) (hg : ∀ A, ar = some A → g < A.block) (hb : Below w.heap.size w wr) (hw : w1 = wr.setCell ⟨g, j, none⟩ (.int .u8 ((c + 1 : Nat) : Int))) : DivI w n L j g V hi (.slice ar (Num.digs 10 (R - n)).length cr) w1 := by
  subst hw
  have hs := ho.stored j (.int .u8 ((c + 1 : Nat) : Int))
  refine ⟨c + 1, R - n, ar, cr, rfl, by rw [Nat.add_mul]; omega, ?_, hr.set hg _ _, hg, ?_⟩
  · have e : (u8s (List.replicate j 0 ++ c :: hi)).set j (.int .u8 ((c + 1 : Nat) : Int)) = u8s (List.replicate j 0 ++ (c + 1) :: hi) := by
      simp [u8s]
    rw [e] at hs
    exact hs.1
  · exact hb.grown hs.2 hb.size (fun j hj => by injection hj with hj; subst hj; exact (ho.lt g rfl).1)
theorem DivI.stop {w wr : World} {m n L j g V c R cr : Nat} {hi : List Nat} {ar : Option Addr} (hl : hi.length + (j + 1) = L) (h9 : ∀ x ∈ hi, x < 10) (hm : m / 10 ^ j = V + 10 * (Num.val 10 hi * n)) (h1 : c * n + R = V) (hc : c < 10) (hR : R < n)
    (ho : wr.ownsRow w.heap.size 5 1 (.slice (some ⟨g, 0, none⟩) L L) L (u8s (List.replicate j 0 ++ c :: hi))) (hr : RdN wr R ar cr) (hg : ∀ A, ar = some A → g < A.block) (hb : Below w.heap.size w wr) :
    DivS w m n L j g (.slice ar (Num.digs 10 R).length cr) wr := by
  refine ⟨c :: hi, R, ar, cr, rfl, by simp; omega, ?_, ?_, hR, ho, hr, hg, hb⟩
  · intro x hx
    rcases List.mem_cons.1 hx with h | h
    · omega
    · exact h9 x h
  · rw [hm, Num.val_cons, ← h1, Nat.add_mul, Nat.mul_assoc]
    omega

set_option maxRecDepth 100000 in
set_option maxHeartbeats 3200000 in
theorem ref1_Div (a a2 : Option Addr) (cap cap2 m n : Nat) (w : World) (h : U8 w a (Num.digs 10 m)) (h2 : U8 w a2 (Num.digs 10 n)) (hn : n ≠ 0) (hl : (Num.digs 10 m).length ≤ 1000000) (hl2 : (Num.digs 10 n).length ≤ 1000000) :
    Calls Tryz.prog 50 #[.slice a (Num.digs 10 m).length cap, .slice a2 (Num.digs 10 n).length cap2] w fun e w' => ∃ a3 c3 a4 c4,
      e = .returned (.tuple #[.slice a3 (Num.digs 10 (m / n)).length c3, .slice a4 (Num.digs 10 (m % n)).length c4]) ∧ Below w.heap.size w w' ∧ RdN w' (m / n) a3 c3 ∧ RdN w' (m % n) a4 c4 := by
  obtain ⟨L, hL⟩ : ∃ L, L = (Num.digs 10 m).length := ⟨_, rfl⟩
  obtain ⟨Ln, hLn⟩ : ∃ L, L = (Num.digs 10 n).length := ⟨_, rfl⟩
  have CX := fun j (hj : j < L) => h.spot (j := j) (by omega)
  have BX := fun k => h.getD_lt k
  have HS := fun j (hj : j < L) => digit_step (m := m) (j := j) (by omega)
  have hmL : m / 10 ^ L = 0 := Nat.div_eq_of_lt (by rw [hL]; exact Num.lt_pow_length (by decide) m)
  have hlen : ∀ R, R < 10 * n → (Num.digs 10 R).length ≤ 1000001 := fun R hR => by
    have h3 := Num.digs_length_mul_pow (b := 10) (by decide) hn 1
    have h4 := Num.digs_length_mono (b := 10) (by decide) (show R ≤ n * 10 ^ 1 by omega)
    omega
  have CC := fun W (ar : Option Addr) (cr R : Nat) (hb : Below w.heap.size w W) (hR : R < 10 * n) (hr : RdN W R ar cr) => ref1_Cmp ar a2 cr cap2 R n W hr.1 (h2.below hb) (by have := hlen R hR; omega) (by omega)
  have CB := fun W (ar : Option Addr) (cr R : Nat) (hb : Below w.heap.size w W) (hR : R < 10 * n) (hle : n ≤ R) (hr : RdN W R ar cr) => ref1_SubO ar a2 cr cap2 R n W hr.1 (h2.below hb) (by have := hlen R hR; omega) hle
  rw [← hLn] at CC CB ⊢
  rw [← hL] at hl ⊢
  replace CX := hid CX
  replace BX := hid BX
  replace HS := hid HS
  replace hmL := hid hmL
  replace CC := hid CC
  replace CB := hid CB
  replace hlen := hid hlen
  clear h h2 hL hLn
  go_enter Tryz.func50, Tryz.ntmps50
  go_wp2_with (at_make; refine wpList_full numSlice rfl _ _ rfl L rfl rfl rfl rfl (by omega) (by unfold maxLen; omega) ?_; intro w1 hown hb1)
  have HO := hid hown
  have HB1 := hid hb1
  clear hown hb1
  go_loopw [7, 8] (fun v i wr => ∃ k : Nat, k ≤ L ∧ i = .int .i64 ((k : Int) - 1) ∧ DivS w m n L k w.heap.size v wr) (fun _ i _ => (intOf i + 1).toNat)
  case atStart =>
    exact ⟨L, Nat.le_refl _, rfl, [], 0, none, 0, rfl, by simp, by simp, by rw [hmL.out]; simp [Num.val_nil], by omega, by simpa [u8s] using HO.out, rdn_zero _, fun _ h => by (cases h), HB1.out⟩
  case round =>
    clear HO HB1
    obtain ⟨k, hk, rfl, hi, R, ar, cr, rfl, g1, g2, g3, g4, g5, g6, g7, g8⟩ := hrel
    have G1 := hid g1
    have G2 := hid g2
    have G3 := hid g3
    have G5 := hid g5
    have G6 := hid g6
    have G7 := hid g7
    have G8 := hid g8
    clear g1 g2 g3 g5 g6 g7 g8
    by_cases hk0 : k = 0
    · subst hk0
      have hf : Num.val 10 hi = m / n ∧ R = m % n := by
        have e := G3.out
        rw [Nat.pow_zero, Nat.div_one] at e
        refine ⟨?_, ?_⟩
        · rw [e, Nat.mul_comm, Nat.mul_add_div (by omega), Nat.div_eq_of_lt g4, Nat.add_zero]
        · rw [e, Nat.mul_comm, Nat.mul_add_mod, Nat.mod_eq_of_lt g4]
      have hown := G5.out
      rw [show List.replicate 0 0 ++ hi = hi from rfl] at hown
      have CT := r_trim_out _ L L hi w wr (by have := G1.out; omega) G2.out hown G8.out
      rw [hf.1] at CT
      have CT := hid CT
      have HR := hid hf.2
      clear hown hf
      go_wp2_with fail
      refine (CT.out).mono ?_
      rintro e w' ⟨ho, rfl⟩
      obtain ⟨a3, c3, rfl, hb3, hr3⟩ := ho.rd
      have H3 := hid hr3
      have HB3 := hid hb3
      clear hb3 hr3 ho
      go_wp2
      refine bodyPost_ret (v := .tuple #[.slice a3 (Num.digs 10 (m / n)).length c3, .slice ar (Num.digs 10 R).length cr]) (by simp [results, Tryz.results50, go_sem]) rfl ?_
      refine ⟨a3, c3, ar, cr, ?_, HB3.out, H3.out, ?_⟩
      · rw [HR.out]
      · rw [← HR.out]; exact G6.out
    · obtain ⟨j, rfl⟩ : ∃ j, k = j + 1 := ⟨k - 1, by omega⟩
      obtain ⟨wo, rfl⟩ : ∃ wo : World, wo = wr := ⟨_, rfl⟩
      have hj : j < L := by omega
      obtain ⟨d, hde⟩ : ∃ d, d = (Num.digs 10 m).getD j 0 := ⟨_, rfl⟩
      have hd9 : d < 10 := by rw [hde]; exact BX.out j
      obtain ⟨b, off, rfl, hcx⟩ := CX.out j hj
      have hc0 : wo.cell? ⟨b, off + j, none⟩ = some (.int .u8 (d : Int)) := by rw [hde]; exact (G8.out.cell (cell_lt hcx)).trans hcx
      have hstep : Hid (m / 10 ^ j = (d + 10 * R) + 10 * (Num.val 10 hi * n)) := by
        have e1 := HS.out j hj
        have e2 := G3.out
        rw [← hde, e2] at e1
        exact e1.trans (by omega)
      obtain ⟨V, hV⟩ : ∃ V, V = d + 10 * R := ⟨_, rfl⟩
      have hVn : V < 10 * n := by omega
      have hRl := hlen.out R (by omega)
      have HV := hid hV
      rw [← hV] at hstep
      have hi1 : ((j + 1 : Nat) : Int) - 1 = (j : Int) := by omega
      have hrl : (u8s (Num.digs 10 R)).length = (Num.digs 10 R).length := by simp [u8s]
      have HRL := hid hrl
      have HRW := hid G6.out.1.row
      have HRN := hid G6.out.2.2.2
      clear hde hcx hrl hV
      go_wp2_with (at_builtin; refine wpList_before numSlice rfl _ _ rfl (u := .int .u8 (d : Int)) rfl rfl HRW.out HRL.out HRN.out (u8s_one _) (by unfold maxLen; omega) (by omega) ?_; intro v3 w3 hown hb3)
      have ho := hown
      rw [show (Value.int IntKind.u8 (d : Int) :: u8s (Num.digs 10 R)) = u8s (d :: Num.digs 10 R) by rfl] at ho
      obtain ⟨a3, c3, rfl, _, _⟩ := owns_row ho
      have h9 : ∀ x ∈ d :: Num.digs 10 R, x < 10 := fun x hx => (List.mem_cons.1 hx).elim (fun h => by omega) (digs_ten_lt R x)
      have CT := r_trim_own a3 (1 + (Num.digs 10 R).length) c3 (d :: Num.digs 10 R) wo w3 (by simp; omega) h9 ho hb3
      rw [Num.val_cons, Num.val_digs (by decide), ← HV.out] at CT
      have CT := hid CT
      clear ho hown hb3 h9
      go_wp2_with fail
      refine CT.out.mono ?_
      rintro e4 w4 ⟨ho4, rfl⟩
      obtain ⟨a4, c4, rfl, hb4, hr4, hg4⟩ := ho4.rd
      have hgw := G8.out.size
      have hS := hid (DivI.start (n := n) (owns_below G5.out hb4) hr4 (fun A hA => by have := hg4 A hA; have := (G5.out.lt w.heap.size rfl).2; omega) (below_trans G8.out hb4))
      clear ho4 hb4 hr4 hg4 CT HRL HRW HRN G5 G6 G7 G8 hc0
      go_wp2
      go_loopw [7] (fun v wr => DivI w n L j w.heap.size V hi v wr) (fun _ wr => 10 - (intOf ((wr.cell? ⟨w.heap.size, j, none⟩).getD (.bool false))).toNat)
      case atStart => exact hS.out
      case round =>
        clear hS
        obtain ⟨c, R1, ar1, cr1, rfl, q1, q2, q3, q4, q5⟩ := hrel
        have hR1 : R1 < 10 * n := by omega
        have hc9 : c < 10 := by
          refine Nat.lt_of_mul_lt_mul_right (a := n) ?_
          omega
        obtain ⟨z, hz⟩ : ∃ z, z = cmpN R1 n := ⟨_, rfl⟩
        have CC1 := CC.out wr ar1 cr1 R1 q5 hR1 q3
        rw [← hz] at CC1
        have CC1 := hid CC1
        have HOLD : Hid (wr.cell? ⟨w.heap.size, j, none⟩ = some (.int .u8 (c : Int))) := by
          refine hid ?_
          rw [q2.cellAt j (by omega)]
          simp [u8s]
        have Q1 := hid q1
        have Q2 := hid q2
        have Q3 := hid q3
        have Q4 := hid q4
        have Q5 := hid q5
        clear q1 q2 q3 q4 q5
        go_wp2_with fail
        refine CC1.out.mono ?_
        rintro e5 w5 ⟨rfl, q, rfl⟩
        clear CC1
        have T2 := hid (show (wr.drewN q).ownsRow w.heap.size _ 1 _ L _ from Q2.out)
        have T3 := hid (Q3.out.below (below_drewN (Below.refl _ _) q))
        have T5 := hid (below_drewN Q5.out q)
        clear Q2 Q3 Q5
        by_cases hge : n ≤ R1
        · have hz0 : (0 : Int) ≤ z := by rw [hz]; unfold cmpN; split <;> (try split) <;> omega
          have CB1 := hid (CB.out (wr.drewN q) ar1 cr1 R1 T5.out hR1 hge T3.out)
          have HGE := hid hge
          clear hge
          go_wp2_with fail
          refine CB1.out.mono ?_
          rintro e6 w6 ho6
          obtain ⟨a6, c6, rfl, hb6, hr6, hg6⟩ := ho6.rd
          have hgw := (T2.out.lt w.heap.size rfl).2
          have U2 := hid (owns_below T2.out hb6)
          have U3 := hid hr6
          have U4 := hid (show ∀ A, a6 = some A → w.heap.size < A.block from fun A hA => by have := hg6 A hA; omega)
          have U5 := hid (below_trans T5.out hb6)
          clear ho6 hb6 hr6 hg6 hgw CB1 T2 T3 T5
          have hcell : w6.cell? ⟨w.heap.size, j, none⟩ = some (.int .u8 (c : Int)) := by
            rw [U2.out.cellAt j (by omega)]
            simp [u8s]
          have hf2 := U2.out.frozenAt j
          have hST : Hid (∀ wz, wz = w6.setCell ⟨w.heap.size, j, none⟩ (.int .u8 ((c : Int) + 1)) → DivI w n L j w.heap.size V hi (.slice a6 (Num.digs 10 (R1 - n)).length c6) wz ∧ wz.cell? ⟨w.heap.size, j, none⟩ = some (.int .u8 ((c : Int) + 1))) := by
            intro wz hw
            refine ⟨DivI.step Q1.out HGE.out U2.out U3.out U4.out U5.out (by rw [hw]; rfl), ?_⟩
            rw [hw]
            simp [World.cell?_setCell_same, hcell]
          go_wp2
          go_roundw
          case rel => exact (hST.out _ rfl).1
          case measure =>
            rw [(hST.out _ rfl).2, HOLD.out]
            simp [intOf]
            omega
        · have hz0 : ¬ (0 : Int) ≤ z := by rw [hz]; unfold cmpN; rw [if_pos (by omega)]; omega
          have hF := hid (DivI.stop (m := m) G1.out G2.out hstep.out Q1.out hc9 (by omega) T2.out T3.out Q4.out T5.out)
          clear Q1 Q4 T2 T3 T5 hge
          go_wp2
          go_roundw
          case rel => exact ⟨j, by omega, by go_num, hF.out⟩
          case measure => simp [intOf]
end Go.Proofs.YtiblmkecipoanaaGreatDoor
