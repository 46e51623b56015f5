/- The document's answer, sixth part: Make, Head, Fits, To, Tell of numbers. -/
import Derived.Test.YtmdgciolnpkccaaGreatDoorRefF
import Derived.Test.YtmdgciolnpkccaaGreatDoorRefFb
import Derived.Test.YtmdgciolnpkccaaGreatDoorDecO
namespace Go.Proofs.YtmdgciolnpkccaaGreatDoor
open Go.RowKit

/-- A number as the document's answer holds it. -/
def refV (d : D) (a : Option Addr) (cap : Nat) : Value := .agg #[.bool d.neg, .slice a (Num.digs 10 d.m).length cap, .int .i64 d.e]
/-- Digits that read, and how far their row goes. -/
def RdD (w : World) (d : D) (a : Option Addr) (cap : Nat) : Prop := U8 w a (Num.digs 10 d.m) ∧ (Num.digs 10 d.m).length ≤ cap ∧ cap ≤ 9223372036854775807 ∧ (a = none → cap = 0)
theorem RdD.below {w w' : World} {d : D} {a : Option Addr} {cap : Nat} (h : RdD w d a cap) (hb : Below w.heap.size w w') : RdD w' d a cap := ⟨h.1.below hb, h.2⟩
theorem rd_zero (w : World) : RdD w zeroD none 0 := ⟨⟨Row.nil _ _, fun d hd => by cases hd⟩, Nat.le_refl _, by decide, fun _ => rfl⟩
def OutRD (w : World) (d : D) (e : Ending) (w' : World) : Prop := ∃ a cap, e = .returned (refV d a cap) ∧ Below w.heap.size w w' ∧ RdD w' d a cap
def OutRDE (w : World) (d : D) (err : Nat) (e : Ending) (w' : World) : Prop := ∃ a cap, e = .returned (.tuple #[refV d a cap, .int .i64 err]) ∧ Below w.heap.size w w' ∧ RdD w' d a cap

theorem tz_stop (ds : List Nat) (k : Nat) (hk : k < ds.length) (h : ∀ j, j < k → ds.getD j 0 = 0) (h0 : ds.getD k 0 ≠ 0) : (ds.takeWhile (· == 0)).length = k := by
  induction ds generalizing k with
  | nil => simp at hk
  | cons d ds ih =>
    cases k with
    | zero => simp at h0; simp [h0]
    | succ k =>
      have hd : d = 0 := by simpa using h 0 (by omega)
      subst hd
      rw [List.takeWhile_cons]
      simp only [beq_self_eq_true, if_true, List.length_cons]
      rw [ih k (by simpa using hk) (fun j hj => by simpa using h (j + 1) (by omega)) (by simpa using h0)]
theorem digs_some (m : Nat) (h0 : m ≠ 0) : ∃ k, k < (Num.digs 10 m).length ∧ (Num.digs 10 m).getD k 0 ≠ 0 := by
  obtain ⟨zs, y, h1, h2⟩ := Num.digs_last (b := 10) (by decide) m h0
  exact ⟨zs.length, by rw [h1]; simp, by rw [h1]; simp [h2]⟩
theorem digs_tz (m : Nat) (_h0 : m ≠ 0) : (Num.digs 10 m).drop (tz m) = Num.digs 10 (m / 10 ^ tz m) := (Num.digs_div_pow (by decide) m _).symm

set_option maxRecDepth 100000 in
set_option maxHeartbeats 1600000 in
theorem r_Make_some (g : Bool) (b off cap m : Nat) (e : Int) (w : World) (h : U8 w (some ⟨b, off, none⟩) (Num.digs 10 m)) (h0 : m ≠ 0) (hc : (Num.digs 10 m).length ≤ cap) (hc2 : cap ≤ 9223372036854775807) (hd : (Num.digs 10 m).length ≤ 1000000000) (he : -3000000000 ≤ e ∧ e ≤ 3000000000) :
    Calls Tryz.prog 66 #[.bool g, .slice (some ⟨b, off, none⟩) (Num.digs 10 m).length cap, .int .i64 e] w (OutRD w (plainD g m e)) := by
  have hpl : plainD g m e = ⟨g, m / 10 ^ tz m, e + tz m⟩ := by unfold plainD; rw [if_neg h0]
  rw [hpl]
  have C1 := fun j (hj : j < (Num.digs 10 m).length) => h.row.u8 (j := j) hj
  have hrow : U8 w (some ⟨b, off + tz m, none⟩) (Num.digs 10 (m / 10 ^ tz m)) := by
    refine ⟨fun j x hx => ⟨b, off + tz m, rfl, ?_⟩, digs_ten_lt _⟩
    have hx' : (u8s (Num.digs 10 m))[tz m + j]? = some x := by
      rw [← digs_tz m h0] at hx
      simpa [u8s, List.map_drop, List.getElem?_drop] using hx
    obtain ⟨b', off', e1, hc⟩ := h.row _ _ hx'
    injection e1 with e1; injection e1 with e1 e2; subst e1 e2
    rw [Nat.add_assoc]; exact hc
  have hlen : (Num.digs 10 (m / 10 ^ tz m)).length = (Num.digs 10 m).length - tz m := by rw [← digs_tz m h0, List.length_drop]
  have hstop := tz_stop (Num.digs 10 m)
  obtain ⟨q, hq1, hq2⟩ := digs_some m h0
  have htz : ((Num.digs 10 m).takeWhile (· == 0)).length = tz m := rfl
  obtain ⟨ds, hds⟩ : ∃ ds, ds = Num.digs 10 m := ⟨_, rfl⟩
  rw [← hds] at C1 hc hd hlen hstop hq1 hq2 htz ⊢
  obtain ⟨z, hz⟩ : ∃ z, z = tz m := ⟨_, rfl⟩
  rw [← hz] at hrow hlen htz ⊢
  have hlt : z < ds.length := by
    have h2 : 0 < (Num.digs 10 (m / 10 ^ tz m)).length := Num.length_pos (by decide) (tz_split h0).2.2
    rw [← hz, hlen] at h2; omega
  obtain ⟨M, hM⟩ : ∃ M, M = m / 10 ^ z := ⟨_, rfl⟩
  rw [← hM] at hrow hlen ⊢
  obtain ⟨n, hn⟩ : ∃ n, n = ds.length := ⟨_, rfl⟩
  rw [← hn] at C1 hc hd hlen hlt hq1 ⊢
  have HL := hid hlen
  have HR := hid hrow
  have hbw : b < w.heap.size := cell_lt (C1 q hq1)
  replace C1 := hid C1
  have HS : Hid (∀ k, k < n → (∀ j, j < k → ds.getD j 0 = 0) → ds.getD k 0 ≠ 0 → z = k) := fun k h1 h2 h3 => by
    rw [← htz]; exact hstop k (by omega) h2 h3
  have HQ := hid (⟨hq1, hq2⟩ : _ ∧ _)
  clear h h0 hpl hlen hrow hstop htz hds hz hM hn hq1 hq2
  go_enter Tryz.func66, Tryz.ntmps66
  go_wp2
  go_loop [7] (fun v => ∃ k : Nat, k ≤ n ∧ v = .int .i64 k ∧ ∀ j, j < k → ds.getD j 0 = 0) (fun v => n - (intOf v).toNat)
  case atStart => exact ⟨0, Nat.zero_le _, rfl, fun j hj => by omega⟩
  case round =>
    obtain ⟨k, hk, rfl, hz⟩ := hrel
    have HZ := hid hz
    clear hz
    have hkn : k < n := by
      by_cases hkn : k = n
      · exact absurd (HZ.out q (by have := HQ.out.1; omega)) HQ.out.2
      · omega
    have g1 := C1.out k hkn
    by_cases h0 : ds.getD k 0 = 0
    · have HZ' := hid (fun j (hj : j < k + 1) => show ds.getD j 0 = 0 by
        by_cases hjk : j = k
        · rw [hjk]; exact h0
        · exact HZ.out j (by omega))
      rw [h0] at g1
      clear h0
      go_wp2
      go_round
      case rel => exact ⟨k + 1, by omega, by go_num, HZ'.out⟩
      case measure => simp [intOf]; omega
    · have hzk := HS.out k hkn HZ.out h0
      subst hzk
      obtain ⟨x, hx⟩ : ∃ x, x = ds.getD z 0 := ⟨_, rfl⟩
      rw [← hx] at g1 h0
      have hne : ((x : Int) == 0) = false := by rw [beq_eq_false_iff_ne]; omega
      have hzn : ((z : Int) == (n : Int)) = false := by rw [beq_eq_false_iff_ne]; omega
      have hcz : ¬ cap = z := by omega
      clear h0 hx
      go_wp2
      refine bodyPost_ret (v := .agg #[.bool g, .slice (some ⟨b, off + z, none⟩) (Num.digs 10 M).length (cap - z), .int .i64 (e + z)]) (by simp [results, Tryz.results66, go_sem, HL.out]) rfl ?_
      refine ⟨some ⟨b, off + z, none⟩, cap - z, rfl, ?_, ?_⟩
      · exact (Below.refl _ _).alloc (Nat.le_refl _) _
      · exact ⟨HR.out.below ((Below.refl _ _).alloc (Nat.le_refl _) _), by rw [HL.out]; omega, by omega, fun h => by cases h⟩
theorem r_Make_zero (g : Bool) (a : Option Addr) (cap : Nat) (e : Int) (w : World) :
    Calls Tryz.prog 66 #[.bool g, .slice a 0 cap, .int .i64 e] w (OutRD w zeroD) := by
  go_enter Tryz.func66, Tryz.ntmps66
  go_wp2
  refine wp_loop_rounds 1 ?_
  rw [rounds_succ]
  go_wp2
  refine bodyPost_ret (v := .agg #[.bool false, .slice none 0 0, .int .i64 0]) (by simp [results, Tryz.results66, go_sem]) rfl ?_
  refine ⟨none, 0, rfl, ?_, rd_zero _⟩
  exact (Below.refl _ _).alloc (Nat.le_refl _) _

end Go.Proofs.YtmdgciolnpkccaaGreatDoor
