/- The document's answer of chapter 03, fourth part: parts. -/
import Derived.Test.YtiblmkecipoanaaGreatDoorRef3B
import Derived.Test.YtiblmkecipoanaaGreatDoorRefJb
import Derived.Test.YtiblmkecipoanaaGreatDoorMi
import Derived.Deep.QuietTactic
import Derived.BigQuiet
import Derived.Deep.CutBlock
namespace Go.Proofs.YtiblmkecipoanaaGreatDoor
open Go.RowKit

theorem own_none8 (w : World) (e : TypeId) : (w.alloc (.cells #[] e)).ownsRow w.heap.size e 1 (.slice (some ⟨w.heap.size, 0, none⟩) 0 0) 0 [] :=
  ⟨rfl, .inr ⟨w.heap.size, 0, #[], rfl, Nat.le_refl _, blk_new w _, Nat.le_refl _, by unfold maxLen; omega, rfl, rfl⟩⟩
theorem own_none82 (w : World) (o : Obj) (e : TypeId) : ((w.alloc o).alloc (.cells #[] e)).ownsRow w.heap.size e 1 (.slice (some ⟨w.heap.size + 1, 0, none⟩) 0 0) 0 [] := by
  have h := own_none8 (w.alloc o) e
  rw [show (w.alloc o).heap.size = w.heap.size + 1 by simp] at h
  exact owns_mono h (by omega)
/-- The n lowest digits, as a row: what stands at the place n - 1. -/
def TopD (w : World) (m n : Nat) (a : Option Addr) : Prop := ∃ b off, a = some ⟨b, off, none⟩ ∧ w.cell? ⟨b, off + (n - 1), none⟩ = some (.int .u8 (((Num.digs 10 m).getD (n - 1) 0 : Nat) : Int))
theorem TopD.below {w w' : World} {m n : Nat} {a : Option Addr} (h : TopD w m n a) (hb : Below w.heap.size w w') : TopD w' m n a := by
  obtain ⟨b, off, h1, h2⟩ := h
  exact ⟨b, off, h1, ((bcell hb).1 _ _ (cell_lt h2)).trans h2⟩
theorem drop_digs {w : World} {m n b off : Nat} (h : U8 w (some ⟨b, off, none⟩) (Num.digs 10 m)) : U8 w (some ⟨b, off + n, none⟩) (Num.digs 10 (m / 10 ^ n)) := by
  rw [Num.digs_div_pow (by decide)]
  refine ⟨fun j x hx => ?_, fun d hd => h.lt d (List.mem_of_mem_drop hd)⟩
  have hx2 : (u8s (Num.digs 10 m))[n + j]? = some x := by
    rw [show u8s ((Num.digs 10 m).drop n) = (u8s (Num.digs 10 m)).drop n by simp [u8s, List.map_drop], List.getElem?_drop] at hx
    exact hx
  obtain ⟨b2, off2, e2, hc⟩ := h.row _ x hx2
  injection e2 with e2
  injection e2 with e2 e3
  subst e2 e3
  exact ⟨b, off + n, rfl, by rw [Nat.add_assoc]; exact hc⟩

def lenV : Value → Nat
  | .slice _ n _ => n
  | _ => 0
/-- What holds at the head of a round in which noughts are laid behind the digits. -/
def PadR (w : World) (m k : Nat) (v : Value) (wr : World) : Prop :=
  wr.ownsRow w.heap.size 5 1 v ((Num.digs 10 m).length + k) (u8s (Num.digs 10 m ++ List.replicate k 0)) ∧ Below w.heap.size w wr

set_option maxRecDepth 100000 in
set_option maxHeartbeats 3200000 in
theorem ref3_parts (x : D) (a : Option Addr) (c : Nat) (w : World) (n : Nat) (h : RdD w x a c) (hm : x.m ≠ 0) (hl : (Num.digs 10 x.m).length ≤ 400) (he : x.e = -(n : Int)) (hn1 : 1 ≤ n) (hn : n ≤ 20000) :
    Calls Tryz.prog 91 #[refV x a c] w fun e w' => ∃ a1 c1 a2 c2, e = .returned (.tuple #[.slice a1 (Num.digs 10 (x.m / 10 ^ n)).length c1, .slice a2 n c2]) ∧ Below w.heap.size w w' ∧ RdN w' (x.m / 10 ^ n) a1 c1 ∧ TopD w' x.m n a2 := by
  obtain ⟨hu, hc1, hc2, hc3⟩ := h
  have hl0 := Num.length_pos (b := 10) (by decide) hm
  obtain ⟨b, off, rfl⟩ := hu.isSome (fun e => by rw [e] at hl0; simp at hl0)
  unfold refV
  rw [he]
  obtain ⟨m, hme⟩ : ∃ m, m = x.m := ⟨_, rfl⟩
  rw [← hme] at hu hc1 hl hl0 hm ⊢
  obtain ⟨g, hg⟩ : ∃ g, g = x.neg := ⟨_, rfl⟩
  rw [← hg]
  have i1 : ¬ (0 : Int) ≤ -(n : Int) := by omega
  by_cases hnl : (Num.digs 10 m).length ≤ n
  · have hz : m / 10 ^ n = 0 := Nat.div_eq_of_lt ((Num.digs_length_le (by decide)).1 hnl)
    obtain ⟨d, hd⟩ : ∃ d, d = (Num.digs 10 m).getD (n - 1) 0 := ⟨_, rfl⟩
    have HT := hid (fun (W : World) (v : Value) (h : PadR w m (n - (Num.digs 10 m).length) v W) => show ∃ a2 c2, v = .slice a2 n c2 ∧ TopD W m n a2 from by
      obtain ⟨ho, _⟩ := h
      rw [show (Num.digs 10 m).length + (n - (Num.digs 10 m).length) = n by omega] at ho
      obtain ⟨a2, c2, rfl, hr, hlen⟩ := owns_row ho
      refine ⟨a2, c2, rfl, ?_⟩
      have hget : (u8s (Num.digs 10 m ++ List.replicate (n - (Num.digs 10 m).length) 0))[n - 1]? = some (.int .u8 (((Num.digs 10 m).getD (n - 1) 0 : Nat) : Int)) := by
        simp only [u8s, List.map_append, List.map_replicate]
        by_cases hq : n - 1 < (Num.digs 10 m).length
        · rw [List.getElem?_append_left (by simpa using hq), List.getElem?_map, List.getElem?_eq_getElem hq, List.getD_eq_getElem?_getD, List.getElem?_eq_getElem hq]
          rfl
        · rw [List.getElem?_append_right (by simp; omega), List.getElem?_replicate, if_pos (by simp; omega), List.getD_eq_getElem?_getD, List.getElem?_eq_none (by omega)]
          rfl
      obtain ⟨b2, off2, rfl, hc⟩ := hr _ _ hget
      exact ⟨b2, off2, rfl, hc⟩)
    obtain ⟨L, hL⟩ : ∃ L, L = (Num.digs 10 m).length := ⟨_, rfl⟩
    have HROW := hid hu.row
    have HRL := hid (show (u8s (Num.digs 10 m)).length = L by rw [hL]; simp [u8s])
    have HD0 := hid (show u8s (Num.digs 10 m) = u8s (Num.digs 10 m ++ List.replicate 0 0) by simp)
    rw [← hL] at hnl hl hl0 HT
    have HPAD := hid (fun (W : World) (v : Value) (k : Nat) => show PadR w m k v W ↔ W.ownsRow w.heap.size 5 1 v (L + k) (u8s (Num.digs 10 m ++ List.replicate k 0)) ∧ Below w.heap.size w W by rw [hL]; rfl)
    rw [hz, ← hL]
    have hLn : ((L : Nat) : Int) ≤ (n : Int) := by omega
    have hn0 : ¬ n = 0 := by omega
    clear hu hc1 hz hme hg he hd hm hL hc3
    go_enter Tryz.func91, Tryz.ntmps91
    go_upto_region 5 with fail
    go_wp2_with (at_builtin; go_loud (refine wpList_extend numSlice rfl _ _ rfl w.heap.size (own_none82 _ _ _) rfl rfl (HROW.out.below (((Below.refl _ _).alloc (Nat.le_refl _) _).alloc (by simp) _)) HRL.out (fun h => by cases h) (u8s_one _) (by unfold maxLen; omega) (by omega) (by simp; omega) ?_); intro v3 w3 hown hb3)
    have P0 : Hid (PadR w m 0 v3 w3) := hid ((HPAD.out w3 v3 0).2 ⟨by rw [← HD0.out]; simpa using hown, (((Below.refl _ _).alloc (Nat.le_refl _) _).alloc (by simp) _).trans (hb3.mono (by simp))⟩)
    clear hown hb3
    go_wp2
    go_loopw [5] (fun v wr => ∃ k : Nat, k ≤ n - L ∧ PadR w m k v wr) (fun v _ => n - lenV v)
    case atStart => exact ⟨0, by omega, P0.out⟩
    case round =>
      clear P0
      obtain ⟨k, hk, hP⟩ := hrel
      obtain ⟨hown, hbw⟩ := (HPAD.out _ _ _).1 hP
      obtain ⟨a2, c2, rfl, _, _⟩ := owns_row hown
      have hsz := hbw.size
      have HB := hid hbw
      have HP := hid hP
      clear hP hbw
      by_cases hlt : L + k < n
      · have i2 : ((L + k : Nat) : Int) < (n : Int) := by omega
        go_wp2_with (at_builtin; refine wpList_push numSlice rfl _ _ rfl w.heap.size (w0 := wr) hown rfl rfl rfl (by unfold maxLen; omega) (by omega) hsz ?_; intro v' w5 hown' hb')
        have P1 : Hid (PadR w m (k + 1) v' w5) := hid ((HPAD.out w5 v' (k + 1)).2 ⟨by rw [List.replicate_succ', ← List.append_assoc]; simpa [u8s, Nat.add_assoc] using hown', HB.out.trans hb'⟩)
        have hlv : Hid (lenV v' = L + k + 1) := by
          obtain ⟨a5, c5, rfl, _, _⟩ := owns_row hown'
          exact hid rfl
        clear hown hown' hb'
        go_wp2
        go_roundw
        case rel => exact ⟨k + 1, by omega, P1.out⟩
        case measure => rw [hlv.out]; simp only [lenV]; omega
      · have i2 : ¬ ((L + k : Nat) : Int) < (n : Int) := by omega
        obtain rfl : k = n - L := by omega
        obtain ⟨a6, c6, e6, ht⟩ := HT.out _ _ HP.out
        injection e6 with e6 e7 e8
        subst e6 e8
        have HTT := hid ht
        have hnn : L + (n - L) = n := by omega
        clear hown ht HP
        rw [hnn] at i2 ⊢
        go_wp2
        refine bodyPost_ret (v := .tuple #[.slice none 0 0, .slice a2 n c2]) (by simp [results, Tryz.results91, go_sem]) rfl ?_
        exact ⟨none, 0, a2, ⟨c2, rfl⟩, HB.out, rdn_zero _, HTT.out⟩
  · have hlq : (Num.digs 10 (m / 10 ^ n)).length = (Num.digs 10 m).length - n := by rw [Num.digs_div_pow (by decide), List.length_drop]
    have hD := hid (drop_digs (n := n) hu)
    have hTop := hid (show TopD w m n (some ⟨b, off, none⟩) from ⟨b, off, rfl, hu.row.u8 (by omega)⟩)
    obtain ⟨L, hL⟩ : ∃ L, L = (Num.digs 10 m).length := ⟨_, rfl⟩
    rw [← hL] at hc1 hlq hnl hl ⊢
    obtain ⟨M, hM⟩ : ∃ M, M = m / 10 ^ n := ⟨_, rfl⟩
    rw [← hM] at hlq hD ⊢
    have hLn : ¬ ((L : Nat) : Int) ≤ (n : Int) := by omega
    have hnL : (n : Int) ≤ ((L : Nat) : Int) := by omega
    have hnc : (n : Int) ≤ (c : Int) := by omega
    have hn0 : ¬ n = 0 := by omega
    have hcn : ¬ c = n := by omega
    have HLQ := hid hlq
    have h0n : (0 : Int) ≤ (n : Int) := by omega
    have hLc : ((L : Nat) : Int) ≤ (c : Int) := by omega
    clear hu hm he hme hg hlq hL hM hc3 hl0
    go_enter Tryz.func91, Tryz.ntmps91
    go_upto_region 9 with fail
    go_quiet (fail)
    have HB := hid (below_drewN ((Below.refl w.heap.size w).alloc (Nat.le_refl _) (.cells #[.bool g, .slice (some ⟨b, off, none⟩) L c, .int .i64 (-(n : Int))] 57)) nq)
    go_wp2
    refine bodyPost_ret (v := .tuple #[.slice (some ⟨b, off + n, none⟩) (L - n) (c - n), .slice (some ⟨b, off, none⟩) n c]) (by simp [results, Tryz.results91, go_sem]) rfl ?_
    exact ⟨some ⟨b, off + n, none⟩, c - n, some ⟨b, off, none⟩, ⟨c, by rw [HLQ.out]⟩, HB.out, ⟨hD.out.below HB.out, by rw [HLQ.out]; omega, by omega, fun h => by cases h⟩, hTop.out.below HB.out⟩
end Go.Proofs.YtiblmkecipoanaaGreatDoor
