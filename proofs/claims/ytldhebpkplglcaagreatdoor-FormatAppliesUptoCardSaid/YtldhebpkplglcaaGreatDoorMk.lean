/- A world that only grew: blocks behind, draws on. The library's decoder of strings only grows the world: blocks behind, draws on. Texts as the program sees them: the first code point, how far a text is sound. A map of bools that the call made: what is looked up in it. A set of texts, as a map of bools that the call made. Texts held against each other: what the program answers on sound ones. Is a text sound? The program's answer. -/
import Derived.Test.YtldhebpkplglcaaGreatDoorNB
import Derived.Test.YtldhebpkplglcaaGreatDoorProg
import Derived.Test.YtldhebpkplglcaaGreatDoorMj
import Derived.Sort.Grow
import Derived.Deep.Draws
import Derived.WalkKit
import Derived.Maps.Own
import Derived.Maps.OwnOps
import Derived.Maps.Views
import Derived.Maps.StringElems
import Derived.StringKeys
import Derived.Laws.Cover1
namespace Go.Proofs.YtldhebpkplglcaaGreatDoor
open Go.RowKit

structure Grows (w w' : World) : Prop where
  bel : Below w.heap.size w w'
  drawn : w.drawn ≤ w'.drawn
theorem Grows.refl (w : World) : Grows w w := ⟨Below.refl _ _, Nat.le_refl _⟩
theorem Grows.trans {a b c : World} (h : Grows a b) (k : Grows b c) : Grows a c := ⟨below_trans h.bel k.bel, Nat.le_trans h.drawn k.drawn⟩
theorem Grows.alloc {a b : World} (h : Grows a b) (o : Obj) : Grows a (b.alloc o) := ⟨h.bel.alloc h.bel.size _, h.drawn⟩
theorem Grows.drew {a b : World} (h : Grows a b) : Grows a b.drew := ⟨h.bel.drew, Nat.le_succ_of_le h.drawn⟩
theorem Grows.drewN {a b : World} (h : Grows a b) (n : Nat) : Grows a (b.drewN n) := ⟨below_drewN h.bel n, Nat.le_trans h.drawn (Nat.le_add_right _ _)⟩
theorem Grows.grow {w w' : World} (h : Grows w w') : ∃ q os, w' = Go.Sort.grow (w.drewN q) os := by
  refine ⟨w'.drawn - w.drawn, w'.heap.extract w.heap.size w'.heap.size, ?_⟩
  have e1 := h.bel.os
  have e2 := h.bel.tape
  have e3 := h.bel.output
  have e4 := h.bel.size
  have e5 := h.bel.block
  have e6 := h.drawn
  obtain ⟨hp, tp, dr, os, ou⟩ := w
  obtain ⟨hp', tp', dr', os', ou'⟩ := w'
  simp only at e1 e2 e3 e4 e5 e6
  subst e1 e2 e3
  unfold Go.Sort.grow World.drewN
  simp only [World.mk.injEq, true_and, and_true]
  refine ⟨?_, by omega⟩
  refine Array.ext_getElem? fun i => ?_
  by_cases hi : i < hp.size
  · rw [Array.getElem?_append_left hi]
    exact e5 i hi
  · rw [Array.getElem?_append_right (by omega), Array.getElem?_extract]
    split
    · congr 1
      omega
    · exact Array.getElem?_eq_none (by omega)
theorem Grows.of {w : World} (q : Nat) (os : Array Obj) : Grows w (Go.Sort.grow (w.drewN q) os) := by
  refine ⟨⟨rfl, rfl, rfl, ?_, fun k hk => ?_⟩, Nat.le_add_right _ _⟩
  · simp [Go.Sort.grow, World.drewN]
  · simp only [Go.Sort.grow, World.drewN]
    exact Array.getElem?_append_left hk

end Go.Proofs.YtldhebpkplglcaaGreatDoor

namespace Go.Proofs.YtldhebpkplglcaaGreatDoor
open Go.RowKit

set_option maxHeartbeats 4000000 in
set_option maxRecDepth 1000000 in
/-- The slow road: any first byte but one of ASCII's. -/
theorem slow_grows (s : ByteArray) (w : World) (hT : Lib.Utf8Tabs 1 2 w) (h0 : s.size ≠ 0) (hasc : ¬ (s.get! 0).toNat < 128) :
    Calls Tryz.prog 117 #[.string s] w fun e w' => e = .returned (.tuple #[.int .i32 (Lib.decodeGo s).1, .int .i64 (Lib.decodeGo s).2]) ∧ Grows w w' := by
  have hz0 : (0 : Int) < (s.size : Int) := by omega
  have hz0' : ¬ ((s.size : Int) < 1) := by omega
  obtain ⟨x0, hx0⟩ : ∃ x0, s.get! 0 = x0 := ⟨_, rfl⟩
  obtain ⟨x1, hx1⟩ : ∃ x1, s.get! 1 = x1 := ⟨_, rfl⟩
  obtain ⟨x2, hx2⟩ : ∃ x2, s.get! 2 = x2 := ⟨_, rfl⟩
  obtain ⟨x3, hx3⟩ : ∃ x3, s.get! 3 = x3 := ⟨_, rfl⟩
  have g0 : ∀ (h : 0 < s.size), s[0]'h = x0 := fun h => by rw [← hx0]; exact (Utf8W.get!_of_lt s 0 h).symm
  have g1 : ∀ (h : 1 < s.size), s[1]'h = x1 := fun h => by rw [← hx1]; exact (Utf8W.get!_of_lt s 1 h).symm
  have g2 : ∀ (h : 2 < s.size), s[2]'h = x2 := fun h => by rw [← hx2]; exact (Utf8W.get!_of_lt s 2 h).symm
  have g3 : ∀ (h : 3 < s.size), s[3]'h = x3 := fun h => by rw [← hx3]; exact (Utf8W.get!_of_lt s 3 h).symm
  have hs0 := g0 (by omega)
  rw [hx0] at hasc
  have l0 := x0.toNat_lt; have l1 := x1.toNat_lt; have l2 := x2.toNat_lt; have l3 := x3.toNat_lt
  have hdec : Lib.decodeGo s = Lib.decodeN s.size x0.toNat x1.toNat x2.toNat x3.toNat := by
    simp only [Lib.decodeGo, h0, if_false]
    rw [Lib.decode_at, Nat.sub_zero, Nat.zero_add, Nat.zero_add, Nat.zero_add, hx0, hx1, hx2, hx3]
  rw [hdec]
  clear hdec hx0 hx1 hx2 hx3 g0
  have hc0 := hT.1 x0.toNat (by omega)
  by_cases hX : Lib.firstT x0.toNat = 241
  · rw [Lib.bad_eq _ _ _ _ _ (by omega) hX]
    rw [hX] at hc0
    clear hT hX g1 g2 g3
    go_enter Tryz.func117, Tryz.ntmps117
    go_wp2
    rw [Utf8W.mask241, Utf8W.drop_byte ⟨x0.toNat, l0⟩]
    go_ret2
    exact ⟨rfl, Grows.refl _⟩
  · have hA : Lib.firstT x0.toNat ≠ 240 := fun h => by
      unfold Lib.firstT at h
      repeat' split at h
      all_goals omega
    have hres := (Lib.slow_eq s.size x0.toNat x1.toNat x2.toNat x3.toNat (by omega) (by omega) (by omega) (by omega) (by rcases Lib.firstT_cases x0.toNat with h | h | h | h | h | h | h | h | h <;> omega)).symm
    rw [hres]
    clear hres
    have ha := hT.2 (Lib.firstT x0.toNat / 16) (by rcases Lib.firstT_cases x0.toNat with h | h | h | h | h | h | h | h | h <;> omega)
    obtain ⟨ha0, ha1⟩ := ha
    clear hT
    rcases Lib.firstT_cases x0.toNat with h | h | h | h | h | h | h | h | h
    · exact absurd h hA
    · exact absurd h hX
    · rw [h] at hc0 ha0 ha1 ⊢
      clear hA hX h
      simp only [Lib.accLo, Lib.accHi, Nat.reduceMul, Nat.reduceAdd, Nat.reduceEqDiff, if_true, if_false, Nat.reduceMod, Nat.reduceDiv] at ha0 ha1 ⊢
      rcases Nat.lt_or_ge s.size 2 with hn | hn
      · have hnz : (s.size : Int) < 2 := by omega
        clear g1 g2 g3
        go_enter Tryz.func117, Tryz.ntmps117
        go_wp2
        all_goals (go_ret2; refine ⟨?_, (Grows.refl _).alloc _⟩; unfold Lib.slowN; (repeat' split); all_goals first | (exfalso; omega) | rfl | (simp only [Int.natCast_add, Int.natCast_mul, Int.natCast_emod, Int.natCast_ofNat]; rfl))
      · have hz1 : (1 : Int) < (s.size : Int) := by omega
        have hs1 := g1 (by omega)
        clear g1 g2 g3
        go_enter Tryz.func117, Tryz.ntmps117
        go_wp2
        all_goals (go_ret2; refine ⟨?_, (Grows.refl _).alloc _⟩; unfold Lib.slowN; (repeat' split); all_goals first | (exfalso; omega) | rfl | (simp only [Int.natCast_add, Int.natCast_mul, Int.natCast_emod, Int.natCast_ofNat]; rfl))
    · rw [h] at hc0 ha0 ha1 ⊢
      clear hA hX h
      simp only [Lib.accLo, Lib.accHi, Nat.reduceMul, Nat.reduceAdd, Nat.reduceEqDiff, if_true, if_false, Nat.reduceMod, Nat.reduceDiv] at ha0 ha1 ⊢
      rcases Nat.lt_or_ge s.size 3 with hn | hn
      · have hnz : (s.size : Int) < 3 := by omega
        clear g1 g2 g3
        go_enter Tryz.func117, Tryz.ntmps117
        go_wp2
        all_goals (go_ret2; refine ⟨?_, (Grows.refl _).alloc _⟩; unfold Lib.slowN; (repeat' split); all_goals first | (exfalso; omega) | rfl | (simp only [Int.natCast_add, Int.natCast_mul, Int.natCast_emod, Int.natCast_ofNat]; rfl))
      · have hz1 : (1 : Int) < (s.size : Int) := by omega
        have hs1 := g1 (by omega)
        have hz2 : (2 : Int) < (s.size : Int) := by omega
        have hs2 := g2 (by omega)
        clear g1 g2 g3
        go_enter Tryz.func117, Tryz.ntmps117
        go_wp2
        all_goals (go_ret2; refine ⟨?_, (Grows.refl _).alloc _⟩; unfold Lib.slowN; (repeat' split); all_goals first | (exfalso; omega) | rfl | (simp only [Int.natCast_add, Int.natCast_mul, Int.natCast_emod, Int.natCast_ofNat]; rfl))
    · rw [h] at hc0 ha0 ha1 ⊢
      clear hA hX h
      simp only [Lib.accLo, Lib.accHi, Nat.reduceMul, Nat.reduceAdd, Nat.reduceEqDiff, if_true, if_false, Nat.reduceMod, Nat.reduceDiv] at ha0 ha1 ⊢
      rcases Nat.lt_or_ge s.size 3 with hn | hn
      · have hnz : (s.size : Int) < 3 := by omega
        clear g1 g2 g3
        go_enter Tryz.func117, Tryz.ntmps117
        go_wp2
        all_goals (go_ret2; refine ⟨?_, (Grows.refl _).alloc _⟩; unfold Lib.slowN; (repeat' split); all_goals first | (exfalso; omega) | rfl | (simp only [Int.natCast_add, Int.natCast_mul, Int.natCast_emod, Int.natCast_ofNat]; rfl))
      · have hz1 : (1 : Int) < (s.size : Int) := by omega
        have hs1 := g1 (by omega)
        have hz2 : (2 : Int) < (s.size : Int) := by omega
        have hs2 := g2 (by omega)
        clear g1 g2 g3
        go_enter Tryz.func117, Tryz.ntmps117
        go_wp2
        all_goals (go_ret2; refine ⟨?_, (Grows.refl _).alloc _⟩; unfold Lib.slowN; (repeat' split); all_goals first | (exfalso; omega) | rfl | (simp only [Int.natCast_add, Int.natCast_mul, Int.natCast_emod, Int.natCast_ofNat]; rfl))
    · rw [h] at hc0 ha0 ha1 ⊢
      clear hA hX h
      simp only [Lib.accLo, Lib.accHi, Nat.reduceMul, Nat.reduceAdd, Nat.reduceEqDiff, if_true, if_false, Nat.reduceMod, Nat.reduceDiv] at ha0 ha1 ⊢
      rcases Nat.lt_or_ge s.size 3 with hn | hn
      · have hnz : (s.size : Int) < 3 := by omega
        clear g1 g2 g3
        go_enter Tryz.func117, Tryz.ntmps117
        go_wp2
        all_goals (go_ret2; refine ⟨?_, (Grows.refl _).alloc _⟩; unfold Lib.slowN; (repeat' split); all_goals first | (exfalso; omega) | rfl | (simp only [Int.natCast_add, Int.natCast_mul, Int.natCast_emod, Int.natCast_ofNat]; rfl))
      · have hz1 : (1 : Int) < (s.size : Int) := by omega
        have hs1 := g1 (by omega)
        have hz2 : (2 : Int) < (s.size : Int) := by omega
        have hs2 := g2 (by omega)
        clear g1 g2 g3
        go_enter Tryz.func117, Tryz.ntmps117
        go_wp2
        all_goals (go_ret2; refine ⟨?_, (Grows.refl _).alloc _⟩; unfold Lib.slowN; (repeat' split); all_goals first | (exfalso; omega) | rfl | (simp only [Int.natCast_add, Int.natCast_mul, Int.natCast_emod, Int.natCast_ofNat]; rfl))
    · rw [h] at hc0 ha0 ha1 ⊢
      clear hA hX h
      simp only [Lib.accLo, Lib.accHi, Nat.reduceMul, Nat.reduceAdd, Nat.reduceEqDiff, if_true, if_false, Nat.reduceMod, Nat.reduceDiv] at ha0 ha1 ⊢
      rcases Nat.lt_or_ge s.size 4 with hn | hn
      · have hnz : (s.size : Int) < 4 := by omega
        clear g1 g2 g3
        go_enter Tryz.func117, Tryz.ntmps117
        go_wp2
        all_goals (go_ret2; refine ⟨?_, (Grows.refl _).alloc _⟩; unfold Lib.slowN; (repeat' split); all_goals first | (exfalso; omega) | rfl | (simp only [Int.natCast_add, Int.natCast_mul, Int.natCast_emod, Int.natCast_ofNat]; rfl))
      · have hz1 : (1 : Int) < (s.size : Int) := by omega
        have hs1 := g1 (by omega)
        have hz2 : (2 : Int) < (s.size : Int) := by omega
        have hs2 := g2 (by omega)
        have hz3 : (3 : Int) < (s.size : Int) := by omega
        have hs3 := g3 (by omega)
        clear g1 g2 g3
        go_enter Tryz.func117, Tryz.ntmps117
        go_wp2
        all_goals (go_ret2; refine ⟨?_, (Grows.refl _).alloc _⟩; unfold Lib.slowN; (repeat' split); all_goals first | (exfalso; omega) | rfl | (simp only [Int.natCast_add, Int.natCast_mul, Int.natCast_emod, Int.natCast_ofNat]; rfl))
    · rw [h] at hc0 ha0 ha1 ⊢
      clear hA hX h
      simp only [Lib.accLo, Lib.accHi, Nat.reduceMul, Nat.reduceAdd, Nat.reduceEqDiff, if_true, if_false, Nat.reduceMod, Nat.reduceDiv] at ha0 ha1 ⊢
      rcases Nat.lt_or_ge s.size 4 with hn | hn
      · have hnz : (s.size : Int) < 4 := by omega
        clear g1 g2 g3
        go_enter Tryz.func117, Tryz.ntmps117
        go_wp2
        all_goals (go_ret2; refine ⟨?_, (Grows.refl _).alloc _⟩; unfold Lib.slowN; (repeat' split); all_goals first | (exfalso; omega) | rfl | (simp only [Int.natCast_add, Int.natCast_mul, Int.natCast_emod, Int.natCast_ofNat]; rfl))
      · have hz1 : (1 : Int) < (s.size : Int) := by omega
        have hs1 := g1 (by omega)
        have hz2 : (2 : Int) < (s.size : Int) := by omega
        have hs2 := g2 (by omega)
        have hz3 : (3 : Int) < (s.size : Int) := by omega
        have hs3 := g3 (by omega)
        clear g1 g2 g3
        go_enter Tryz.func117, Tryz.ntmps117
        go_wp2
        all_goals (go_ret2; refine ⟨?_, (Grows.refl _).alloc _⟩; unfold Lib.slowN; (repeat' split); all_goals first | (exfalso; omega) | rfl | (simp only [Int.natCast_add, Int.natCast_mul, Int.natCast_emod, Int.natCast_ofNat]; rfl))
    · rw [h] at hc0 ha0 ha1 ⊢
      clear hA hX h
      simp only [Lib.accLo, Lib.accHi, Nat.reduceMul, Nat.reduceAdd, Nat.reduceEqDiff, if_true, if_false, Nat.reduceMod, Nat.reduceDiv] at ha0 ha1 ⊢
      rcases Nat.lt_or_ge s.size 4 with hn | hn
      · have hnz : (s.size : Int) < 4 := by omega
        clear g1 g2 g3
        go_enter Tryz.func117, Tryz.ntmps117
        go_wp2
        all_goals (go_ret2; refine ⟨?_, (Grows.refl _).alloc _⟩; unfold Lib.slowN; (repeat' split); all_goals first | (exfalso; omega) | rfl | (simp only [Int.natCast_add, Int.natCast_mul, Int.natCast_emod, Int.natCast_ofNat]; rfl))
      · have hz1 : (1 : Int) < (s.size : Int) := by omega
        have hs1 := g1 (by omega)
        have hz2 : (2 : Int) < (s.size : Int) := by omega
        have hs2 := g2 (by omega)
        have hz3 : (3 : Int) < (s.size : Int) := by omega
        have hs3 := g3 (by omega)
        clear g1 g2 g3
        go_enter Tryz.func117, Tryz.ntmps117
        go_wp2
        all_goals (go_ret2; refine ⟨?_, (Grows.refl _).alloc _⟩; unfold Lib.slowN; (repeat' split); all_goals first | (exfalso; omega) | rfl | (simp only [Int.natCast_add, Int.natCast_mul, Int.natCast_emod, Int.natCast_ofNat]; rfl))

set_option maxHeartbeats 1000000 in
set_option maxRecDepth 1000000 in
theorem decode_grows (s : ByteArray) (w : World) (hT : Lib.Utf8Tabs 1 2 w) (h0 : s.size ≠ 0) :
    Calls Tryz.prog 77 #[.string s] w fun e w' => e = .returned (.tuple #[.int .i32 (Lib.decodeGo s).1, .int .i64 (Lib.decodeGo s).2]) ∧ Grows w w' := by
  have cS := slow_grows s w hT h0
  obtain ⟨R, hR⟩ : ∃ R, (Lib.decodeGo s).1 = R := ⟨_, rfl⟩
  obtain ⟨K, hK⟩ : ∃ K, (Lib.decodeGo s).2 = K := ⟨_, rfl⟩
  rw [hR, hK] at cS ⊢
  have hne : s.toList.isEmpty = false := by
    rw [Lib.toList_data]
    cases h : s.data.toList with
    | nil => exact absurd (by rw [Lib.size_eq, h]; rfl) h0
    | cons _ _ => rfl
  have hz0 : (0 : Int) < (s.size : Int) := by omega
  have hs0 : s[0]'(by omega) = s.get! 0 := (Utf8W.get!_of_lt s 0 (by omega)).symm
  by_cases ha : (s.get! 0).toNat < 128
  · have hd : Lib.decodeGo s = ((s.get! 0).toNat, 1) := by
      simp only [Lib.decodeGo, h0, if_false]
      rw [Lib.decode_at]
      simp [Lib.decodeN, ha]
    rw [hd] at hR hK
    clear cS hd
    generalize s.get! 0 = x0 at *
    have haz : (x0.toNat : Int) < 128 := by omega
    subst hR; subst hK
    go_enter Tryz.func77, Tryz.ntmps77
    go_wp2
    go_ret2
    exact ⟨rfl, Grows.refl _⟩
  · have C := hid (cS ha)
    clear hR hK cS
    generalize s.get! 0 = x0 at *
    have haz : ¬ ((x0.toNat : Int) < 128) := by omega
    go_enter Tryz.func77, Tryz.ntmps77
    go_wp2_with fail
    refine C.out.mono ?_
    rintro e w' ⟨rfl, hb⟩
    go_wp2
    go_ret2
    exact ⟨rfl, hb⟩

end Go.Proofs.YtldhebpkplglcaaGreatDoor

namespace Go.Proofs.YtldhebpkplglcaaGreatDoor
open Go.RowKit

theorem decB_le (l : List Nat) (h : ∀ x ∈ l, x < 256) : (decB l).1 ≤ 1114111 ∧ (decB l).2 ≤ 4 := by
  have hg : ∀ i, l.getD i 0 < 256 := fun i => by
    by_cases hi : i < l.length
    · rw [List.getD_eq_getElem?_getD, List.getElem?_eq_getElem hi]; exact h _ (List.getElem_mem hi)
    · rw [List.getD_eq_getElem?_getD, List.getElem?_eq_none (by omega)]; decide
  have h0 := hg 0
  have h1 := hg 1
  have h2 := hg 2
  have h3 := hg 3
  unfold decB
  generalize l.getD 0 0 = b0 at *
  generalize l.getD 1 0 = b1 at *
  generalize l.getD 2 0 = b2 at *
  generalize l.getD 3 0 = b3 at *
  unfold Lib.decodeN
  repeat (first | split | (constructor <;> (try dsimp only) <;> omega))
/-- What the program's decoding answers. -/
def decG (l : List UInt8) : Nat × Nat := if l = [] then (65533, 0) else decB (nats l)
theorem decG_eq (l : List UInt8) : Lib.decodeGo ⟨l.toArray⟩ = decG l := decodeGo_list l
theorem decG_le (l : List UInt8) : (decG l).1 ≤ 1114111 ∧ (decG l).2 ≤ 4 := by
  unfold decG
  split
  · decide
  · exact decB_le _ (nats_lt l)
theorem okG (l : List UInt8) : okB (nats l) = (decide (1 < (decG l).2) || (decide ((decG l).2 = 1) && decide ((decG l).1 < 128))) := by
  unfold okB decG
  by_cases h : l = []
  · subst h; decide
  · have : nats l ≠ [] := fun e => h (by simpa [nats] using e)
    simp [h, this]

set_option maxRecDepth 100000 in
theorem utf_Decode (l : List UInt8) (w : World) (hne : l ≠ []) (hT : Lib.Utf8Tabs 1 2 w) :
    Calls Tryz.prog 71 #[.string ⟨l.toArray⟩] w fun e w' => e = .returned (.tuple #[.int .i64 ((decG l).1 : Int), .int .i64 ((decG l).2 : Int), .bool (okB (nats l))]) ∧ Grows w w' := by
  have C := decode_grows ⟨l.toArray⟩ w hT (fun e => hne (List.eq_nil_of_length_eq_zero e))
  rw [decG_eq] at C
  have hle := decG_le l
  obtain ⟨B, hB⟩ : ∃ B, B = okB (nats l) := ⟨_, rfl⟩
  have hB2 := hB.trans (okG l)
  rw [← hB]
  clear hB
  generalize decG l = q at *
  obtain ⟨p, n⟩ := q
  simp only at hle hB2
  obtain ⟨h1, h2⟩ := hle
  have HB := hid hB2
  replace C := hid C
  clear hB2
  have hw : IntKind.i64.wrap (p : Int) = p := IntWalk.i64_in _ (by omega)
  have h1' : (p : Int) ≤ 1114111 := by omega
  have h2' : (n : Int) ≤ 4 := by omega
  go_enter Tryz.func71, Tryz.ntmps71
  go_wp2_with fail
  refine C.out.mono ?_
  rintro e w' ⟨rfl, hb⟩
  have hB3 := HB.out
  by_cases hn1 : 1 < n
  · have hn1' : (1 : Int) < n := by omega
    have : B = true := by rw [hB3]; simp [hn1]
    clear hB3 HB; subst this
    go_wp2
    refine bodyPost_ret (v := .tuple #[.int .i64 (p : Int), .int .i64 (n : Int), .bool true]) (by simp [results, Tryz.results71, go_sem]) rfl ⟨rfl, hb⟩
  · have hn1' : ¬ (1 : Int) < n := by omega
    by_cases hn2 : n = 1
    · subst hn2
      by_cases hp : p < 128
      · have hp' : (p : Int) < 128 := by omega
        have : B = true := by rw [hB3]; simp [hp]
        clear hB3 HB; subst this
        go_wp2
        refine bodyPost_ret (v := .tuple #[.int .i64 (p : Int), .int .i64 1, .bool true]) (by simp [results, Tryz.results71, go_sem]) rfl ⟨rfl, hb⟩
      · have hp' : ¬ (p : Int) < 128 := by omega
        have : B = false := by rw [hB3]; simp [hp]
        clear hB3 HB; subst this
        go_wp2
        refine bodyPost_ret (v := .tuple #[.int .i64 (p : Int), .int .i64 1, .bool false]) (by simp [results, Tryz.results71, go_sem]; omega) rfl ⟨rfl, hb⟩
    · obtain rfl : n = 0 := by omega
      have : B = false := by rw [hB3]; simp
      clear hB3 HB; subst this
      go_wp2
      refine bodyPost_ret (v := .tuple #[.int .i64 (p : Int), .int .i64 0, .bool false]) (by simp [results, Tryz.results71, go_sem]) rfl ⟨rfl, hb⟩

theorem nats_drop (l : List UInt8) (k : Nat) : (nats l).drop k = nats (l.drop k) := by simp [nats]
theorem ok_pos {l : List UInt8} (h : okB (nats l) = true) : 1 ≤ (decG l).2 ∧ (decG l).2 ≤ l.length ∧ decG l = decB (nats l) := by
  obtain ⟨p, r, hp, he, hd⟩ := enc_dec (nats l) h (nats_lt l)
  have hne : l ≠ [] := fun e => by subst e; simp [okB, nats] at h
  have hg : decG l = decB (nats l) := by unfold decG; rw [if_neg hne]
  have h1 := encN_pos p
  have h2 : (nats l).length = (encN p).length + r.length := by rw [he]; simp
  rw [nats_length] at h2
  rw [hg, hd]
  exact ⟨h1.1, by simp only; omega, rfl⟩
theorem extract_drop (l : List UInt8) (k : Nat) : (⟨l.toArray⟩ : ByteArray).extract k l.length = ⟨(l.drop k).toArray⟩ := by
  apply ByteArray.ext
  simp
  exact List.take_of_length_le (by simp)
/-- The rest of a text, by the walk's own spelling. -/
theorem slice_rest (l : List UInt8) (k : Nat) (hk : k ≤ l.length) (W : World) :
    (Instr.slice 9 (.string ⟨l.toArray⟩) (some (.int .i64 (k : Int))) none none).run Tryz.prog W = .ok (.string ⟨(l.drop k).toArray⟩) W := by
  rw [run_slice_string_l (h0 := by omega) (h1 := by have : (⟨l.toArray⟩ : ByteArray).size = l.length := rfl; omega) (ht := Tryz.underlying9)]
  rw [Int.toNat_natCast, show (⟨l.toArray⟩ : ByteArray).size = l.length from rfl, extract_drop l k]

set_option maxRecDepth 100000 in
theorem utf_Valid_g (l : List UInt8) (w : World) (hl : l.length ≤ 9223372036854775807) (hT : Lib.Utf8Tabs 1 2 w) :
    Calls Tryz.prog 43 #[.string ⟨l.toArray⟩] w fun e w' => e = .returned (.int .i64 ((validN (nats l) : Nat) : Int)) ∧ Grows w w' := by
  obtain ⟨V, hV⟩ : ∃ V, V = validN (nats l) := ⟨_, rfl⟩
  rw [← hV]
  replace hV := hid hV
  have hsz : (⟨l.toArray⟩ : ByteArray).size = l.length := rfl
  obtain ⟨s, hs⟩ : ∃ s : ByteArray, s = ⟨l.toArray⟩ := ⟨_, rfl⟩
  rw [← hs] at hsz ⊢
  have hSL : ∀ k : Nat, k ≤ l.length → ∀ W, (Instr.slice 9 (.string s) (some (.int .i64 (k : Int))) none none).run Tryz.prog W = .ok (.string ⟨(l.drop k).toArray⟩) W := fun k hk W => by rw [hs]; exact slice_rest l k hk W
  replace hSL := hid hSL
  clear hs
  have HT := hid hT
  clear hT
  go_enter Tryz.func43, Tryz.ntmps43
  go_wp2
  go_loopw [3] (fun v wr => ∃ n : Nat, n ≤ l.length ∧ V = n + validN (nats (l.drop n)) ∧ v = .int .i64 n ∧ Grows w wr) (fun v _ => l.length - (intOf v).toNat)
  case atStart => exact ⟨0, Nat.zero_le _, by rw [List.drop_zero, hV.out, Nat.zero_add], rfl, Grows.refl _⟩
  case round =>
    obtain ⟨n, hn, hVn, rfl, hb⟩ := hrel
    have HVN := hid hVn
    clear hVn
    by_cases hlt : n < l.length
    · have hlt2 : (n : Int) < s.size := by omega
      have hsl := hSL.out n (by omega)
      have C := utf_Decode (l.drop n) wr (fun e => by have := congrArg List.length e; rw [List.length_drop] at this; simp at this; omega) (Utf8Tabs_below HT.out hb.bel)
      have hDR : nats (l.drop n) ≠ [] := fun e => by
        have := congrArg List.length e
        rw [nats_length, List.length_drop] at this; simp at this; omega
      have hOK := @ok_pos (l.drop n)
      have hST := @validN_step (nats (l.drop n)) (nats_lt _)
      have hSP := @validN_stop (nats (l.drop n))
      rw [List.length_drop] at hOK
      generalize okB (nats (l.drop n)) = B at *
      cases B with
      | true =>
        obtain ⟨o1, o2, o3⟩ := hOK rfl
        have hST' := hST rfl
        rw [nats_drop, List.drop_drop, ← o3] at hST'
        obtain ⟨k, hk⟩ : ∃ k, k = (decG (l.drop n)).2 := ⟨_, rfl⟩
        rw [← hk] at o1 o2 hST' C
        obtain ⟨p, hp⟩ : ∃ p, p = (decG (l.drop n)).1 := ⟨_, rfl⟩
        rw [← hp] at C
        replace C := hid C
        have HSS := hid hST'
        clear hST' hST hSP hOK o3 hk hp hDR
        have hw : IntKind.i64.wrap ((n : Int) + (k : Int)) = ((n + k : Nat) : Int) := by rw [IntWalk.i64_in _ (by omega)]; omega
        go_wp2_with fail
        refine C.out.mono ?_
        rintro e w' ⟨rfl, hb2⟩
        go_wp2
        go_roundw
        case rel => exact ⟨n + k, by omega, by rw [HVN.out, HSS.out]; omega, by first | rfl | (rw [hw]) | go_num, hb.trans hb2⟩
        case measure => simp [intOf]; omega
      | false =>
        have hSP' := hSP (by simp)
        have HSS := hid hSP'
        generalize decG (l.drop n) = q at *
        obtain ⟨p, k⟩ := q
        replace C := hid C
        clear hSP' hST hSP hOK hDR
        go_wp2_with fail
        refine C.out.mono ?_
        rintro e w' ⟨rfl, hb2⟩
        go_wp2
        go_ret
        exact ⟨by rw [HVN.out, HSS.out]; rfl, hb.trans hb2⟩
    · obtain rfl : n = l.length := by omega
      have hlt2 : ¬ ((l.length : Nat) : Int) < s.size := by omega
      have hv0 : V = l.length := by rw [HVN.out, List.drop_of_length_le (Nat.le_refl _)]; rfl
      subst hv0
      go_wp2
      go_ret
      exact ⟨rfl, hb⟩
theorem utf_Valid (l : List UInt8) (w : World) (hl : l.length ≤ 9223372036854775807) (hT : Lib.Utf8Tabs 1 2 w) :
    Calls Tryz.prog 43 #[.string ⟨l.toArray⟩] w fun e w' => e = .returned (.int .i64 ((validN (nats l) : Nat) : Int)) ∧ Below w.heap.size w w' :=
  (utf_Valid_g l w hl hT).mono fun _ _ ⟨h1, h2⟩ => ⟨h1, h2.bel⟩

end Go.Proofs.YtldhebpkplglcaaGreatDoor

namespace Go.Proofs.YtldhebpkplglcaaGreatDoor
open Go.Maps (Keyed)

theorem plainElem_bool_inv {H : Type} {P : Program} {e : TypeId} (he : P.underlying e = some .bool) {v : Value} {z : DataW H × List MemPlace} (h : plainElem P e v = some z) : ∃ a, v = .bool a ∧ z = (.lit (.bool a), []) := by
  unfold plainElem at h
  rw [he] at h
  cases v <;> simp at h
  subst h
  exact ⟨_, rfl, rfl⟩

/-- 'm[k]' at elements that are bools: the walk goes on with some bool in the slot. -/
theorem wpList_lookup_own_bool {H : Type} {P : Program} (w : World) {ops : Array Oper} {rest : List Oper} {o : Oper} {a : Act} {Q : Exit → Act → World → Prop}
    (hg : o.guard = none) (m x : Operand) (t : TypeId) (hop : o.op = Op.lookup t m x false)
    (k e : TypeId) (K : Keyed P k) (ht : P.underlying t = some (.map k e)) (he : P.underlying e = some .bool) (hz : (zeroValue e).run P w = .ok (.bool false) w) (b n : Nat) (D : DataW H)
    (hm : a.eval m = .map (some b)) (hown : w.ownsMap P k (plainElem P e) b n D) (key : Value) (kl : Lit) (hx : a.eval x = key) (hkey : keyOf P k key = some kl)
    (hK : ∀ c : Bool, D.atKey kl (.lit (.bool false)) = .lit (.bool c) → wpList P ops Q rest (a.put o.dst (.bool c)) w) :
    wpList P ops Q (o :: rest) a w := by
  refine wpList_plain hg fun K' hK' => ?_
  obtain ⟨v, ps, hrun, hv⟩ := hown.lookup K ht hz (plainElem_bool he false) hkey
  obtain ⟨c, rfl, hc⟩ := plainElem_bool_inv he hv
  simp only [Prod.mk.injEq] at hc
  unfold Oper.wp
  simp [execOp, hop, hm, hx, hrun, Result.andThen]
  exact hK' _ _ (hK c hc.1)

end Go.Proofs.YtldhebpkplglcaaGreatDoor

namespace Go.Proofs.YtldhebpkplglcaaGreatDoor
open Go.RowKit
open Go.Maps (Keyed)

/-- Block b is a map that has these texts as keys, each of them true. -/
def KeySet (w : World) (b : Nat) (ks : List (List UInt8)) : Prop :=
  ∃ D : DataW Unit, Maps.IsMap D ∧ w.ownsMap Tryz.prog 9 (plainElem Tryz.prog 4) b ks.length D ∧ ∀ s : List UInt8, D.atKey (.string s) (.lit (.bool false)) = .lit (.bool (decide (s ∈ ks)))
theorem keySet_made (w : World) : KeySet (w.alloc (.map #[] 0)) w.heap.size [] :=
  ⟨.map [], Maps.isMap_empty, World.ownsMap_made w _ _ _, fun _ => rfl⟩
theorem KeySet.lt {w : World} {b : Nat} {ks : List (List UInt8)} (h : KeySet w b ks) : b < w.heap.size := by
  obtain ⟨D, _, h, _⟩ := h
  exact h.lt
theorem KeySet.below {w w' : World} {b : Nat} {ks : List (List UInt8)} (h : KeySet w b ks) (hb : Below w.heap.size w w') : KeySet w' b ks := by
  obtain ⟨D, h1, h2, h3⟩ := h
  refine ⟨D, h1, ?_, h3⟩
  obtain ⟨es, clock, e1, e2⟩ := h2
  exact ⟨es, clock, (hb.block b (Array.getElem?_eq_some_iff.1 e1).1).trans e1, e2⟩
theorem key_string (s : List UInt8) (hs : s.length ≤ 9223372036854775807) : keyOf Tryz.prog 9 (.string ⟨s.toArray⟩) = some (.string s) := by
  have : (⟨s.toArray⟩ : ByteArray).size = s.length := rfl
  unfold keyOf
  rw [Tryz.underlying9]
  simp only [mapKey]
  rw [Tryz.underlying9]
  exact if_pos (by rw [this]; exact hs)
theorem keyed_string : Keyed Tryz.prog 9 := Keyed.of_law (WideMaps.string_law Tryz.underlying9)
/-- What is looked up. -/
theorem KeySet.look {w : World} {b : Nat} {ks : List (List UInt8)} (h : KeySet w b ks) (s : List UInt8) (hs : s.length ≤ 9223372036854775807) :
    (Instr.lookup 98 (.map (some b)) (.string ⟨s.toArray⟩) false).run Tryz.prog w = .ok (.bool (decide (s ∈ ks))) w := by
  obtain ⟨D, h1, h2, h3⟩ := h
  obtain ⟨v, ps, hrun, hv⟩ := h2.lookup keyed_string Tryz.underlying98 (z := .bool false) (by kernel_rfl) (plainElem_bool Tryz.underlying4 false) (key_string s hs)
  rw [h3 s] at hv
  obtain ⟨c, rfl, hc⟩ := plainElem_bool_inv Tryz.underlying4 hv
  simp only [Prod.mk.injEq, DataW.lit.injEq, Lit.bool.injEq] at hc
  rw [hc.1]
  exact hrun
/-- What is stored. -/
theorem KeySet.store {w : World} {b : Nat} {ks : List (List UInt8)} (h : KeySet w b ks) (hn : ks.length < 9223372036854775807) (s : List UInt8) (hs : s.length ≤ 9223372036854775807) :
    ∃ w', (Instr.mapUpdate 98 (.map (some b)) (.string ⟨s.toArray⟩) (.bool true)).run Tryz.prog w = .ok () w' ∧ KeySet w' b (ks ++ [s]) ∧ w.grownBy w' (some b) := by
  obtain ⟨D, h1, h2, h3⟩ := h
  obtain ⟨w', r1, r2, r3⟩ := h2.update keyed_string Tryz.underlying98 (by simp [maxLen]; omega) (key_string s hs) (plainElem_bool Tryz.underlying4 true)
  refine ⟨w', r1, ⟨D.put (.string s) (.lit (.bool true)), h1.put _ _, by simpa using r2, fun x => ?_⟩, r3⟩
  by_cases e : x = s
  · subst e
    rw [Maps.atKey_put_same h1 (show WideAt.IsKeyLit (.string x) from trivial)]
    simp
  · rw [Maps.atKey_put_other (by simp [e]), h3 x]
    simp [e]

end Go.Proofs.YtldhebpkplglcaaGreatDoor

namespace Go.Proofs.YtldhebpkplglcaaGreatDoor
open Go.RowKit

theorem bytesLess_key : ∀ (a b : List UInt8), Op.bytesLess a b = decide (keyC a b = -1)
  | [], [] => rfl
  | [], y :: b => rfl
  | x :: a, [] => rfl
  | x :: a, y :: b => by
    have ih := bytesLess_key a b
    unfold keyC at ih ⊢
    simp only [Op.bytesLess, nats, List.map_cons, cmpL, ih]
    by_cases h1 : x < y
    · have : x.toNat < y.toNat := UInt8.lt_iff_toNat_lt.1 h1
      simp [h1, this]
    · have h1' : ¬ x.toNat < y.toNat := fun h => h1 (UInt8.lt_iff_toNat_lt.2 h)
      by_cases h2 : y.toNat < x.toNat
      · have h3 : x ≠ y := fun h => by rw [h] at h2; omega
        rw [if_neg h1', if_pos h2]
        simp [h1, h3]
      · have h3 : x = y := UInt8.toNat_inj.1 (by omega)
        rw [if_neg h1', if_neg h2, h3]
        simp
        exact decide_eq_decide.2 Iff.rfl
theorem beq_key (a b : List UInt8) : (a == b) = decide (keyC a b = 0) := by
  by_cases h : a = b
  · subst h; simp [keyC, cmpL_refl]
  · have : keyC a b ≠ 0 := fun e => h (nats_inj (cmpL_eq _ _ e))
    simp [h, this]
theorem less_s (a b : List UInt8) : Op.bytesLess (⟨a.toArray⟩ : ByteArray).toList (⟨b.toArray⟩ : ByteArray).toList = decide (keyC a b = -1) := by
  rw [ByteArray.toList_eq, ByteArray.toList_eq]; exact bytesLess_key a b
theorem beq_s (a b : List UInt8) : ((⟨a.toArray⟩ : ByteArray).toList == (⟨b.toArray⟩ : ByteArray).toList) = decide (keyC a b = 0) := by
  rw [ByteArray.toList_eq, ByteArray.toList_eq]; exact beq_key a b
theorem keyC_vals0 (a b : List UInt8) : keyC a b = -1 ∨ keyC a b = 0 ∨ keyC a b = 1 := cmpL_vals _ _

theorem nan_string (s : ByteArray) (w : World) : Calls Tryz.prog 193 #[.string s] w fun e w' => e = .returned (.bool false) ∧ w' = w := by
  have h : (s.toList == s.toList) = true := by simp
  go_enter Tryz.func193, Tryz.ntmps193
  go_wp2
  go_ret
  exact ⟨by simp, rfl⟩

theorem cmp_Compare_string (a b : List UInt8) (w : World) :
    Calls Tryz.prog 151 #[.string ⟨a.toArray⟩, .string ⟨b.toArray⟩] w fun e w' => e = .returned (.int .i64 (keyC a b)) ∧ w' = w := by
  have hl := less_s a b
  have he := beq_s a b
  have hv := keyC_vals0 a b
  generalize keyC a b = k at *
  generalize (⟨a.toArray⟩ : ByteArray) = x at *
  generalize (⟨b.toArray⟩ : ByteArray) = y at *
  rcases hv with rfl | rfl | rfl
  all_goals simp only [decide_true, show ¬ ((0:Int) = -1) by decide, show ¬ ((1:Int) = -1) by decide, show ¬ ((1:Int) = 0) by decide, show ¬ ((-1:Int) = 0) by decide, decide_false] at hl he
  all_goals
    go_enter Tryz.func151, Tryz.ntmps151
    go_wp2_with first | (refine (nan_string _ _).mono ?_; rintro e w' ⟨rfl, rfl⟩) | fail
    go_ret
    exact ⟨rfl, rfl⟩

set_option maxRecDepth 100000 in
theorem utf_Cmp_g (a b : List UInt8) (w : World) (ha : a.length ≤ 9223372036854775807) (hb : b.length ≤ 9223372036854775807) (sa : soundB a = true) (sb : soundB b = true)
    (hT : Lib.Utf8Tabs 1 2 w) :
    Calls Tryz.prog 99 #[.string ⟨a.toArray⟩, .string ⟨b.toArray⟩] w fun e w' => e = .returned (.int .i64 (keyC a b)) ∧ Grows w w' := by
  have C1 := hid fun w1 h => utf_Valid_g a w1 ha h
  have C2 := hid fun w1 h => utf_Valid_g b w1 hb h
  have C3 := hid (cmp_Compare_string a b)
  simp only [soundB, decide_eq_true_eq] at sa sb
  rw [sa] at C1
  rw [sb] at C2
  have ea : (⟨a.toArray⟩ : ByteArray).size = a.length := rfl
  have eb : (⟨b.toArray⟩ : ByteArray).size = b.length := rfl
  generalize keyC a b = k at *
  generalize (⟨a.toArray⟩ : ByteArray) = x at *
  generalize (⟨b.toArray⟩ : ByteArray) = y at *
  have HT := hid hT
  clear hT sa sb
  have e1 : ((a.length : Int) == (x.size : Int)) = true := by rw [ea]; simp
  have e2 : ((b.length : Int) == (y.size : Int)) = true := by rw [eb]; simp
  clear ea eb
  go_enter Tryz.func99, Tryz.ntmps99
  go_wp2_with fail
  refine (C1.out _ HT.out).mono ?_
  rintro e w1 ⟨rfl, h1⟩
  go_wp2_with fail
  refine (C2.out _ (Utf8Tabs_below HT.out h1.bel)).mono ?_
  rintro e w2 ⟨rfl, h2⟩
  go_wp2_with fail
  refine (C3.out _).mono ?_
  rintro e w3 ⟨rfl, rfl⟩
  go_wp2
  go_ret
  exact ⟨rfl, h1.trans h2⟩
theorem utf_Cmp (a b : List UInt8) (w : World) (ha : a.length ≤ 9223372036854775807) (hb : b.length ≤ 9223372036854775807) (sa : soundB a = true) (sb : soundB b = true)
    (hT : Lib.Utf8Tabs 1 2 w) :
    Calls Tryz.prog 99 #[.string ⟨a.toArray⟩, .string ⟨b.toArray⟩] w fun e w' => e = .returned (.int .i64 (keyC a b)) ∧ Below w.heap.size w w' :=
  (utf_Cmp_g a b w ha hb sa sb hT).mono fun _ _ ⟨h1, h2⟩ => ⟨h1, h2.bel⟩

end Go.Proofs.YtldhebpkplglcaaGreatDoor

namespace Go.Proofs.YtldhebpkplglcaaGreatDoor
open Go.RowKit

end Go.Proofs.YtldhebpkplglcaaGreatDoor
