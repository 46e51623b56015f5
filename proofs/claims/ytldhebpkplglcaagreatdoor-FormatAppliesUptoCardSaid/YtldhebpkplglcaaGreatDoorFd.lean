/- The code points of any text, sound or not (what is no code point's bytes: 65533, a byte each), and the text made sound: plain laws. utf.Explode and lorgnetteref04.Explode on any text: its code points. -/
import Derived.Test.YtldhebpkplglcaaGreatDoorMk
import Derived.Test.YtldhebpkplglcaaGreatDoorMs
import Derived.Test.YtldhebpkplglcaaGreatDoorMj
import Derived.Lib.OthersKept
namespace Go.Proofs.YtldhebpkplglcaaGreatDoor
open Go.RowKit

theorem decB_ge (l : List Nat) : 1 ≤ (decB l).2 := by
  unfold decB Lib.decodeN
  repeat (first | split | (dsimp only; omega))
theorem decB_len (l : List Nat) (h : l ≠ []) : (decB l).2 ≤ l.length := by
  have h1 : 1 ≤ l.length := List.length_pos_iff.2 h
  unfold decB Lib.decodeN
  repeat (first | split | (dsimp only; omega))
theorem decB_pt (l : List Nat) : isPt (decB l).1 := by
  unfold decB
  generalize l.getD 0 0 = b0
  generalize l.getD 1 0 = b1
  generalize l.getD 2 0 = b2
  generalize l.getD 3 0 = b3
  unfold Lib.decodeN isPt
  repeat (first | split | (dsimp only; omega))
theorem decG_ge {l : List UInt8} (h : l ≠ []) : 1 ≤ (decG l).2 := by
  unfold decG; rw [if_neg h]; exact decB_ge _
theorem decG_len {l : List UInt8} (h : l ≠ []) : (decG l).2 ≤ l.length := by
  unfold decG; rw [if_neg h, ← nats_length l]; exact decB_len _ (fun e => h (by simpa [nats] using e))
theorem decG_pt (l : List UInt8) : isPt (decG l).1 := by
  unfold decG
  split
  · unfold isPt; omega
  · exact decB_pt _
def ptsF : Nat → List UInt8 → List Nat
  | 0, _ => []
  | f + 1, l => if l = [] then [] else (decG l).1 :: ptsF f (l.drop (decG l).2)
/-- The code points of a text. -/
def pts (l : List UInt8) : List Nat := ptsF l.length l
theorem ptsF_fuel : ∀ (f g : Nat) (l : List UInt8), l.length ≤ f → l.length ≤ g → ptsF f l = ptsF g l
  | 0, 0, _, _, _ => rfl
  | 0, g + 1, l, h, _ => by
    obtain rfl := List.length_eq_zero_iff.1 (Nat.le_zero.1 h)
    simp [ptsF]
  | f + 1, 0, l, _, h => by
    obtain rfl := List.length_eq_zero_iff.1 (Nat.le_zero.1 h)
    simp [ptsF]
  | f + 1, g + 1, l, hf, hg => by
    simp only [ptsF]
    by_cases h : l = []
    · rw [if_pos h, if_pos h]
    · rw [if_neg h, if_neg h]
      have := decG_ge h
      congr 1
      exact ptsF_fuel f g _ (by rw [List.length_drop]; omega) (by rw [List.length_drop]; omega)
@[simp] theorem pts_nil : pts [] = [] := rfl
theorem pts_step {l : List UInt8} (h : l ≠ []) : pts l = (decG l).1 :: pts (l.drop (decG l).2) := by
  have h1 := decG_ge h
  have h2 : 0 < l.length := List.length_pos_iff.2 h
  unfold pts
  obtain ⟨n, hn⟩ : ∃ n, l.length = n + 1 := ⟨l.length - 1, by omega⟩
  rw [hn]
  simp only [ptsF]
  rw [if_neg h]
  congr 1
  exact ptsF_fuel _ _ _ (by rw [List.length_drop]; omega) (Nat.le_refl _)
theorem pts_pt : ∀ (n : Nat) (l : List UInt8), l.length ≤ n → ∀ p ∈ pts l, isPt p
  | 0, l, h => by
    obtain rfl := List.length_eq_zero_iff.1 (Nat.le_zero.1 h)
    intro p hp; cases hp
  | n + 1, l, h => by
    by_cases hl : l = []
    · subst hl; intro p hp; cases hp
    · rw [pts_step hl]
      intro p hp
      rcases List.mem_cons.1 hp with rfl | hp
      · exact decG_pt l
      · have := decG_ge hl
        exact pts_pt n _ (by rw [List.length_drop]; omega) p hp
theorem pts_len : ∀ (n : Nat) (l : List UInt8), l.length ≤ n → (pts l).length ≤ l.length
  | 0, l, h => by
    obtain rfl := List.length_eq_zero_iff.1 (Nat.le_zero.1 h)
    simp
  | n + 1, l, h => by
    by_cases hl : l = []
    · subst hl; simp
    · rw [pts_step hl]
      have h1 := decG_ge hl
      have h2 := decG_len hl
      have := pts_len n (l.drop (decG l).2) (by rw [List.length_drop]; omega)
      rw [List.length_drop] at this
      rw [List.length_cons]
      omega
/-- Of a sound text they are what it is the bytes of. -/
theorem pts_encs : ∀ (ps : List Nat) (l : List UInt8), (∀ p ∈ ps, isPt p) → nats l = encs ps → pts l = ps
  | [], l, _, h => by
    have : l = [] := by simpa [encs, nats] using h
    rw [this]; rfl
  | p :: ps, l, hp, h => by
    rw [encs_cons] at h
    have hne : l ≠ [] := by
      rintro rfl
      have h1 := encN_pos p
      have := congrArg List.length h
      simp [nats] at this
      omega
    have hd := decG_enc (hp p (by simp)) h
    rw [pts_step hne, hd]
    congr 1
    refine pts_encs ps _ (fun q hq => hp q (by simp [hq])) ?_
    rw [← nats_drop, h, drop_enc]
/-- Bytes of numbers. -/
def u8L (l : List Nat) : List UInt8 := l.map UInt8.ofNat
theorem nats_u8L (l : List Nat) (h : ∀ x ∈ l, x < 256) : nats (u8L l) = l := by
  unfold nats u8L
  rw [List.map_map]
  conv => rhs; rw [← List.map_id l]
  refine List.map_congr_left fun x hx => ?_
  simp only [Function.comp, id]
  rw [UInt8.toNat_ofNat']
  exact Nat.mod_eq_of_lt (h x hx)
theorem u8L_nats (l : List UInt8) : u8L (nats l) = l := by
  unfold nats u8L
  rw [List.map_map]
  conv => rhs; rw [← List.map_id l]
  refine List.map_congr_left fun x hx => ?_
  simp
/-- A text made sound. -/
def cleanL (l : List UInt8) : List UInt8 := u8L (encs (pts l))
theorem nats_clean (l : List UInt8) : nats (cleanL l) = encs (pts l) := nats_u8L _ (encs_lt _ (pts_pt _ l (Nat.le_refl _)))
theorem pts_clean (l : List UInt8) : pts (cleanL l) = pts l := pts_encs _ _ (pts_pt _ l (Nat.le_refl _)) (nats_clean l)
theorem clean_sound (l : List UInt8) : soundB (cleanL l) = true := by
  unfold soundB
  rw [decide_eq_true_eq, nats_clean, valid_encs _ (pts_pt _ l (Nat.le_refl _)), ← nats_length (cleanL l), nats_clean]
theorem sound_encs {l : List UInt8} (h : soundB l = true) : ∃ ps, (∀ p ∈ ps, isPt p) ∧ nats l = encs ps := by
  unfold soundB at h
  rw [decide_eq_true_eq] at h
  exact encs_of_valid _ (nats l) (Nat.le_refl _) (nats_lt l) (by rw [h, nats_length])
theorem clean_of_sound {l : List UInt8} (h : soundB l = true) : cleanL l = l := by
  obtain ⟨ps, hp, he⟩ := sound_encs h
  unfold cleanL
  rw [pts_encs ps l hp he, ← he, u8L_nats]
theorem encs_le : ∀ (ps : List Nat), (encs ps).length ≤ 4 * ps.length
  | [] => Nat.zero_le _
  | p :: ps => by
    have := encs_le ps
    have := encN_pos p
    rw [encs_cons, List.length_append, List.length_cons]; omega
theorem clean_len (l : List UInt8) : (cleanL l).length ≤ 4 * l.length := by
  rw [← nats_length (cleanL l), nats_clean]
  have := encs_le (pts l)
  have := pts_len _ l (Nat.le_refl _)
  omega

end Go.Proofs.YtldhebpkplglcaaGreatDoor

namespace Go.Proofs.YtldhebpkplglcaaGreatDoor
open Go.RowKit

theorem decode_drop (l : List UInt8) (pos : Nat) (h : pos < l.length) : Utf8.decode ⟨l.toArray⟩ pos = decG (l.drop pos) := by
  have hne : l.drop pos ≠ [] := by
    intro e
    have := congrArg List.length e
    simp at this
    omega
  unfold decG
  rw [if_neg hne, Lib.decode_at]
  unfold decB
  rw [get_list, get_list, get_list, get_list]
  unfold nats
  rw [nat_getD, nat_getD, nat_getD, nat_getD]
  simp only [List.getD_eq_getElem?_getD, List.getElem?_drop, List.length_map, List.length_drop, Nat.add_zero]
  rfl
theorem owns_keep {w w' : World} {B : Nat} {e : TypeId} {sz : Nat} {v : Value} {n : Nat} {xs : List Value} (h : w.ownsRow B e sz v n xs) (hk : ∀ k, B ≤ k → w'.heap[k]? = w.heap[k]?) : w'.ownsRow B e sz v n xs := by
  refine ⟨h.1, ?_⟩
  rcases h.2 with h1 | ⟨g, cap, cur, hv, hg, hgg, h1⟩
  · exact Or.inl h1
  · exact Or.inr ⟨g, cap, cur, hv, hg, (hk g hg).trans hgg, h1⟩
theorem owns_from {w : World} {B B' : Nat} {e : TypeId} {sz : Nat} {v : Value} {n : Nat} {xs : List Value} (h : w.ownsRow B e sz v n xs) (hB : B' ≤ B) : w.ownsRow B' e sz v n xs := by
  refine ⟨h.1, ?_⟩
  rcases h.2 with h1 | ⟨g, cap, cur, hv, hg, hgg, h1⟩
  · exact Or.inl h1
  · exact Or.inr ⟨g, cap, cur, hv, by omega, hgg, h1⟩
theorem i64s_app (a : List Nat) (p : Nat) : i64s (a ++ [p]) = i64s a ++ [.int .i64 (p : Int)] := by simp [i64s]

set_option maxRecDepth 100000 in
theorem ref4_ExplodeAny (l : List UInt8) (w : World) (hl : l.length ≤ 17592186044415) :
    Calls Tryz.prog 56 #[.string ⟨l.toArray⟩] w fun e w' => ∃ a cap, e = .returned (.slice a (pts l).length cap) ∧ Below w.heap.size w w' ∧ w'.ownsRow w.heap.size 3 1 (.slice a (pts l).length cap) (pts l).length (i64s (pts l)) := by
  have hsz : (⟨l.toArray⟩ : ByteArray).size = l.length := rfl
  obtain ⟨s, hse⟩ : ∃ s : ByteArray, s = ⟨l.toArray⟩ := ⟨_, rfl⟩
  rw [← hse] at hsz ⊢
  have hSL : ∀ k : Nat, k ≤ l.length → ∀ W, (Instr.slice 9 (.string s) (some (.int .i64 (k : Int))) none none).run Tryz.prog W = .ok (.string ⟨(l.drop k).toArray⟩) W := fun k hk W => by rw [hse]; exact slice_rest l k hk W
  replace hSL := hid hSL
  clear hse
  go_enter Tryz.func56, Tryz.ntmps56
  go_wp2
  go_loopw [3, 4] (fun v i wr => ∃ (k : Nat) (done : List Nat), i = .int .i64 (k : Nat) ∧ k ≤ l.length ∧ done.length ≤ k ∧ pts l = done ++ pts (l.drop k) ∧ wr.ownsRow w.heap.size 3 1 v done.length (i64s done) ∧ Below w.heap.size w wr) (fun _ i _ => l.length - (intOf i).toNat)
  case atStart => exact ⟨0, [], rfl, Nat.zero_le _, Nat.zero_le _, rfl, World.ownsRow_nil _ _ _ _, Below.refl _ _⟩
  case round =>
    obtain ⟨k, done, rfl, hk, hdk, he, hown, hb⟩ := hrel
    have HE := hid he
    have HB := hid hb
    clear he
    by_cases hkl : k = l.length
    · have HD := hid (show pts l = done by rw [HE.out, hkl, List.drop_length]; simp)
      have HO := hid hown
      clear hown hb
      have hlt2 : ¬ ((k : Nat) : Int) < s.size := by omega
      go_wp2
      go_ret
      obtain ⟨a, cap, rfl, _, _⟩ := owns_row HO.out
      refine ⟨a, cap, by rw [HD.out]; rfl, HB.out, ?_⟩
      rw [HD.out]; exact HO.out
    · have hne : l.drop k ≠ [] := by
        intro e
        have := congrArg List.length e
        simp at this
        omega
      have C := fun w1 => ref4_Decode (l.drop k) w1 (by rw [List.length_drop]; omega)
      have h1 := decG_ge hne
      have h2 := decG_len hne
      rw [List.length_drop] at h2
      have hs := pts_step hne
      rw [List.drop_drop] at hs
      have h3 := decG_le (l.drop k)
      generalize decG (l.drop k) = q at C h1 h2 hs h3
      obtain ⟨p, n⟩ := q
      simp only at C h1 h2 hs h3
      obtain ⟨h3, h4⟩ := h3
      generalize okB (nats (l.drop k)) = bb at C
      have hsl := hSL.out k hk
      have HE2 := hid (show pts l = (done ++ [p]) ++ pts (l.drop (k + n)) by rw [HE.out, hs]; simp)
      replace C := hid C
      clear hs hne
      have hlt2 : (k : Int) < s.size := by omega
      have hw : IntKind.i64.wrap ((k : Int) + (n : Int)) = ((k + n : Nat) : Int) := by rw [IntWalk.i64_in _ (by omega)]; omega
      go_wp2_with fail
      refine (C.out _).mono ?_
      rintro e w2 ⟨rfl, hb2⟩
      have hown2 := owns_below hown hb2
      have hbw := below_trans hb hb2
      have hsz2 := hbw.size
      have HBW := hid hbw
      clear hb hbw hown
      go_wp2_with (at_builtin; refine wpList_push intSlice rfl _ _ rfl w.heap.size (w0 := w2) hown2 rfl rfl rfl (by unfold maxLen; omega) (by omega) hsz2 ?_; intro v' w3 hown' hb')
      have HOW := hid (show w3.ownsRow w.heap.size 3 1 v' (done ++ [p]).length (i64s (done ++ [p])) by rw [i64s_app]; simpa using hown')
      have HB3 := hid (HBW.out.trans hb')
      clear hown' hb' hown2 HBW
      go_wp2
      go_roundw
      case rel => exact ⟨k + n, done ++ [p], by go_num, by omega, by simp; omega, HE2.out, HOW.out, HB3.out⟩
      case measure => simp [intOf]; omega

set_option maxRecDepth 100000 in
theorem utf_Explode (l : List UInt8) (w : World) (hl : l.length ≤ 17592186044415) :
    Calls Tryz.prog 34 #[.string ⟨l.toArray⟩] w fun e w' => ∃ a cap, e = .returned (.slice a (pts l).length cap) ∧ Below w.heap.size w w' ∧ w'.ownsRow w.heap.size 3 1 (.slice a (pts l).length cap) (pts l).length (i64s (pts l)) := by
  have hsz : (⟨l.toArray⟩ : ByteArray).size = l.length := rfl
  obtain ⟨s, hse⟩ : ∃ s : ByteArray, s = ⟨l.toArray⟩ := ⟨_, rfl⟩
  rw [← hse] at hsz ⊢
  replace hse := hid hse
  go_enter Tryz.func34, Tryz.ntmps34
  go_wp2
  go_loopw [3] (fun v wr => ∃ (k : Nat) (done : List Nat), k ≤ l.length ∧ done.length ≤ k ∧ pts l = done ++ pts (l.drop k) ∧ wr.heap[w.heap.size]? = some (.stringIter s k) ∧ wr.ownsRow (w.heap.size + 1) 3 1 v done.length (i64s done) ∧ Below w.heap.size w wr ∧ w.heap.size + 1 ≤ wr.heap.size) (fun _ wr => l.length - wr.iterPos w.heap.size)
  case atStart => exact ⟨0, [], Nat.zero_le _, Nat.zero_le _, rfl, by simp [World.iter_heap], World.ownsRow_nil _ _ _ _, (Below.refl _ w).alloc (Nat.le_refl _) _, by show _ ≤ (w.heap.push _).size; simp⟩
  case round =>
    obtain ⟨k, done, hk, hdk, he, hit, hown, hb, hszw⟩ := hrel
    have HE := hid he
    have HB := hid hb
    have HIT := hid hit
    have hpos : wr.iterPos w.heap.size = k := by unfold World.iterPos; rw [hit]
    have HPOS := hid hpos
    clear he hpos
    by_cases hkl : k = l.length
    · have hnx : ∀ ty, (Instr.next (.pointer (some ⟨w.heap.size, 0, none⟩)) true ty).run Tryz.prog wr = .ok (.tuple #[.bool false]) wr := fun ty => Lib.run_next_end_at wr _ s k ty hit (by omega)
      have HD := hid (show pts l = done by rw [HE.out, hkl, List.drop_length]; simp)
      have HO := hid hown
      clear hown hb hit
      go_wp2
      go_ret
      obtain ⟨a, cap, rfl, _, _⟩ := owns_row HO.out
      refine ⟨a, cap, by rw [HD.out]; rfl, HB.out, ?_⟩
      rw [HD.out]; exact owns_from HO.out (by omega)
    · have hkl2 : k < l.length := by omega
      have hne : l.drop k ≠ [] := by
        intro e
        have := congrArg List.length e
        simp at this
        omega
      have h1 := decG_ge hne
      have h2 := decG_len hne
      rw [List.length_drop] at h2
      have hs := pts_step hne
      rw [List.drop_drop] at hs
      have h3 := decG_le (l.drop k)
      have hdec := decode_drop l k hkl2
      rw [← hse.out] at hdec
      have hnx : ∀ ty, (Instr.next (.pointer (some ⟨w.heap.size, 0, none⟩)) true ty).run Tryz.prog wr = .ok (.tuple #[.bool true, .int .i64 (k : Nat), .int .i32 ((decG (l.drop k)).1 : Nat)]) (wr.iterAt w.heap.size s (k + (decG (l.drop k)).2)) := fun ty => by
        rw [Lib.run_next_any_at wr _ s k ty hit (by omega), hdec]
      clear hdec
      generalize decG (l.drop k) = q at h1 h2 hs h3 hnx
      obtain ⟨p, n⟩ := q
      simp only at h1 h2 hs h3 hnx
      obtain ⟨h3, h4⟩ := h3
      have HE2 := hid (show pts l = (done ++ [p]) ++ pts (l.drop (k + n)) by rw [HE.out, hs]; simp)
      clear hs hne
      have hown2 : (wr.iterAt w.heap.size s (k + n)).ownsRow (w.heap.size + 1) 3 1 _ done.length (i64s done) := owns_keep hown fun j hj => Lib.iterAt_other _ _ _ _ _ (by omega)
      have HBW := hid (Lib.below_iterAt hb (Nat.le_refl _) s (k + n))
      have HIT2 := hid (Lib.iterAt_heap wr _ s k (k + n) hit)
      have hsz2 : w.heap.size + 1 ≤ (wr.iterAt w.heap.size s (k + n)).heap.size := by rw [Lib.iterAt_size]; exact hszw
      clear hb hown hit
      generalize wr.iterAt w.heap.size s (k + n) = w2 at *
      have hw : IntKind.i64.wrap (p : Int) = (p : Nat) := by rw [IntWalk.i64_in _ (by omega)]
      go_wp2_with (at_builtin; refine wpList_push intSlice rfl _ _ rfl (w.heap.size + 1) (w0 := w2) hown2 rfl rfl rfl (by unfold maxLen; omega) (by omega) hsz2 ?_; intro v' w3 hown' hb')
      have HOW := hid (show w3.ownsRow (w.heap.size + 1) 3 1 v' (done ++ [p]).length (i64s (done ++ [p])) by rw [i64s_app]; simpa using hown')
      have HIT3 : Hid (w3.heap[w.heap.size]? = some (.stringIter s (k + n))) := (hb'.block _ (by omega)).trans HIT2.out
      have HB3 := hid (HBW.out.trans (hb'.mono (Nat.le_succ _)))
      have hsz3 := Nat.le_trans hsz2 hb'.size
      clear hown' hb' hown2 HBW
      go_wp2
      go_roundw
      case rel => exact ⟨k + n, done ++ [p], by omega, by simp; omega, HE2.out, HIT3.out, HOW.out, HB3.out, hsz3⟩
      case measure =>
        rw [HPOS.out, show w3.iterPos w.heap.size = k + n by unfold World.iterPos; rw [HIT3.out]]
        omega

end Go.Proofs.YtldhebpkplglcaaGreatDoor
