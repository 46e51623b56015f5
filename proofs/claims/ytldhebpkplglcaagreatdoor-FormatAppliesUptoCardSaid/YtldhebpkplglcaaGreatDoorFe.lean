/- format.Split. format.Indices. The document's examples at the head of chapter 20's laws. -/
import Derived.Test.YtldhebpkplglcaaGreatDoorFc
import Derived.Test.YtldhebpkplglcaaGreatDoorFa
namespace Go.Proofs.YtldhebpkplglcaaGreatDoor
open Go.RowKit

/-- A code point's bytes. -/
def encU (p : Nat) : List UInt8 := u8L (encN p)
/-- What a text is cut into. -/
def splitP (s y : List UInt8) : List (List UInt8) := if s = [] then [] else if y = [] then (pts s).map encU else splitL y s
theorem cut_hit {s y : List UInt8} {i : Nat} (h : Lib.index s y = i) : Lib.cut s y = (s.take i, s.drop (i + y.length), true) := by
  unfold Lib.cut
  rw [if_pos (by omega), h]
  rfl
theorem cut_miss {s y : List UInt8} (h : Lib.index s y = -1) : Lib.cut s y = (s, [], false) := by
  unfold Lib.cut
  rw [if_neg (by omega)]
theorem index_cases (s y : List UInt8) : Lib.index s y = -1 ∨ ∃ i : Nat, Lib.index s y = i := by
  have := Lib.index_ge s y
  by_cases h : Lib.index s y = -1
  · exact Or.inl h
  · exact Or.inr ⟨(Lib.index s y).toNat, by omega⟩

theorem encode_enc (p : Nat) (h : isPt p) : Utf8.encode (p : Int) = ⟨(encU p).toArray⟩ := by
  have hv : Utf8.valid (p : Int) = true := by
    unfold isPt at h
    unfold Utf8.valid
    simp
    omega
  unfold Utf8.encode
  simp only [hv, if_true, Int.toNat_natCast]
  unfold encU encN u8L
  by_cases h1 : p < 128
  · rw [if_pos h1, if_pos h1]; rfl
  · rw [if_neg h1, if_neg h1]
    by_cases h2 : p < 2048
    · rw [if_pos h2, if_pos h2]; rfl
    · rw [if_neg h2, if_neg h2]
      by_cases h3 : p < 65536
      · rw [if_pos h3, if_pos h3]; rfl
      · rw [if_neg h3, if_neg h3]; rfl
theorem not_empty {l : List UInt8} (h : l ≠ []) : (⟨l.toArray⟩ : ByteArray).toList.isEmpty = false := by rw [ByteArray.toList_eq]; simpa using h

set_option maxRecDepth 100000 in
set_option maxHeartbeats 3200000 in
theorem split_at (s y : List UInt8) (hs0 : s ≠ []) (hy : y ≠ []) (w : World) (hs : s.length ≤ 1048576) (hM : Mx w) :
    Calls Tryz.prog 11 #[.string ⟨s.toArray⟩, .string ⟨y.toArray⟩] w fun e w' => ∃ a cap, e = .returned (.slice a (splitL y s).length cap) ∧ Below w.heap.size w w' ∧ w'.ownsRow w.heap.size 9 1 (.slice a (splitL y s).length cap) (splitL y s).length (strsF (splitL y s)) := by
  have hyl : 0 < y.length := List.length_pos_iff.2 hy
  have hsl : 0 < s.length := List.length_pos_iff.2 hs0
  have hMM := hid hM
  have hY := hid hy
  clear hM hy
  obtain ⟨sb, hsb⟩ : ∃ sb : ByteArray, sb = ⟨s.toArray⟩ := ⟨_, rfl⟩
  obtain ⟨yb, hyb⟩ : ∃ yb : ByteArray, yb = ⟨y.toArray⟩ := ⟨_, rfl⟩
  rw [← hsb, ← hyb]
  have hne1 : sb.toList.isEmpty = false := by rw [hsb]; exact not_empty hs0
  have hne2 : yb.toList.isEmpty = false := by rw [hyb]; exact not_empty hY.out
  replace hsb := hid hsb
  replace hyb := hid hyb
  go_enter Tryz.func11, Tryz.ntmps11
  go_wp2_with fail
  go_loopw [0, 5] (fun v0 v5 wr => ∃ done : List (List UInt8), ∃ r : List UInt8, v0 = .string ⟨r.toArray⟩ ∧ splitL y s = done ++ splitL y r ∧ done.length + r.length ≤ s.length ∧ wr.ownsRow w.heap.size 9 1 v5 done.length (strsF done) ∧ Below w.heap.size w wr) (fun v0 _ _ => match v0 with | .string x => x.size | _ => 0)
  case atStart => exact ⟨[], s, by rw [hsb.out], rfl, by simp, World.ownsRow_nil _ _ _ _, Below.refl _ _⟩
  case round =>
    obtain ⟨done, r, rfl, he, hdl, hown, hb⟩ := hrel
    have HE := hid he
    have HB := hid hb
    have HO := hid hown
    clear he hown hb
    obtain ⟨m, hm⟩ := hMM.out.below HB.out
    have C0 := Tryz.strings_Cut ⟨r.toArray⟩ yb m wr (by show r.length < _; omega) hm
    have C : Calls Tryz.prog 35 #[.string ⟨r.toArray⟩, .string yb] wr fun e w' => e = .returned (.tuple #[.string ⟨(Lib.cut r y).1.toArray⟩, .string ⟨(Lib.cut r y).2.1.toArray⟩, .bool (Lib.cut r y).2.2]) ∧ Below wr.heap.size wr w' := by
      refine C0.mono ?_
      rintro e w' ⟨h1, n, rfl⟩
      refine ⟨?_, ⟨rfl, rfl, rfl, Nat.le_refl _, fun _ _ => rfl⟩⟩
      rw [h1, hyb.out]
    clear C0 hm
    obtain ⟨rb, hrb⟩ : ∃ rb : ByteArray, rb = ⟨r.toArray⟩ := ⟨_, rfl⟩
    rw [← hrb] at C ⊢
    replace hrb := hid hrb
    rcases index_cases r y with hi | ⟨i, hi⟩
    · rw [cut_miss hi] at C
      dsimp only at C
      rw [← hrb.out] at C
      have HE2 := hid (show splitL y s = done ++ [r] by rw [HE.out, split_miss hi])
      replace C := hid C
      clear hi
      go_wp2_with fail
      refine (C.out).mono ?_
      rintro e w2 ⟨rfl, hb2⟩
      have hown2 := owns_below HO.out hb2
      have HB2 := hid (below_trans HB.out hb2)
      have hsz2 := HB2.out.size
      clear hb2 C
      go_wp2_with (at_builtin; refine wpList_push strSlice rfl _ _ rfl w.heap.size (w0 := w2) hown2 rfl rfl rfl (by unfold maxLen; omega) (by omega) hsz2 ?_; intro v' w3 hown' hb')
      have hlen : (splitL y s).length = done.length + 1 := by rw [HE2.out]; simp
      have HOW := hid (show w3.ownsRow w.heap.size 9 1 v' (splitL y s).length (strsF (splitL y s)) by
        rw [hlen, HE2.out, strsF_app]
        unfold strV
        rw [← hrb.out]
        exact hown')
      have HB3 := hid (HB2.out.trans hb')
      clear hown' hb' hown2
      go_wp2_with fail
      go_ret
      obtain ⟨a, cap, rfl, _, _⟩ := owns_row HOW.out
      exact ⟨a, cap, rfl, HB3.out, HOW.out⟩
    · rw [cut_hit hi] at C
      dsimp only at C
      have hroom := Lib.index_room r y (by omega)
      have HE2 := hid (show splitL y s = (done ++ [r.take i]) ++ splitL y (r.drop (i + y.length)) by rw [HE.out, split_hit hY.out hi]; simp)
      replace C := hid C
      rw [hi] at hroom
      replace hi := hid hi
      go_wp2_with fail
      refine (C.out).mono ?_
      rintro e w2 ⟨rfl, hb2⟩
      have hown2 := owns_below HO.out hb2
      have HB2 := hid (below_trans HB.out hb2)
      have hsz2 := HB2.out.size
      clear hb2 C
      obtain ⟨hd, hhd⟩ : ∃ hd : ByteArray, hd = ⟨(r.take i).toArray⟩ := ⟨_, rfl⟩
      rw [← hhd]
      obtain ⟨rs, hrs⟩ : ∃ rs : ByteArray, rs = ⟨(r.drop (i + y.length)).toArray⟩ := ⟨_, rfl⟩
      rw [← hrs]
      replace hhd := hid hhd
      replace hrs := hid hrs
      go_wp2_with (at_builtin; refine wpList_push strSlice rfl _ _ rfl w.heap.size (w0 := w2) hown2 rfl rfl rfl (by unfold maxLen; omega) (by omega) hsz2 ?_; intro v' w3 hown' hb')
      have HOW := hid (show w3.ownsRow w.heap.size 9 1 v' (done ++ [r.take i]).length (strsF (done ++ [r.take i])) by
        rw [strsF_app, List.length_append]
        unfold strV
        rw [← hhd.out]
        exact hown')
      have HB3 := hid (HB2.out.trans hb')
      clear hown' hb' hown2
      go_wp2_with fail
      go_roundw
      case rel =>
        refine ⟨done ++ [r.take i], r.drop (i + y.length), by rw [hrs.out], HE2.out, ?_, HOW.out, HB3.out⟩
        rw [List.length_append, List.length_drop]
        simp only [List.length_cons, List.length_nil]
        omega
      case measure =>
        rw [hrs.out, hrb.out]
        show (r.drop (i + y.length)).length < r.length
        rw [List.length_drop]
        omega

set_option maxRecDepth 100000 in
set_option maxHeartbeats 3200000 in
theorem split_runes (s : List UInt8) (hs0 : s ≠ []) (w : World) (hs : s.length ≤ 1048576) :
    Calls Tryz.prog 11 #[.string ⟨s.toArray⟩, .string ⟨#[]⟩] w fun e w' => ∃ a cap, e = .returned (.slice a (pts s).length cap) ∧ Below w.heap.size w w' ∧ w'.ownsRow w.heap.size 9 1 (.slice a (pts s).length cap) (pts s).length (strsF ((pts s).map encU)) := by
  have hsl : 0 < s.length := List.length_pos_iff.2 hs0
  obtain ⟨sb, hsb⟩ : ∃ sb : ByteArray, sb = ⟨s.toArray⟩ := ⟨_, rfl⟩
  rw [← hsb]
  have hne1 : sb.toList.isEmpty = false := by rw [hsb]; exact not_empty hs0
  replace hsb := hid hsb
  go_enter Tryz.func11, Tryz.ntmps11
  go_wp2_with fail
  go_loopw [5] (fun v wr => ∃ (k : Nat) (done : List Nat), k ≤ s.length ∧ done.length ≤ k ∧ pts s = done ++ pts (s.drop k) ∧ wr.heap[w.heap.size]? = some (.stringIter sb k) ∧ wr.ownsRow (w.heap.size + 1) 9 1 v done.length (strsF (done.map encU)) ∧ Below w.heap.size w wr ∧ w.heap.size + 1 ≤ wr.heap.size) (fun _ wr => s.length - wr.iterPos w.heap.size)
  case atStart => exact ⟨0, [], Nat.zero_le _, Nat.zero_le _, rfl, by simp [World.iter_heap], World.ownsRow_nil _ _ _ _, (Below.refl _ w).alloc (Nat.le_refl _) _, by show _ ≤ (w.heap.push _).size; simp⟩
  case round =>
    have hsz : sb.size = s.length := by rw [hsb.out]; rfl
    obtain ⟨k, done, hk, hdk, he, hit, hown, hb, hszw⟩ := hrel
    have HE := hid he
    have HB := hid hb
    have hpos : wr.iterPos w.heap.size = k := by unfold World.iterPos; rw [hit]
    have HPOS := hid hpos
    clear he hpos
    by_cases hkl : k = s.length
    · have hnx : ∀ ty, (Instr.next (.pointer (some ⟨w.heap.size, 0, none⟩)) true ty).run Tryz.prog wr = .ok (.tuple #[.bool false]) wr := fun ty => Lib.run_next_end_at wr _ sb k ty hit (by omega)
      have HD := hid (show pts s = done by rw [HE.out, hkl, List.drop_length]; simp)
      have HO := hid hown
      clear hown hb hit
      go_wp2
      go_ret
      obtain ⟨a, cap, rfl, _, _⟩ := owns_row HO.out
      refine ⟨a, cap, by rw [HD.out]; rfl, HB.out, ?_⟩
      rw [HD.out]; exact owns_from HO.out (by omega)
    · have hkl2 : k < s.length := by omega
      have hne : s.drop k ≠ [] := by
        intro e
        have := congrArg List.length e
        simp at this
        omega
      have h1 := decG_ge hne
      have h2 := decG_len hne
      rw [List.length_drop] at h2
      have hs1 := pts_step hne
      rw [List.drop_drop] at hs1
      have h3 := decG_le (s.drop k)
      have hpt := decG_pt (s.drop k)
      have hdec := decode_drop s k hkl2
      rw [← hsb.out] at hdec
      have hnx : ∀ ty, (Instr.next (.pointer (some ⟨w.heap.size, 0, none⟩)) true ty).run Tryz.prog wr = .ok (.tuple #[.bool true, .int .i64 (k : Nat), .int .i32 ((decG (s.drop k)).1 : Nat)]) (wr.iterAt w.heap.size sb (k + (decG (s.drop k)).2)) := fun ty => by
        rw [Lib.run_next_any_at wr _ sb k ty hit (by omega), hdec]
      clear hdec
      generalize decG (s.drop k) = q at h1 h2 hs1 h3 hnx hpt
      obtain ⟨p, n⟩ := q
      simp only at h1 h2 hs1 h3 hnx hpt
      obtain ⟨h3, h4⟩ := h3
      have HE2 := hid (show pts s = (done ++ [p]) ++ pts (s.drop (k + n)) by rw [HE.out, hs1]; simp)
      clear hs1 hne
      have hown2 : (wr.iterAt w.heap.size sb (k + n)).ownsRow (w.heap.size + 1) 9 1 _ done.length (strsF (done.map encU)) := owns_keep hown fun j hj => Lib.iterAt_other _ _ _ _ _ (by omega)
      have HBW := hid (Lib.below_iterAt hb (Nat.le_refl _) sb (k + n))
      have HIT2 := hid (Lib.iterAt_heap wr _ sb k (k + n) hit)
      have hsz2 : w.heap.size + 1 ≤ (wr.iterAt w.heap.size sb (k + n)).heap.size := by rw [Lib.iterAt_size]; exact hszw
      clear hb hown hit
      generalize wr.iterAt w.heap.size sb (k + n) = w2 at *
      have henc := encode_enc p hpt
      clear hpt
      obtain ⟨eb, heb⟩ : ∃ eb : ByteArray, eb = ⟨(encU p).toArray⟩ := ⟨_, rfl⟩
      rw [← heb] at henc
      replace heb := hid heb
      go_wp2_with (at_builtin; refine wpList_push strSlice rfl _ _ rfl (w.heap.size + 1) (w0 := w2) hown2 rfl rfl rfl (by unfold maxLen; omega) (by omega) hsz2 ?_; intro v' w3 hown' hb')
      have HOW := hid (show w3.ownsRow (w.heap.size + 1) 9 1 v' (done ++ [p]).length (strsF ((done ++ [p]).map encU)) by
        rw [List.map_append, List.map_cons, List.map_nil, strsF_app, List.length_append]
        unfold strV
        rw [← heb.out]
        exact hown')
      have HIT3 : Hid (w3.heap[w.heap.size]? = some (.stringIter sb (k + n))) := (hb'.block _ (by omega)).trans HIT2.out
      have HB3 := hid (HBW.out.trans (hb'.mono (Nat.le_succ _)))
      have hsz3 := Nat.le_trans hsz2 hb'.size
      clear hown' hb' hown2 HBW
      go_wp2
      go_roundw
      case rel => exact ⟨k + n, done ++ [p], by omega, by simp; omega, HE2.out, HIT3.out, HOW.out, HB3.out, hsz3⟩
      case measure =>
        rw [HPOS.out, show w3.iterPos w.heap.size = k + n by unfold World.iterPos; rw [HIT3.out]]
        omega

set_option maxRecDepth 100000 in
theorem split_nil (y : List UInt8) (w : World) :
    Calls Tryz.prog 11 #[.string ⟨#[]⟩, .string ⟨y.toArray⟩] w fun e w' => e = .returned (.slice none 0 0) ∧ w' = w := by
  generalize (⟨y.toArray⟩ : ByteArray) = yb
  go_enter Tryz.func11, Tryz.ntmps11
  go_wp2_with fail
  go_ret
  exact ⟨rfl, rfl⟩
theorem splitF_le (y : List UInt8) : ∀ (f : Nat) (s : List UInt8), (splitF y f s).length ≤ f + 1
  | 0, s => by simp [splitF]
  | f + 1, s => by
    simp only [splitF]
    split
    · simp
    · have := splitF_le y f (s.drop ((Lib.index s y).toNat + y.length))
      rw [List.length_cons]
      omega
theorem split_lenP (s y : List UInt8) : (splitP s y).length ≤ s.length + 1 := by
  unfold splitP
  split
  · simp
  · split
    · rw [List.length_map]
      have := pts_len _ s (Nat.le_refl _)
      omega
    · exact splitF_le y s.length s
/-- format.Split. -/
theorem format_Split (s y : List UInt8) (w : World) (hs : s.length ≤ 1048576) (hM : Mx w) :
    Calls Tryz.prog 11 #[.string ⟨s.toArray⟩, .string ⟨y.toArray⟩] w fun e w' => ∃ a cap, e = .returned (.slice a (splitP s y).length cap) ∧ Below w.heap.size w w' ∧ w'.ownsRow w.heap.size 9 1 (.slice a (splitP s y).length cap) (splitP s y).length (strsF (splitP s y)) := by
  unfold splitP
  by_cases h : s = []
  · subst h
    rw [if_pos rfl]
    refine (split_nil y w).mono ?_
    rintro e w' ⟨rfl, rfl⟩
    exact ⟨none, 0, rfl, Below.refl _ _, World.ownsRow_nil _ _ _ _⟩
  · rw [if_neg h]
    by_cases hy : y = []
    · subst hy
      rw [if_pos rfl, List.length_map]
      exact split_runes s h w hs
    · rw [if_neg hy]
      exact split_at s y h hy w hs hM

end Go.Proofs.YtldhebpkplglcaaGreatDoor

namespace Go.Proofs.YtldhebpkplglcaaGreatDoor
open Go.RowKit

def idxP (xs ys : List Nat) : List Nat := if ys = [] then [] else idxL xs ys
theorem row_at {w : World} {a : Option Addr} {xs : List Nat} (h : Row w a (i64s xs)) {j p : Nat} (hj : xs[j]? = some p) : ∃ b off, a = some ⟨b, off, none⟩ ∧ w.cell? ⟨b, off + j, none⟩ = some (.int .i64 (p : Int)) := by
  obtain ⟨b, off, e, hc⟩ := h j (.int .i64 (p : Int)) (by unfold i64s; rw [List.getElem?_map, hj]; rfl)
  exact ⟨b, off, e, hc⟩

theorem idxT_le (xs ys : List Nat) (k : Nat) : (idxT xs ys k).length ≤ k := by
  unfold idxT
  exact Nat.le_trans (List.length_filter_le _ _) (by simp)

set_option maxRecDepth 100000 in
set_option maxHeartbeats 3200000 in
theorem format_Indices (s t : List UInt8) (w : World) (hs : s.length ≤ 1048576) (ht : t.length ≤ 1048576) :
    Calls Tryz.prog 10 #[.string ⟨s.toArray⟩, .string ⟨t.toArray⟩] w fun e w' => ∃ a cap, e = .returned (.slice a (idxP (pts s) (pts t)).length cap) ∧ Below w.heap.size w w' ∧ w'.ownsRow w.heap.size 3 1 (.slice a (idxP (pts s) (pts t)).length cap) (idxP (pts s) (pts t)).length (i64s (idxP (pts s) (pts t))) := by
  have CX := fun W => utf_Explode s W (by omega)
  have CY := fun W => utf_Explode t W (by omega)
  have hxl := pts_len _ s (Nat.le_refl _)
  have hyl := pts_len _ t (Nat.le_refl _)
  generalize pts s = xs at *
  generalize pts t = ys at *
  generalize (⟨s.toArray⟩ : ByteArray) = sb at *
  generalize (⟨t.toArray⟩ : ByteArray) = tb at *
  replace CX := hid CX
  replace CY := hid CY
  go_enter Tryz.func10, Tryz.ntmps10
  go_wp2
  go_step3
  go_upto_region 1 with fail
  go_cut [5, 6] from 11 to 49 (fun v5 v6 w' => ∃ ax cx ay cy w1, w1 = w' ∧ v5 = .slice ax xs.length cx ∧ v6 = .slice ay ys.length cy ∧ Row w1 ax (i64s xs) ∧ Row w1 ay (i64s ys) ∧ Below w.heap.size w w1)
  case first =>
    go_wp2_with fail
    refine (CX.out _).mono ?_
    rintro e1 wx ⟨ax, cx, rfl, hbx, hox⟩
    replace hbx := hid hbx
    replace hox := hid hox
    go_wp2_with fail
    refine (CY.out _).mono ?_
    rintro e2 wy ⟨ay, cy, rfl, hby, hoy⟩
    replace hby := hid hby
    replace hoy := hid hoy
    go_wp2_with fail
    go_meet
    case rel =>
      obtain ⟨_, _, e3, r1, _⟩ := owns_row hox.out
      obtain ⟨_, _, e4, r2, _⟩ := owns_row hoy.out
      injection e3 with e3 _ _
      injection e4 with e4 _ _
      subst e3 e4
      exact ⟨_, _, _, _, _, rfl, rfl, rfl, r1.below hby.out, r2, below_trans hbx.out hby.out⟩
  case rest =>
    obtain ⟨ax, cx, ay, cy, w1, rfl, rfl, rfl, hrx, hry, hb⟩ := hcut
    have HX := hid hrx
    have HY := hid hry
    have HB := hid hb
    have hszw := hb.size
    clear hrx hry hb CX CY
    go_wp2_with fail
    go_step3
    go_wp2_with fail
    go_loopw [7, 8] (fun v7 v8 wr => ∃ k : Nat, v8 = .int .i64 (k : Nat) ∧ k ≤ xs.length ∧ (ys = [] → k = 0) ∧ wr.ownsRow w1.heap.size 3 1 v7 (idxT xs ys k).length (i64s (idxT xs ys k)) ∧ Below w1.heap.size w1 wr) (fun _ v8 _ => xs.length - (intOf v8).toNat)
    case atStart => exact ⟨0, rfl, Nat.zero_le _, fun _ => rfl, World.ownsRow_nil _ _ _ _, Below.refl _ _⟩
    case round =>
      obtain ⟨k, rfl, hk, hk0, hown, hbr⟩ := hrel
      have HO := hid hown
      have HBR := hid hbr
      have hszr := hbr.size
      have hil := idxT_le xs ys k
      clear hown hbr
      by_cases hy0 : ys = []
      · have hyn : ys.length = 0 := by rw [hy0]; rfl
        have HE := hid (show idxP xs ys = idxT xs ys k by rw [idxP, if_pos hy0, hk0 hy0]; rfl)
        have hlt : ¬ ((0 : Int) < ((ys.length : Nat) : Int)) := by omega
        clear hy0 hk0
        go_wp2_with fail
        go_ret
        obtain ⟨a, cap, rfl, _, _⟩ := owns_row HO.out
        refine ⟨a, cap, by rw [HE.out]; rfl, below_trans HB.out HBR.out, ?_⟩
        rw [HE.out]; exact owns_from HO.out hszw
      · have hyp : 0 < ys.length := List.length_pos_iff.2 hy0
        clear hk0
        by_cases hroom : xs.length < k + ys.length
        · have HE := hid (show idxP xs ys = idxT xs ys k by rw [idxP, if_neg hy0]; exact (idxT_room xs ys hy0 k hroom hk).symm)
          clear hy0
          go_wp2_with fail
          rw [Exit.noGoto_ret]
          go_ret
          obtain ⟨a, cap, rfl, _, _⟩ := owns_row HO.out
          refine ⟨a, cap, by rw [HE.out]; rfl, below_trans HB.out HBR.out, ?_⟩
          rw [HE.out]; exact owns_from HO.out hszw
        · have hroom2 : (k : Int) + (ys.length : Nat) ≤ (xs.length : Nat) := by omega
          have hw1 : IntKind.i64.wrap ((k : Int) + (ys.length : Nat)) = (k : Int) + (ys.length : Nat) := IntWalk.i64_in _ (by omega)
          have hNot := hid hy0
          clear hy0 hroom
          have hstep := idxT_step xs ys k
          replace hstep := hid hstep
          obtain ⟨L, hL⟩ : ∃ L, L = idxT xs ys k := ⟨_, rfl⟩
          rw [← hL] at HO hil hstep
          clear hL
          go_wp2_with fail
          go_loopw [31] (fun v wk => ∃ m : Nat, v = .int .i64 (m : Nat) ∧ m ≤ ys.length ∧ (∀ j, j < m → xs[k + j]? = ys[j]?) ∧ wr = wk) (fun v _ => ys.length - (intOf v).toNat)
          case atStart => exact ⟨0, rfl, Nat.zero_le _, fun j hj => absurd hj (Nat.not_lt_zero j), rfl⟩
          case round =>
            obtain ⟨m, rfl, hm, hall, rfl⟩ := hrel
            have HALL := hid hall
            clear hall
            by_cases hme : m = ys.length
            · have HP : Hid (ys.isPrefixOf (xs.drop k) = true) := by
                show ys.isPrefixOf (xs.drop k) = true
                rw [List.isPrefixOf_iff_prefix, List.prefix_iff_getElem?]
                intro i hi
                rw [List.getElem?_drop, HALL.out i (by omega), List.getElem?_eq_getElem hi]
              rw [HP.out, if_pos rfl] at hstep
              have hown2 := HO.out
              subst hme
              go_wp2_with (at_builtin; refine wpList_push intSlice rfl _ _ rfl w1.heap.size (w0 := wr) hown2 rfl rfl rfl (by unfold maxLen; omega) (by omega) hszr ?_; intro v' w3 hown' hb')
              have HOW := hid (show w3.ownsRow w1.heap.size 3 1 v' (idxT xs ys (k + 1)).length (i64s (idxT xs ys (k + 1))) by
                rw [hstep.out, i64s_app, List.length_append]; exact hown')
              have HB3 := hid (HBR.out.trans hb')
              clear hown' hb' hown2
              go_wp2_with fail
              go_roundw
              case rel => exact ⟨k + 1, by go_num, by omega, fun h => absurd h hNot.out, HOW.out, HB3.out⟩
              case measure => simp [intOf]; omega
            · have hm2 : m < ys.length := by omega
              obtain ⟨q, hq⟩ : ∃ q, ys[m]? = some q := ⟨_, List.getElem?_eq_getElem hm2⟩
              obtain ⟨p, hp⟩ : ∃ p, xs[k + m]? = some p := ⟨_, List.getElem?_eq_getElem (show k + m < xs.length by omega)⟩
              obtain ⟨by', oy, rfl, cy'⟩ := row_at (HY.out.below HBR.out) hq
              obtain ⟨bx', ox, rfl, cx'⟩ := row_at (HX.out.below HBR.out) hp
              have hw2 : IntKind.i64.wrap ((k : Int) + (m : Int)) = ((k + m : Nat) : Int) := by rw [IntWalk.i64_in _ (by omega)]; omega
              have HQ := hid hq
              have HPp := hid hp
              clear hq hp
              by_cases hpq : p = q
              · have hall2 : Hid (∀ j, j < m + 1 → xs[k + j]? = ys[j]?) := by
                  intro j hj
                  rcases Nat.lt_succ_iff_lt_or_eq.1 hj with h | rfl
                  · exact HALL.out j h
                  · rw [HPp.out, HQ.out, hpq]
                subst hpq
                go_wp2_with fail
                go_roundw
                case rel => exact ⟨m + 1, by go_num, by omega, hall2.out, by trivial⟩
                case measure => simp [intOf]; omega
              · have HP : Hid (ys.isPrefixOf (xs.drop k) = false) := by
                  show ys.isPrefixOf (xs.drop k) = false
                  rw [Bool.eq_false_iff, ne_eq, List.isPrefixOf_iff_prefix, List.prefix_iff_getElem?]
                  intro h
                  have := h m hm2
                  rw [List.getElem?_drop, HPp.out] at this
                  have e2 := HQ.out
                  rw [List.getElem?_eq_getElem hm2] at e2
                  rw [Option.some.inj e2] at this
                  exact hpq (Option.some.inj this)
                rw [HP.out, if_neg (by simp), List.append_nil] at hstep
                have hne : ¬ ((p : Int) = (q : Int)) := by omega
                clear hpq
                go_wp2_with fail
                go_roundw
                case rel =>
                  refine ⟨k + 1, by go_num, by omega, fun h => absurd h hNot.out, ?_, HBR.out⟩
                  rw [hstep.out]; exact HO.out
                case measure => simp [intOf]; omega

end Go.Proofs.YtldhebpkplglcaaGreatDoor

namespace Go.Proofs.YtldhebpkplglcaaGreatDoor
open Go.RowKit

set_option maxRecDepth 100000 in
theorem law20_text (s : List UInt8) (w : World) :
    Calls Tryz.prog 9 #[.string ⟨s.toArray⟩] w fun e w' => e = .returned (.agg (txtCs s).toArray) ∧ Below w.heap.size w w' := by
  unfold txtCs strV
  generalize (⟨s.toArray⟩ : ByteArray) = sb
  go_enter Tryz.func9, Tryz.ntmps9
  go_wp2_with fail
  refine bodyPost_ret (v := .agg #[.int .i64 4, .bool false, .slice none 0 0, .int .i64 0, .string sb, .slice none 0 0, .slice none 0 0]) (by simp [results, Tryz.results9, go_sem]) rfl ?_
  exact ⟨rfl, (Below.refl _ w).alloc (Nat.le_refl _) _⟩
def nullCs : List Value := [.int .i64 0, .bool false, .slice none 0 0, .int .i64 0, .string ⟨#[]⟩, .slice none 0 0, .slice none 0 0]
theorem null_rd (w : World) : RdV w nullCs JV.null := by
  refine RdV.mk (w := w) 0 false none [] 0 0 [] none [] 0 none [] 0 (fun _ => []) (fun _ => []) ?_ ?_ (by simp) ?_ ?_ ?_ ?_ ?_ ?_ ?_ ?_
  · unfold I64; omega
  · unfold I64; omega
  · simp
  · simp
  · simp
  · exact ⟨fun j v hj => by simp [u32s] at hj, by simp⟩
  · intro i hi; simp at hi
  · intro i x hi; simp at hi
  · intro i x hi; simp at hi
  · intro i x hi; simp at hi
def pairCs (s : List UInt8) : Array Value := #[.int .i64 4, .bool false, .slice none 0 0, .int .i64 0, .string ⟨s.toArray⟩, .slice none 0 0, .slice none 0 0, .int .i64 0, .bool false, .slice none 0 0, .int .i64 0, .string ⟨#[]⟩, .slice none 0 0, .slice none 0 0]
theorem pair_at (s : List UInt8) (w : World) (b : Nat) (h : w.heap[b]? = some (.cells (pairCs s) 28 (0, 0))) : CellsAt w (some ⟨b, 0, none⟩) (0 * 7) (txtCs s) ∧ CellsAt w (some ⟨b, 0, none⟩) (1 * 7) nullCs := by
  constructor
  · refine ⟨b, 0, rfl, fun j v hj => ?_⟩
    rw [Lib.cell_of_heap h]
    match j, hj with
    | 0, hj => exact hj
    | 1, hj => exact hj
    | 2, hj => exact hj
    | 3, hj => exact hj
    | 4, hj => exact hj
    | 5, hj => exact hj
    | 6, hj => exact hj
  · refine ⟨b, 0, rfl, fun j v hj => ?_⟩
    rw [Lib.cell_of_heap h]
    match j, hj with
    | 0, hj => exact hj
    | 1, hj => exact hj
    | 2, hj => exact hj
    | 3, hj => exact hj
    | 4, hj => exact hj
    | 5, hj => exact hj
    | 6, hj => exact hj
theorem pair_rda (s : List UInt8) (w : World) (b : Nat) (hs : s.length ≤ 9223372036854775807) (h : w.heap[b]? = some (.cells (pairCs s) 28 (0, 0))) : RdA w (some ⟨b, 0, none⟩) [JV.txt s, JV.null] := by
  obtain ⟨h1, h2⟩ := pair_at s w b h
  intro i x hx
  match i, hx with
  | 0, hx => obtain rfl : JV.txt s = x := by simpa using hx
             exact ⟨_, h1, txt_rd s w hs⟩
  | 1, hx => obtain rfl : JV.null = x := by simpa using hx
             exact ⟨_, h2, null_rd w⟩
theorem pair_rd (s : List UInt8) (w : World) (b : Nat) (hs : s.length ≤ 9223372036854775807) (h : w.heap[b]? = some (.cells (pairCs s) 28 (0, 0))) :
    RdV w (valCs 5 false none 0 0 0 [] (some ⟨b, 0, none⟩) 2 2 none 0 0) (.mk 5 false [] 0 [] [JV.txt s, JV.null] []) := by
  obtain ⟨h1, h2⟩ := pair_at s w b h
  refine RdV.mk (w := w) 5 false none [] 0 0 [] (some ⟨b, 0, none⟩) [JV.txt s, JV.null] 2 none [] 0 (fun i => if i = 0 then txtCs s else nullCs) (fun _ => []) ?_ ?_ (by simp) ?_ ?_ ?_ ?_ ?_ ?_ ?_ ?_
  · unfold I64; omega
  · unfold I64; omega
  · simp
  · simp
  · simp
  · exact ⟨fun j v hj => by simp [u32s] at hj, by simp⟩
  · intro i hi
    match i, hi with
    | 0, _ => exact h1
    | 1, _ => exact h2
  · intro i x hi
    match i, hi with
    | 0, hi => obtain rfl : JV.txt s = x := by simpa using hi
               exact txt_rd s w hs
    | 1, hi => obtain rfl : JV.null = x := by simpa using hi
               exact null_rd w
  · intro i x hi; simp at hi
  · intro i x hi; simp at hi
def pairJ : JV := .mk 5 false [] 0 [] [JV.txt [97, 34, 98], JV.null] []
theorem ex20_b64 : b64 [97, 98, 99, 100] = [89, 87, 74, 106, 90, 65, 61, 61] := by decide +kernel
theorem ex20_uri : uriL [195, 164, 32, 98] = [37, 67, 51, 37, 65, 52, 37, 50, 48, 98] := by decide +kernel
theorem ex20_csv : Lib.join ([JV.txt [97, 34, 98], JV.null].map (itemL [] (quoL 34 [34, 34]))) [44] = [34, 97, 34, 34, 98, 34, 44] := by decide +kernel
theorem ex20_sh : quoL 39 [39, 92, 39, 39] [105, 116, 39, 115] = [39, 105, 116, 39, 92, 39, 39, 115, 39] := by decide +kernel
theorem ex20_idx : idxP (pts [97, 97, 97]) (pts [97, 97]) = [0, 1] := by decide +kernel
theorem ex20_split : splitP [97, 44, 98, 44] [44] = [[97], [98], []] := by decide +kernel
theorem ex20_s1 : soundB [97, 98, 99, 100] = true := by decide +kernel
theorem ex20_s2 : soundB [195, 164, 32, 98] = true := by decide +kernel
theorem ex20_s3 : soundB [105, 116, 39, 115] = true := by decide +kernel
theorem ex20_may : mayJ 200 pairJ = true := by decide +kernel

set_option maxRecDepth 100000 in
set_option maxHeartbeats 8000000 in
theorem law20_shown (w : World) (hT : Tabs w) (hM : Mx w) : Calls Tryz.prog 5 #[] w fun e w' => e = .returned (.bool true) ∧ Below w.heap.size w w' := by
  have HT := hid hT
  have HM := hid hM
  clear hT hM
  go_enter Tryz.func5, Tryz.ntmps5
  go_wp2_with fail
  refine (law20_text [97, 98, 99, 100] w).mono ?_
  rintro en w1 ⟨rfl, b1⟩
  have B1 := hid b1
  have C := apply_b64 [97, 98, 99, 100] (by decide) ex20_s1 w1 (HT.out.below b1)
  rw [ex20_b64] at C
  replace C := hid C
  clear b1
  go_wp2_with fail
  refine C.out.mono ?_
  rintro en w2 ⟨rfl, b2⟩
  have B2 := hid (below_trans B1.out b2)
  clear b2 B1 C
  go_wp2_with fail
  refine (law20_text [195, 164, 32, 98] w2).mono ?_
  rintro en w3 ⟨rfl, b3⟩
  have B3 := hid (below_trans B2.out b3)
  have C := apply_uri [195, 164, 32, 98] (by decide) ex20_s2 w3 (HT.out.below B3.out)
  rw [ex20_uri] at C
  replace C := hid C
  clear b3 B2
  go_wp2_with fail
  refine C.out.mono ?_
  rintro en w4 ⟨rfl, b4⟩
  have B4 := hid (below_trans B3.out b4)
  clear b4 B3 C
  go_wp2_with fail
  have HTX := law20_text [97, 34, 98] w4
  unfold txtCs strV at HTX
  refine HTX.mono ?_
  clear HTX
  rintro en w5 ⟨rfl, b5⟩
  have B5 := hid (below_trans B4.out b5)
  clear b5 B4
  obtain ⟨w6, hw6⟩ : ∃ w6, w6 = w5.alloc (.cells (pairCs [97, 34, 98]) 28) := ⟨_, rfl⟩
  have hal : Below w5.heap.size w5 w6 := by rw [hw6]; exact (Below.refl _ w5).alloc (Nat.le_refl _) _
  have B6 := hid (below_trans B5.out hal)
  have hp : w6.heap[w5.heap.size]? = some (.cells (pairCs [97, 34, 98]) 28 (0, 0)) := by rw [hw6]; exact heap_alloc_new w5 _
  have C := apply_csv [JV.txt [97, 34, 98], JV.null] false none 0 0 0 [] (some ⟨w5.heap.size, 0, none⟩) 2 none 0 0 pairJ w6 (pair_rda _ _ _ (by decide) hp) (HM.out.below B6.out) (HT.out.below B6.out) (by decide) (by
    intro x hx
    simp only [List.mem_cons, List.not_mem_nil, or_false] at hx
    rcases hx with rfl | rfl
    · exact ⟨Or.inr rfl, by decide⟩
    · exact ⟨Or.inl rfl, by decide⟩) (by rw [ex20_csv]; decide) (pair_rd _ _ _ (by decide) hp) ex20_may
  rw [ex20_csv] at C
  unfold valCs strV at C
  rw [hw6] at C
  unfold pairCs at C
  replace C := hid C
  replace hw6 := hid hw6
  clear hal hp
  go_wp2_with fail
  refine C.out.mono ?_
  rintro en w7 ⟨rfl, b7⟩
  have B7 : Hid (Below w.heap.size w w7) := by
    have e := hw6.out
    unfold pairCs at e
    rw [← e] at b7
    exact below_trans B6.out b7
  clear b7 B6 B5 C hw6
  go_wp2_with fail
  refine (law20_text [105, 116, 39, 115] w7).mono ?_
  rintro en w8 ⟨rfl, b8⟩
  have B8 := hid (below_trans B7.out b8)
  have C := apply_sh [105, 116, 39, 115] (by decide) ex20_s3 w8 (HT.out.below B8.out) (HM.out.below B8.out)
  rw [ex20_sh] at C
  replace C := hid C
  clear b8 B7
  go_wp2_with fail
  refine C.out.mono ?_
  rintro en w9 ⟨rfl, b9⟩
  have B9 := hid (below_trans B8.out b9)
  clear b9 B8 C
  have C := format_Indices [97, 97, 97] [97, 97] w9 (by decide) (by decide)
  rw [ex20_idx] at C
  replace C := hid C
  go_wp2_with fail
  refine C.out.mono ?_
  rintro en w10 ⟨a, cap, rfl, b10, ho⟩
  have B10 := hid (below_trans B9.out b10)
  obtain ⟨_, _, e3, hr, _⟩ := owns_row ho
  injection e3 with e3 _ _
  subst e3
  obtain ⟨bk, off, rfl, hc1⟩ := row_at hr (j := 1) (p := 1) rfl
  have CS := format_Split [97, 44, 98, 44] [44] w10 (by decide) (HM.out.below B10.out)
  rw [ex20_split] at CS
  replace CS := hid CS
  clear b10 B9 C ho hr
  go_wp2_with fail
  refine CS.out.mono ?_
  rintro en w11 ⟨a2, cap2, rfl, b11, ho2⟩
  have B11 := hid (below_trans B10.out b11)
  clear b11 ho2 hc1 CS B10
  go_wp2_with fail
  go_ret
  exact ⟨rfl, B11.out⟩

end Go.Proofs.YtldhebpkplglcaaGreatDoor
