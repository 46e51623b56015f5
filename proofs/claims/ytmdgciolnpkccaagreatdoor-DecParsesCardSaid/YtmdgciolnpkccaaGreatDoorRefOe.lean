/- The document's answer, nineteenth part: Parse of digits, what a power is capped at; Parse. -/
import Derived.Test.YtmdgciolnpkccaaGreatDoorRefOc
import Derived.Test.YtmdgciolnpkccaaGreatDoorRefJ
import Derived.Deep.CutBlock
namespace Go.Proofs.YtmdgciolnpkccaaGreatDoor
open Go.RowKit

def OutR8E (w : World) (ds : List Nat) (e : Ending) (w' : World) : Prop :=
  ∃ a cap, e = .returned (.tuple #[.slice a ds.length cap, .int .i64 0]) ∧ Below w.heap.size w w' ∧ U8 w' a ds ∧ ds.length ≤ cap ∧ cap ≤ 9223372036854775807 ∧ (a = none → cap = 0)

theorem digit_math (l : List UInt8) (k i : Nat) (hi : i < l.length) (hk : i + 1 + k = l.length) (out : List Nat) (hl : out.length = k) (hw : Num.val 10 out = num10 (l.drop (i + 1)) 0) :
    Num.val 10 (out ++ [(l[i]).toNat - 48]) = num10 (l.drop i) 0 := by
  rw [List.drop_eq_getElem_cons hi]
  simp only [num10]
  rw [num10_start, Num.val_snoc, hw, hl, List.length_drop, show l.length - (i+1) = k by omega]
  rw [Nat.mul_zero, Nat.zero_add, Nat.mul_comm, Nat.add_comm]

/-- What holds at the head of a round: i bytes are left. -/
def ParN (w : World) (l : List UInt8) (i : Nat) (v : Value) (wr : World) : Prop :=
  ∃ (k : Nat) (out : List Nat), i + k = l.length ∧ out.length = k ∧ (∀ x ∈ out, x < 10) ∧ Num.val 10 out = num10 (l.drop i) 0 ∧ wr.ownsRow w.heap.size 5 1 v k (u8s out) ∧ Below w.heap.size w wr

set_option maxHeartbeats 800000 in
theorem ref1_Parse (s : ByteArray) (w : World) (hd : Digs s.data.toList) (h0 : 1 ≤ s.size) (hs : s.size ≤ 1000000000) :
    Calls Tryz.prog 64 #[.string s] w (OutR8E w (Num.digs 10 (num10 s.data.toList 0))) := by
  have hls : s.data.toList.length = s.size := rfl
  have hin : ∀ n, (hn : n < s.size) → ∃ c : Nat, 48 ≤ c ∧ c ≤ 57 ∧ c = (s.data.toList[n]'hn).toNat ∧ ∀ W, (Instr.index 9 (.string s) (.int .i64 (n : Int))).run Tryz.prog W = .ok (.int .u8 (c : Int)) W := by
    intro n hn
    have hb := byte_get s hd n hn
    exact ⟨(s[n]'hn).toNat, hb.1, hb.2, rfl, index_byte (by omega) hn rfl⟩
  have HIN := hid hin
  have hne : s.toList.isEmpty = false := by
    rw [ByteArray.toList_eq]
    cases h : s.data.toList with
    | nil => rw [h] at hls; simp at hls; omega
    | cons c l => rfl
  clear hin hd
  go_enter Tryz.func64, Tryz.ntmps64
  go_wp2_with fail
  go_loopw [4, 5] (fun v e wr => ∃ i : Nat, i ≤ s.size ∧ e = .int .i64 ((i : Int) - 1) ∧ ParN w s.data.toList i v wr) (fun _ e _ => (intOf e + 1).toNat)
  case atStart => exact ⟨s.size, Nat.le_refl _, rfl, 0, [], rfl, rfl, by simp, by rw [List.drop_of_length_le (Nat.le_of_eq hls)]; rfl, World.ownsRow_nil _ _ _ _, Below.refl _ _⟩
  case round =>
    obtain ⟨i, hi, rfl, k, out, h1, h2, h3, h4, h5, h6⟩ := hrel
    have H2 := hid h2
    have H3 := hid h3
    have H4 := hid h4
    have H6 := hid h6
    have hsz := h6.size
    clear h2 h3 h4 h6
    rw [hls] at h1
    cases i with
    | zero =>
      have HO := hid h5
      have hv : Num.val 10 out = num10 s.data.toList 0 := by rw [H4.out]; rfl
      replace hv := hid hv
      obtain ⟨a, cap, rfl, _, _⟩ := owns_row h5
      clear h5
      go_wp2_with fail
      refine (r_trim_out a k cap out w wr H2.out H3.out HO.out H6.out).mono ?_
      rw [hv.out]
      rintro e1 w1 ⟨⟨a2, c2, rfl, hb2, hu⟩, rfl⟩
      have HU := hid hu
      have HB := hid hb2
      clear hu hb2
      go_wp2
      go_ret2
      exact ⟨a2, c2, rfl, HB.out, HU.out⟩
    | succ j =>
      obtain ⟨c, c1, c2, c3, hix⟩ := HIN.out j (by omega)
      have hji : ((j + 1 : Nat) : Int) - 1 = (j : Int) := by omega
      rw [hji]
      have hm := digit_math s.data.toList k j (by omega) (by omega) out H2.out H4.out
      rw [← c3] at hm
      replace hm := hid hm
      replace c3 := hid c3
      clear hji
      go_wp2_with (at_builtin; refine wpList_push numSlice rfl _ _ rfl w.heap.size (w0 := wr) h5 rfl rfl rfl (by unfold maxLen; omega) (by omega) hsz ?_; intro v' w3 hown' hb')
      have HN : Hid (ParN w s.data.toList j v' w3) := by
        refine ⟨k + 1, out ++ [c - 48], by omega, by simp [H2.out], ?_, hm.out, ?_, H6.out.trans hb'⟩
        · intro x hx
          rcases List.mem_append.1 hx with h | h
          · exact H3.out x h
          · simp at h; omega
        · have : ((c - 48 : Nat) : Int) = (c : Int) - 48 := by omega
          simpa [u8s, this] using hown'
      clear hown' hb' h5
      go_wp2
      go_roundw
      case rel => exact ⟨j, by omega, by go_num, HN.out⟩
      case measure => simp [intOf]

/-- The power as the document caps it. -/
theorem num10_trim (l : List UInt8) : num10 (Lib.trimLeftB l 48) 0 = num10 l 0 := by
  unfold Lib.trimLeftB
  induction l with
  | nil => rfl
  | cons c l ih =>
    by_cases h : c = 48
    · subst h
      rw [List.dropWhile_cons_of_pos (by simp)]
      rw [ih]
      simp [num10]
    · rw [List.dropWhile_cons_of_neg (by simpa using h)]
theorem small_low {l : List UInt8} (hd : Digs l) (h : num10 l 0 ≤ 100000) : smallN l = num10 l 0 := by
  have hz := num10_trim l
  unfold smallN
  split
  · rename_i h6
    exfalso
    cases hc : Lib.trimLeftB l 48 with
    | nil => rw [hc] at h6; simp at h6
    | cons c r =>
      have hcd : 48 ≤ c.toNat ∧ c.toNat ≤ 57 := hd c ((List.dropWhile_suffix _).subset (by rw [show List.dropWhile _ l = Lib.trimLeftB l 48 from rfl, hc]; simp))
      have hne : c ≠ 48 := by
        intro e
        have h2 : (List.dropWhile (· == 48) l).head? = some 48 := by
          rw [show List.dropWhile (· == 48) l = Lib.trimLeftB l 48 from rfl, hc, e]; rfl
        have h3 := List.head?_dropWhile_not (fun x : UInt8 => x == 48) l
        rw [h2] at h3
        simp at h3
      have hne2 : c.toNat ≠ 48 := fun e => hne (UInt8.toNat_inj.1 e)
      rw [hc] at hz h6
      have e1 : num10 (c :: r) 0 = num10 r (c.toNat - 48) := by simp [num10]
      rw [e1, num10_start] at hz
      have h7 : 10 ^ 6 ≤ 10 ^ r.length := Nat.pow_le_pow_right (by decide) (by simp at h6; omega)
      have h8 : 1 * 10 ^ r.length ≤ (c.toNat - 48) * 10 ^ r.length := Nat.mul_le_mul_right _ (by omega)
      have h9 : (10:Nat) ^ 6 = 1000000 := by decide
      omega
  · exact hz
theorem small_high {l : List UInt8} (h : 100000 < num10 l 0) : 100000 < smallN l := by
  unfold smallN
  split
  · omega
  · rw [num10_trim]; exact h


theorem fits_off {n : Bool} {m : Nat} {e : Int} (h0 : m ≠ 0) (hl : (Num.digs 10 m).length ≤ 1000) (he : e ≤ -20000 ∨ 20000 ≤ e) : fitsB (plainD n m e) = false := by
  have h1 := (tz_split h0).2.2
  have h2 : (Num.digs 10 (m / 10 ^ tz m)).length = (Num.digs 10 m).length - tz m := by rw [Num.digs_div_pow (by decide), List.length_drop]
  have h3 : 1 ≤ (Num.digs 10 (m / 10 ^ tz m)).length := by
    rw [Num.digs_pos (by decide) h1]; simp
  unfold plainD
  rw [if_neg h0]
  unfold fitsB
  simp only
  rw [decide_eq_false h1, Bool.false_or]
  simp only [Bool.and_eq_false_iff, decide_eq_false_iff_not]
  omega

def capN (l : List UInt8) : Nat := min (num10 l 0) 100000
theorem capN_step {l : List UInt8} {k : Nat} (hk : k < l.length) {d e : Nat} (hd : d = (l[k]).toNat - 48) (he : e = capN (l.take k)) : capN (l.take (k + 1)) = if 100000 < 10 * e + d then 100000 else 10 * e + d := by
  have h1 : num10 (l.take (k + 1)) 0 = 10 * num10 (l.take k) 0 + d := by
    rw [List.take_add_one, List.getElem?_eq_getElem hk, Option.toList_some, num10_append]
    simp [num10, hd]
  unfold capN at he ⊢
  rw [h1]
  split <;> omega

theorem ctail_facts {t : List UInt8} {x : List UInt8 × Bool} (hx : ctailL t = some x) : Digs x.1 ∧ x.1.length ≤ t.length := by
  unfold ctailL at hx
  split at hx
  · injection hx with hx; subst hx; exact ⟨fun c hc => by simp at hc, Nat.zero_le _⟩
  · rename_i c r
    split at hx
    · simp only at hx
      have h1 := trimPrefix_le r [45]
      have h2 := trimPrefix_le r [43]
      have h3 := takeWhile_le (Lib.trimPrefix r [45]) isD
      have h4 := takeWhile_le (Lib.trimPrefix r [43]) isD
      split at hx
      · split at hx
        · cases hx
        · injection hx with hx; subst hx; exact ⟨take_digs _, by simp; omega⟩
      · split at hx
        · cases hx
        · injection hx with hx; subst hx; exact ⟨take_digs _, by simp; omega⟩
    · cases hx
theorem cut_facts {l A B C : List UInt8} {n d : Bool} (h : cutL l = some (n, A, B, C, d)) : Digs A ∧ Digs B ∧ (Digs C ∧ C.length ≤ l.length) ∧ A ≠ [] ∧ A.length + B.length ≤ l.length := by
  have hs : scanL l = some (n, A, B, powV (C, d)) := by rw [scan_cut, h]; rfl
  obtain ⟨h1, h2, h3, h4, _⟩ := scan_facts hs
  refine ⟨h1, h2, ?_, h3, h4⟩
  have l0 := trimPrefix_le l [45]
  have l1 := dropWhile_le (Lib.trimPrefix l [45]) isD
  have l2 := trimPrefix_le ((Lib.trimPrefix l [45]).dropWhile isD) [46]
  have l3 := dropWhile_le (Lib.trimPrefix ((Lib.trimPrefix l [45]).dropWhile isD) [46]) isD
  unfold cutL at h
  simp only at h
  split at h
  · cases h
  · split at h
    · split at h
      · cases h
      · obtain ⟨x, hx, he⟩ := Option.map_eq_some_iff.1 h
        simp only [Prod.mk.injEq] at he
        obtain ⟨_, _, _, rfl, _⟩ := he
        have := ctail_facts hx
        exact ⟨this.1, by omega⟩
    · obtain ⟨x, hx, he⟩ := Option.map_eq_some_iff.1 h
      simp only [Prod.mk.injEq] at he
      obtain ⟨_, _, _, rfl, _⟩ := he
      have := ctail_facts hx
      exact ⟨this.1, by omega⟩

/-- Both ways of capping the power tell the same number. -/
theorem parse_meet {l A B C : List UInt8} {n d : Bool} (h : cutL l = some (n, A, B, C, d)) (hl : l.length ≤ 1000) :
    parseR l = tellR (plainD n (num10 (A ++ B) 0) ((if d = true then -(capN C : Int) else (capN C : Int)) - B.length)) := by
  obtain ⟨hA, hB, ⟨hC, _⟩, _, hAB⟩ := cut_facts h
  have hs : scanL l = some (n, A, B, powV (C, d)) := by rw [scan_cut, h]; rfl
  unfold parseR
  rw [hs]
  simp only
  rw [if_neg (by omega)]
  have hdab : Digs (A ++ B) := fun c hc => (List.mem_append.1 hc).elim (hA c) (hB c)
  have hm := digs_num10 (A ++ B) hdab 1000 (by rw [List.length_append]; omega)
  obtain ⟨m, hme⟩ : ∃ m, m = num10 (A ++ B) 0 := ⟨_, rfl⟩
  rw [← hme] at hm ⊢
  by_cases hlow : num10 C 0 ≤ 100000
  · have e1 := small_low hC hlow
    have e2 : capN C = num10 C 0 := by unfold capN; omega
    have e3 : powV (C, d) = if d = true then -(capN C : Int) else (capN C : Int) := by
      unfold powV
      simp only
      rw [e1, e2]
      cases d <;> simp
    rw [e3]
    unfold tellR
    rfl
  · have e1 := small_high (l := C) (by omega)
    have e2 : capN C = 100000 := by unfold capN; omega
    have e3 : powV (C, d) ≤ -100001 ∨ 100001 ≤ powV (C, d) := by
      unfold powV
      cases d <;> simp <;> omega
    by_cases h0 : m = 0
    · subst h0
      rw [plainD_zero, plainD_zero]
      unfold tellR
      rfl
    · rw [if_neg (by rw [fits_off h0 hm (by omega)]; simp)]
      unfold tellR
      rw [if_neg (by rw [fits_off h0 hm (by rw [e2]; cases d <;> simp <;> omega)]; simp)]

theorem Lit5.below {W W' : World} {K : Nat} {n d : Bool} {A B C : ByteArray} (h : Lit5 W K n A B C d) (hb : Below W.heap.size W W') : Lit5 W' K n A B C d := by
  obtain ⟨T, h⟩ := h; exact ⟨T, blk_below h hb⟩
theorem capN_le (l : List UInt8) : capN l ≤ 100000 := by unfold capN; omega
theorem capN_nil : capN [] = 0 := rfl

set_option maxRecDepth 100000 in
set_option maxHeartbeats 6400000 in
theorem ref2_Parse (l : List UInt8) (hl : l.length ≤ 9223372036854775807) (w : World) :
    Calls Tryz.prog 20 #[.string ⟨l.toArray⟩] w (OutDE w (parseR l).1 (parseR l).2) := by
  obtain ⟨T, hT⟩ : ∃ T : ByteArray, T = ⟨l.toArray⟩ := ⟨_, rfl⟩
  have hTd : T.data.toList = l := by rw [hT]
  have hTs : T.size = l.length := size_eq hTd
  have CC := fun W => ref2_Cut T l W hTd (by omega)
  rw [← hT]
  replace CC := hid CC
  obtain ⟨r, hr⟩ : ∃ r, r = parseR l := ⟨_, rfl⟩
  rw [← hr]
  have HR := hid hr
  clear hT hTd hr
  go_enter Tryz.func20, Tryz.ntmps20
  go_upto_region 1 with fail
  go_cut [4, 5] from 11 (fun v4 v5 w' => ∃ N n A B C d ok, v4 = .pointer (some ⟨N, 0, none⟩) ∧ v5 = .bool ok ∧ w.heap.size < N ∧ Lit5 w' N n A B C d ∧ Rec w' w.heap.size ∧ Below w.heap.size w w' ∧ (if ok = true then cutL l = some (n, A.data.toList, B.data.toList, C.data.toList, d) else cutL l = none))
  case first =>
    as_aux_lemma =>
      go_wp2_with fail
      refine (CC.out _).mono ?_
      rintro e1 w1 ⟨n, A, B, C, d, ok, rfl, hb1, hc1⟩
      have HB1 := hid (below_alloc hb1)
      have hz1 : w.heap.size < w1.heap.size := by have := hb1.size; simp at this; omega
      have R3 := hid (show Rec w1 w.heap.size from Rec.below ⟨_, _, _, _, _, _, by simpa using blk_new w _⟩ hb1)
      have HC1 := hid hc1
      clear hb1 hc1
      go_wp2_with fail
      go_meet
      case rel =>
        have k1 := (Below.refl w1.heap.size w1).alloc (Nat.le_refl _) (.cells #[.bool n, .string A, .string B, .string C, .bool d] 79)
        exact ⟨w1.heap.size, n, A, B, C, d, ok, rfl, rfl, hz1, ⟨_, blk_new w1 _⟩, R3.out.below k1, below_trans HB1.out k1, HC1.out⟩
  case rest =>
    obtain ⟨N, n, A, B, C, d, ok, rfl, rfl, hN, hL, hRc, hB, hc⟩ := hcut
    clear CC
    have HL := hid hL
    have HRC := hid hRc
    have HB := hid hB
    have HC := hid hc
    have R3 := hid hRc.cells
    obtain ⟨r0, r1, r2, p0, p1, p2⟩ := hRc.cells.get
    have f0 := hRc.cells.frozen 0
    have f1 := hRc.cells.frozen 1
    have f2 := hRc.cells.frozen 2
    obtain ⟨k0, k1, k2, k3, k4⟩ := hL.cells
    have hlt := hRc.lt
    have hltN := hL.lt
    clear hL hRc hB hc
    cases ok with
    | false =>
      have HR2 := hid (show r = (zeroD, 2) by
        have := HC.out
        simp only [Bool.false_eq_true, if_false] at this
        rw [HR.out]; unfold parseR; rw [scan_cut, this]; rfl)
      clear HC
      go_wp2
      refine bodyPost_ret (v := .tuple #[decV zeroD none 0, .int .i64 2]) (by simp [results, Tryz.results20, go_sem, p0, p1, p2, decV, zeroD]; rfl) rfl ?_
      rw [HR2.out]
      exact ⟨none, 0, rfl, below_put HB.out (by omega) false none 0 0 0, World.ownsRow_nil _ _ _ _⟩
    | true =>
      have HC2 := hid (show cutL l = some (n, A.data.toList, B.data.toList, C.data.toList, d) by simpa using HC.out)
      clear HC
      by_cases h1000 : 1000 < l.length
      · have HR2 := hid (show r = (zeroD, 3) by
          rw [HR.out]; unfold parseR; rw [scan_cut, HC2.out]
          simp only [Option.map_some]
          rw [if_pos h1000])
        have hgt : (1000 : Int) < T.size := by omega
        clear h1000
        go_wp2
        refine bodyPost_ret (v := .tuple #[decV zeroD none 0, .int .i64 3]) (by simp [results, Tryz.results20, go_sem, p0, p1, p2, decV, zeroD]; rfl) rfl ?_
        rw [HR2.out]
        exact ⟨none, 0, rfl, below_put HB.out (by omega) false none 0 0 0, World.ownsRow_nil _ _ _ _⟩
      · have hle : ¬ (1000 : Int) < T.size := by omega
        have hmeet := parse_meet HC2.out (by omega)
        rw [← HR.out] at hmeet
        obtain ⟨fA, fB, ⟨fC, fCl⟩, fA0, fAB⟩ := cut_facts HC2.out
        have hAs : A.data.toList.length = A.size := rfl
        have hBs : B.data.toList.length = B.size := rfl
        have hCs : C.data.toList.length = C.size := rfl
        have hA1 : 1 ≤ A.size := by
          rcases Nat.eq_zero_or_pos A.size with h | h
          · exact absurd (List.eq_nil_of_length_eq_zero (hAs.trans h)) fA0
          · exact h
        have hin : ∀ k, (hk : k < C.size) → ∃ c : Nat, 48 ≤ c ∧ c ≤ 57 ∧ c - 48 = (C.data.toList[k]'hk).toNat - 48 ∧ ∀ W, (Instr.index 9 (.string C) (.int .i64 (k : Int))).run Tryz.prog W = .ok (.int .u8 (c : Int)) W := by
          intro k hk
          have hb := byte_get C fC k hk
          exact ⟨(C[k]'hk).toNat, hb.1, hb.2, rfl, index_byte (by omega) hk rfl⟩
        have HIN := hid hin
        have fAB' : Digs (A ++ B).data.toList := by rw [append_data]; exact fun c hc => (List.mem_append.1 hc).elim (fA c) (fB c)
        have hABs : (A ++ B).size = A.size + B.size := by
          have : (A ++ B).data.toList.length = A.data.toList.length + B.data.toList.length := by rw [append_data, List.length_append]
          exact this
        have CP := fun W => ref1_Parse (A ++ B) W fAB' (by omega) (by omega)
        rw [append_data] at CP
        have hPl := digs_num10 (A.data.toList ++ B.data.toList) (by rw [← append_data]; exact fAB') 1000 (by rw [List.length_append]; omega)
        obtain ⟨P, hP⟩ : ∃ P, P = num10 (A.data.toList ++ B.data.toList) 0 := ⟨_, rfl⟩
        rw [← hP] at CP hmeet hPl
        replace CP := hid CP
        replace hmeet := hid hmeet
        replace hP := hid hP
        clear hin fA fB fC fA0 HC2 HR h1000 fAB'
        obtain ⟨cap, hcap⟩ : ∃ x, x = capN C.data.toList := ⟨_, rfl⟩
        have hcapl : cap ≤ 100000 := by rw [hcap]; exact capN_le _
        replace hcap := hid hcap
        obtain ⟨E, hE⟩ : ∃ E : Int, E = (if d = true then -(cap : Int) else (cap : Int)) := ⟨_, rfl⟩
        have hEb : -100000 ≤ E ∧ E ≤ 100000 := by rw [hE]; split <;> omega
        rw [← hcap.out, ← hE] at hmeet
        replace hmeet := hid hmeet.out
        go_upto_block 0 with fail
        go_cut [6, 7] from 22 (fun v6 _ w' => v6 = .int .i64 cap ∧ w' = wc)
        case first =>
          as_aux_lemma =>
            go_wp2_with fail
            go_loopw [6, 7] (fun v i wr => ∃ k : Nat, k ≤ C.size ∧ i = .int .i64 k ∧ v = .int .i64 (capN (C.data.toList.take k)) ∧ wr = wc) (fun _ i _ => C.size - (intOf i).toNat)
            case atStart => exact ⟨0, Nat.zero_le _, rfl, rfl, rfl⟩
            case round =>
              obtain ⟨k, hk, rfl, rfl, rfl⟩ := hrel
              by_cases hlt2 : k < C.size
              · obtain ⟨c, c1, c2, c3, hix⟩ := HIN.out k hlt2
                have hlt3 : (k : Int) < C.size := by omega
                have hst := capN_step (e := capN (C.data.toList.take k)) (d := c - 48) hlt2 c3 rfl
                obtain ⟨e, he⟩ : ∃ e, e = capN (C.data.toList.take k) := ⟨_, rfl⟩
                have hel : e ≤ 100000 := by rw [he]; exact capN_le _
                rw [← he] at hst ⊢
                replace hst := hid hst
                replace he := hid he
                replace c3 := hid c3
                by_cases hbig : 100000 < 10 * e + (c - 48)
                · have hbig2 : (100000 : Int) < 10 * (e : Int) + ((c : Int) - 48) := by omega
                  have HS : Hid (capN (C.data.toList.take (k + 1)) = 100000) := by show _ = _; rw [hst.out, if_pos hbig]
                  clear hbig
                  go_wp2_with fail
                  go_roundw
                  case rel => exact ⟨k + 1, by omega, by go_num, by rw [HS.out]; rfl, by trivial⟩
                  case measure => simp [intOf]; omega
                · have hbig2 : ¬ (100000 : Int) < 10 * (e : Int) + ((c : Int) - 48) := by omega
                  have HS : Hid (capN (C.data.toList.take (k + 1)) = 10 * e + (c - 48)) := by show _ = _; rw [hst.out, if_neg hbig]
                  clear hbig
                  go_wp2_with fail
                  go_roundw
                  case rel => exact ⟨k + 1, by omega, by go_num, by rw [HS.out]; go_num, by trivial⟩
                  case measure => simp [intOf]; omega
              · obtain rfl : k = C.size := by omega
                have hcp : capN (C.data.toList.take C.size) = cap := by rw [← hCs, List.take_length, hcap.out]
                rw [hcp]
                have hnl : ¬ ((C.size : Nat) : Int) < C.size := by omega
                go_wp2_with fail
                go_meet
                case rel => exact ⟨rfl, rfl⟩
        case rest =>
          obtain ⟨rfl, rfl⟩ := hcut
          go_upto_if 41 with fail
          go_cut [6] from 42 (fun v6 w' => v6 = .int .i64 E ∧ w' = wc)
          case first =>
            as_aux_lemma =>
              cases d with
              | true =>
                have hE2 : E = -(cap : Int) := by rw [hE]; simp
                replace hE := hid hE
                go_wp2_with fail
                go_meet
                case rel => exact ⟨by rw [hE2], rfl⟩
              | false =>
                have hE2 : E = (cap : Int) := by rw [hE]; simp
                replace hE := hid hE
                go_wp2_with fail
                go_meet
                case rel => exact ⟨by rw [hE2], rfl⟩
          case rest =>
            obtain ⟨rfl, rfl⟩ := hcut
            replace hE := hid hE
            go_upto_region 15 with fail
            go_cut [8] from 44 (fun v8 w' => ∃ am cm, v8 = .slice am (Num.digs 10 P).length cm ∧ Below wc.heap.size wc w' ∧ U8 w' am (Num.digs 10 P) ∧ (Num.digs 10 P).length ≤ cm ∧ cm ≤ 9223372036854775807 ∧ (am = none → cm = 0))
            case first =>
              as_aux_lemma =>
                go_wp2_with fail
                refine (CP.out _).mono ?_
                rintro e1 w1 ⟨am, cm, rfl, hb1, hu1⟩
                have HB1 := hid hb1
                have HU1 := hid hu1
                clear hb1 hu1
                go_wp2_with fail
                go_meet
                case rel => exact ⟨am, cm, rfl, HB1.out, HU1.out⟩
            case rest =>
              obtain ⟨am, cm, rfl, hb, hu⟩ := hcut
              have hrc := HRC.out.below hb
              have hll := HL.out.below hb
              have HBW := hid (below_trans HB.out hb)
              have hlt' : w.heap.size < wc.heap.size := hrc.lt
              clear HL HRC R3 p0 p1 p2 f0 f1 f2 k0 k1 k2 k3 k4 hlt hltN HB hb CP HIN
              obtain ⟨k0, k1, k2, k3, k4⟩ := hll.cells
              have hltN := hll.lt
              have HRC := hid hrc
              rw [hBs] at hmeet
              obtain ⟨D0, hD0⟩ : ∃ x, x = plainD n P (E - (B.size : Nat)) := ⟨_, rfl⟩
              have CM := fun W (hW : Below wc.heap.size wc W) => ref2_Make n am cm P (E - (B.size : Nat)) W (hu.1.below hW) hu.2.1 hu.2.2.1 (by omega) (by omega)
              have hdm : (Num.digs 10 D0.m).length ≤ 1000 := Nat.le_trans (Num.digs_length_mono (by decide) (by rw [hD0]; exact plain_m_le _ _ _)) hPl
              have hdE : -3000000 ≤ D0.e ∧ D0.e ≤ 3000000 := by
                rw [hD0]
                have htz := tz_le P
                unfold plainD
                split
                · simp
                · simp only; omega
              rw [← hD0] at hmeet CM
              have CE := fun W (ap : Option Addr) (cp : Nat) (hi : RdD W D0 ap cp) => ref2_Tell D0 ap cp W hi.1 (by omega) (by omega)
              obtain ⟨t, ht⟩ : ∃ t, t = tellR D0 := ⟨_, rfl⟩
              rw [← ht] at CE hmeet
              unfold OutRD refV at CM
              unfold OutDE refV decV at CE
              replace CM := hid CM
              replace CE := hid CE
              clear hdm hdE ht hD0 hu hll hrc
              go_wp2_with fail
              refine (CM.out _ (Below.refl _ _)).mono ?_
              rintro e1 w1 ⟨ap, cp, rfl, hb1, hu1⟩
              have HB1 := hid hb1
              have HU1 := hid hu1
              clear hu1
              go_wp2_with fail
              refine (CE.out _ _ _ HU1.out).mono ?_
              rintro e2 w2 ⟨a3, c3, rfl, ho3⟩
              have hb2 := ho3.1
              have hz1 := hb1.size
              have hz2 := hb2.size
              have HB2 := hid (below_trans HBW.out (below_trans hb1 hb2))
              have hr2 := (HRC.out.below hb1).below hb2
              obtain ⟨_, _, _, p0, p1, p2⟩ := hr2.cells.get
              have f0 := hr2.cells.frozen 0
              have f1 := hr2.cells.frozen 1
              have f2 := hr2.cells.frozen 2
              have HO := hid (owns_mono (owns_set3 (R := w.heap.size) ho3.2 (by omega) (.bool t.1.neg) (.slice a3 (Num.limbs t.1.m).length c3) (.int .i64 t.1.e)) (show w.heap.size ≤ _ by omega))
              clear ho3 hb1 hb2 hr2 CM CE
              go_wp2_with fail
              refine bodyPost_ret (v := .tuple #[decV t.1 a3 c3, .int .i64 t.2]) (by simp [results, Tryz.results20, go_sem, p0, p1, p2, decV]) rfl ?_
              rw [hmeet.out]
              exact ⟨a3, c3, rfl, below_put HB2.out (Nat.le_refl _) _ _ _ _ _, HO.out⟩

end Go.Proofs.YtmdgciolnpkccaaGreatDoor
