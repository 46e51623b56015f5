/- The document's answer, twelfth part: texts. The document's answer, twelfth part, continued: Whole and Text of numbers. -/
import Derived.Test.YtldhebpkplglcaaGreatDoorMg
import Derived.Test.YtldhebpkplglcaaGreatDoorMi
import Derived.Test.YtldhebpkplglcaaGreatDoorMc
import Derived.Laws.BytesString
namespace Go.Proofs.YtldhebpkplglcaaGreatDoor
open Go.RowKit

/-- Bytes as they lie in cells. -/
def bys (l : List UInt8) : List Value := l.map fun c => Value.int .u8 c.toNat
@[simp] theorem length_bys (l : List UInt8) : (bys l).length = l.length := by simp [bys]
theorem bys_get (l : List UInt8) (j : Nat) (hj : j < l.length) : (bys l)[j]? = some (.int .u8 (l[j].toNat : Int)) := by simp [bys, hj]
theorem byteSlice : SliceOf Tryz.prog 77 5 (.int .u8 0) 1 := ⟨Tryz.underlying77, by kernel_rfl, rfl⟩
/-- What is laid down of a text, from its end on. -/
def txtL (ds : List Nat) (n k : Nat) : List UInt8 := List.replicate (n - k) 0 ++ ((ds.take k).map Num.chr).reverse
theorem txtL_length (ds : List Nat) (n k : Nat) (hk : k ≤ n) (hn : ds.length = n) : (txtL ds n k).length = n := by simp [txtL]; omega
theorem txtL_set (ds : List Nat) (n k : Nat) (hk : k < n) (hn : ds.length = n) : (txtL ds n k).set (n - 1 - k) (Num.chr (ds.getD k 0)) = txtL ds n (k + 1) := by
  unfold txtL
  have e1 : List.replicate (n - k) (0 : UInt8) = List.replicate (n - (k + 1)) 0 ++ [0] := by
    rw [show n - k = (n - (k + 1)) + 1 by omega, List.replicate_succ']
  have e2 : ds.take (k + 1) = ds.take k ++ [ds.getD k 0] := by
    rw [List.take_add_one, List.getElem?_eq_getElem (by omega)]
    simp [show k < ds.length by omega]
  rw [e1, e2]
  simp only [List.map_append, List.reverse_append, List.map_cons, List.map_nil, List.reverse_cons, List.reverse_nil, List.nil_append, List.append_assoc]
  rw [List.set_append_right _ _ (by simp; omega)]
  have : n - 1 - k - (List.replicate (n - (k + 1)) (0 : UInt8)).length = 0 := by simp; omega
  rw [this]
  rfl

set_option maxRecDepth 100000 in
set_option maxHeartbeats 1600000 in
theorem r_Text_some (b off n cap m : Nat) (w : World) (hn : (Num.digs 10 m).length = n) (h0 : m ≠ 0) (h : U8 w (some ⟨b, off, none⟩) (Num.digs 10 m)) (hl : n ≤ 1000000) :
    Calls Tryz.prog 122 #[.slice (some ⟨b, off, none⟩) n cap] w fun e w' => e = .returned (.string ⟨(Lib.decDigits m).toArray⟩) ∧ Below w.heap.size w w' := by
  have hT : Lib.decDigits m = ((Num.digs 10 m).map Num.chr).reverse := Num.decDigits_digs m h0
  rw [hT]
  have hpos : 0 < n := by rw [← hn]; exact Num.length_pos (by decide) h0
  obtain ⟨ds, hds⟩ : ∃ ds, ds = Num.digs 10 m := ⟨_, rfl⟩
  rw [← hds] at h hn ⊢
  have C1 := fun j (hj : j < n) => h.row.u8 (j := j) (by omega)
  have BX := fun k => h.getD_lt k
  have HN := hid hn
  replace C1 := hid C1
  replace BX := hid BX
  have hz : ((n : Int) == 0) = false := by rw [beq_eq_false_iff_ne]; omega
  have HCV : Hid (∀ W (l : List UInt8), l.length = n → (∀ j (hj : j < l.length), W.cell? ⟨w.heap.size, j, none⟩ = some (.int .u8 (l[j].toNat : Int))) → (convert 77 9 (.slice (some ⟨w.heap.size, 0, none⟩) n n)).run Tryz.prog W = .ok (.string ⟨l.toArray⟩) W) := by
    intro W l hl hc
    have := run_convert_bytes_back (P := Tryz.prog) W 77 9 5 ⟨w.heap.size, 0, none⟩ n l Tryz.underlying77 Tryz.underlying5 Tryz.underlying9 (fun j hj => by rw [Addr.add_lit, Nat.zero_add]; exact hc j hj)
    rw [hl] at this; exact this
  clear h hn hds hT h0
  go_enter Tryz.func122, Tryz.ntmps122
  go_wp2_with (at_make; refine wpList_full byteSlice rfl _ _ rfl n rfl rfl rfl rfl (by omega) (by unfold maxLen; omega) ?_; intro w1 hown hb1)
  have HO := hid hown
  have HB1 := hid hb1
  clear hown hb1
  go_loopw [4] (fun i wr => ∃ k : Nat, k ≤ n ∧ i = .int .i64 k ∧ wr.ownsRow w.heap.size 5 1 (.slice (some ⟨w.heap.size, 0, none⟩) n n) n (bys (txtL ds n k)) ∧ Below w.heap.size w wr) (fun i _ => n - (intOf i).toNat)
  case atStart => exact ⟨0, Nat.zero_le _, rfl, by simpa [txtL, bys] using HO.out, HB1.out⟩
  case round =>
    clear HO HB1
    obtain ⟨k, hk, rfl, hown, hb⟩ := hrel
    have HO := hid hown
    have HB := hid hb
    clear hown hb
    by_cases hlt : k < n
    · have g0 := C1.out k hlt
      have bx := BX.out k
      have hst := txtL_set ds n k hlt HN.out
      have hlen := txtL_length ds n k hk HN.out
      obtain ⟨x, hx⟩ : ∃ x, x = ds.getD k 0 := ⟨_, rfl⟩
      rw [← hx] at hst bx
      have g1 : wr.cell? ⟨b, off + k, none⟩ = some (.int .u8 (x : Int)) := by rw [hx]; exact (HB.out.cell (cell_lt g0)).trans g0
      have hs := HO.out.stored (n - 1 - k) (.int .u8 (48 + (x : Int)))
      have hf := HO.out.frozenAt (n - 1 - k)
      have hc := HO.out.cellAt (n - 1 - k) (by omega)
      have hold : ∃ u, wr.cell? ⟨w.heap.size, n - 1 - k, none⟩ = some (.int .u8 u) := by
        rw [hc]
        exact ⟨((txtL ds n k)[n - 1 - k]'(by omega)).toNat, by simp [bys, show n - 1 - k < (txtL ds n k).length by omega]⟩
      obtain ⟨u, hold⟩ := hold
      have hset : (bys (txtL ds n k)).set (n - 1 - k) (.int .u8 (48 + (x : Int))) = bys (txtL ds n (k + 1)) := by
        rw [← hst]
        unfold bys
        rw [List.map_set]
        congr 1
        unfold Num.chr
        simp
        omega
      rw [hset] at hs
      have HS := hid hs
      have w1 : ((n : Int) - 1 - k) = ((n - 1 - k : Nat) : Int) := by omega
      have hp : n - 1 - k < n := by omega
      obtain ⟨p, hpe⟩ : ∃ p, p = n - 1 - k := ⟨_, rfl⟩
      rw [← hpe] at w1 hp hold hf HS
      clear hx hst hlen g0 hs hc hset hpe
      go_wp2_with fail
      go_roundw
      case rel => exact ⟨k + 1, by omega, by go_num, HS.out.1, HB.out.grown HS.out.2 HB.out.size (fun j hj => by injection hj with hj; omega)⟩
      case measure => simp [intOf]; omega
    · obtain rfl : n = k := by omega
      have hT : txtL ds n n = (ds.map Num.chr).reverse := by
        unfold txtL; rw [Nat.sub_self, List.take_of_length_le (by have := HN.out; omega)]; simp
      have hlen := txtL_length ds n n (Nat.le_refl _) HN.out
      rw [hT] at hlen
      have ho := HO.out
      rw [hT] at ho
      have hconv := HCV.out wr (ds.map Num.chr).reverse hlen (fun j hj => by
        rw [ho.cellAt j (by omega)]
        exact bys_get _ _ hj)
      clear ho
      clear hlt hT hlen
      go_wp2
      go_ret
      exact ⟨rfl, HB.out⟩

theorem ref1_Text (a : Option Addr) (cap m : Nat) (w : World) (h : U8 w a (Num.digs 10 m)) (hl : (Num.digs 10 m).length ≤ 1000000) :
    Calls Tryz.prog 122 #[.slice a (Num.digs 10 m).length cap] w fun e w' => e = .returned (.string ⟨(Lib.decDigits m).toArray⟩) ∧ Below w.heap.size w w' := by
  by_cases h0 : m = 0
  · subst h0
    rw [Num.decDigits_zero]
    show Calls Tryz.prog 122 #[.slice a 0 cap] w _
    clear h hl
    go_enter Tryz.func122, Tryz.ntmps122
    go_wp2
    go_ret
    exact ⟨rfl, Below.refl _ _⟩
  · obtain ⟨b, off, rfl⟩ := h.isSome (fun e => h0 ((Num.digs_eq_nil (by decide)).1 e))
    exact r_Text_some b off _ cap m w rfl h0 h hl

/-- So many noughts. -/
theorem ref2_noughts (n : Nat) (w : World) (hn : n ≤ 1000000) :
    Calls Tryz.prog 124 #[.int .i64 n] w fun e w' => e = .returned (.string ⟨(List.replicate n 48).toArray⟩) ∧ w = w' := by
  go_enter Tryz.func124, Tryz.ntmps124
  go_wp2
  go_loop [3, 4] (fun s i => ∃ k : Nat, k ≤ n ∧ i = .int .i64 k ∧ ∃ t : ByteArray, s = .string t ∧ t.data.toList = List.replicate k 48) (fun _ i => n - (intOf i).toNat)
  case atStart => exact ⟨0, Nat.zero_le _, rfl, _, rfl, rfl⟩
  case round =>
    obtain ⟨k, hk, rfl, t, rfl, ht⟩ := hrel
    have HT := hid ht
    clear ht
    have hsz : t.size ≤ 1000000 := by rw [size_eq HT.out]; simp; omega
    by_cases hlt : k < n
    · go_wp2
      go_round
      case rel => exact ⟨k + 1, by omega, by go_num, _, rfl, by rw [append_data, HT.out, List.replicate_succ']⟩
      case measure => simp [intOf]; omega
    · obtain rfl : n = k := by omega
      go_wp2
      go_ret
      exact ⟨ret_str HT.out, rfl⟩

end Go.Proofs.YtldhebpkplglcaaGreatDoor

namespace Go.Proofs.YtldhebpkplglcaaGreatDoor
open Go.RowKit

theorem whole_pos (n : Nat) (w : World) (hn : n ≤ 1000000) :
    Calls Tryz.prog 125 #[.int .i64 n] w fun e w' => e = .returned (.string ⟨(Lib.decDigits n).toArray⟩) ∧ Below w.heap.size w w' := by
  have CS := ref1_Small n w (by omega)
  have CT := fun W b c (h : U8 W b (Num.digs 10 n)) => ref1_Text b c n W h (by have : (Num.digs 10 n).length ≤ 7 := (Num.digs_length_le (by decide)).2 (by omega); omega)
  replace CS := hid CS
  replace CT := hid CT
  go_enter Tryz.func125, Tryz.ntmps125
  go_wp2_with fail
  refine (CS.out).mono ?_
  rintro e1 w1 ⟨b1, c1, rfl, hb1, ho1⟩
  have HU := hid (u8_of ho1 (digs_ten_lt n))
  have HB := hid hb1
  clear hb1 ho1 CS
  go_wp2_with fail
  refine (CT.out _ _ _ HU.out).mono ?_
  rintro e2 w2 ⟨rfl, hb2⟩
  have HB2 := hid (below_trans HB.out hb2)
  clear hb2
  go_wp2
  go_ret
  exact ⟨rfl, HB2.out⟩
theorem whole_neg (n : Nat) (w : World) (hn1 : 1 ≤ n) (hn : n ≤ 1000000) :
    Calls Tryz.prog 125 #[.int .i64 (-(n : Int))] w fun e w' => e = .returned (.string ⟨(45 :: Lib.decDigits n).toArray⟩) ∧ Below w.heap.size w w' := by
  have CW := whole_pos n w hn
  obtain ⟨S, hS⟩ : ∃ S : ByteArray, S = ⟨(Lib.decDigits n).toArray⟩ := ⟨_, rfl⟩
  have hd : (Lib.decDigits n).length ≤ 7 := Num.decDigits_le n 7 (by decide) (by omega)
  have hS2 : S.data.toList = Lib.decDigits n := by rw [hS]
  rw [← hS] at CW
  have hsz : S.size ≤ 7 := by rw [size_eq hS2]; exact hd
  replace CW := hid CW
  have HS := hid hS2
  clear hS hS2 hd
  have hneg : - -(n : Int) = n := by omega
  go_enter Tryz.func125, Tryz.ntmps125
  go_wp2_with fail
  refine (CW.out).mono ?_
  rintro e1 w1 ⟨rfl, hb1⟩
  have HB := hid hb1
  clear hb1 CW
  go_wp2
  go_ret
  exact ⟨ret_str (by rw [append_data, HS.out]; rfl), HB.out⟩
theorem ref2_Whole (h : Int) (w : World) (h1 : -1000000 ≤ h) (h2 : h ≤ 1000000) :
    Calls Tryz.prog 125 #[.int .i64 h] w fun e w' => e = .returned (.string ⟨(Lib.itoa h).toArray⟩) ∧ Below w.heap.size w w' := by
  by_cases hn : 0 ≤ h
  · obtain ⟨n, rfl⟩ : ∃ n : Nat, h = n := ⟨h.toNat, by omega⟩
    have := whole_pos n w (by omega)
    rw [show Lib.itoa (n : Int) = Lib.decDigits n by unfold Lib.itoa; rw [if_neg (by omega)]; simp]
    exact this
  · obtain ⟨n, rfl⟩ : ∃ n : Nat, h = -(n : Int) := ⟨(-h).toNat, by omega⟩
    have := whole_neg n w (by omega) (by omega)
    rw [show Lib.itoa (-(n : Int)) = 45 :: Lib.decDigits n by unfold Lib.itoa; rw [if_pos (by omega)]; simp]
    exact this

/-- How the document's answer lays out digits. -/
def figR (m : List UInt8) (exp h : Int) : List UInt8 :=
  if 0 ≤ exp ∧ h ≤ 20 then m ++ List.replicate exp.toNat 48
  else if exp < 0 ∧ 0 ≤ h then m.take (h + 1).toNat ++ 46 :: m.drop (h + 1).toNat
  else if exp < 0 ∧ -7 ≤ h then [48, 46] ++ List.replicate (-h - 1).toNat 48 ++ m
  else (if 1 < m.length then m.take 1 ++ 46 :: m.drop 1 else m) ++ 101 :: Lib.itoa h
theorem figR_eq (m : List UInt8) (exp h : Int) (_hm : 1 ≤ m.length) (hh : h = exp + m.length - 1) : figR m exp h = figL m exp h := by
  unfold figR figL
  by_cases c1 : 0 ≤ exp ∧ h ≤ 20
  · rw [if_pos c1, if_pos c1]
  · rw [if_neg c1, if_neg c1]
    by_cases c2 : exp < 0 ∧ 0 ≤ h
    · rw [if_pos c2, if_pos ⟨c2.1, by omega⟩]
      have e1 : (1 - exp - m.length).toNat = 0 := by omega
      have e2 : (((List.replicate 0 (48 : UInt8) ++ m).length : Int) + exp).toNat = (h + 1).toNat := by simp; omega
      simp only [e1]
      rw [e2]
      simp
    · rw [if_neg c2]
      by_cases c3 : exp < 0 ∧ -7 ≤ h
      · rw [if_pos c3, if_pos c3]
        obtain ⟨k, hk⟩ : ∃ k : Nat, (1 - exp - m.length).toNat = k + 1 := ⟨(1 - exp - m.length).toNat - 1, by omega⟩
        have e1 : (-h - 1).toNat = k := by omega
        have e2 : (((List.replicate (k + 1) (48 : UInt8) ++ m).length : Int) + exp).toNat = 1 := by simp; omega
        simp only [hk]
        rw [e1, e2]
        simp [List.replicate_succ]
      · rw [if_neg c3, if_neg c3]


set_option maxRecDepth 100000 in
set_option maxHeartbeats 6400000 in
theorem ref2_Text (g : Bool) (a : Option Addr) (cap : Nat) (e : Int) (xs : List Nat) (w : World) (h : U32 w a xs) :
    Calls Tryz.prog 80 #[.agg #[.bool g, .slice a xs.length cap, .int .i64 e]] w
      (OutSE w (if takenE g xs.length (Num.worth xs) e = 0 then textL (takenD g xs.length (Num.worth xs) e) else []) (takenE g xs.length (Num.worth xs) e)) := by
  have CT := fun W (hb : Below w.heap.size w W) => ref2_Take g a cap e xs W (h.below hb)
  have bd := taken_bounds (g := g) (e := e) h.lt
  obtain ⟨d, hd⟩ : ∃ d, d = takenD g xs.length (Num.worth xs) e := ⟨_, rfl⟩
  obtain ⟨er, her⟩ : ∃ r, r = takenE g xs.length (Num.worth xs) e := ⟨_, rfl⟩
  rw [← hd, ← her] at CT ⊢
  rw [← hd] at bd
  obtain ⟨n, hn⟩ : ∃ n, n = xs.length := ⟨_, rfl⟩
  rw [← hn] at CT ⊢
  obtain ⟨V, hV⟩ : ∃ V, V = (if er = 0 then textL d else []) := ⟨_, rfl⟩
  rw [← hV]
  replace CT := hid CT
  replace bd := hid bd
  replace hV := hid hV
  clear h hd her hn
  go_enter Tryz.func80, Tryz.ntmps80
  go_upto_region 1 with fail
  go_cut [4, 5] from 6 (fun v4 v5 w' => ∃ N b c, v4 = .pointer (some ⟨N, 0, none⟩) ∧ v5 = .int .i64 er ∧ HasR w' N d b c ∧ RdD w' d b c ∧ Below w.heap.size w w')
  case first =>
    go_wp2_with fail
    refine (CT.out _ ((Below.refl _ _).alloc (Nat.le_refl _) _)).mono ?_
    rintro e1 w1 ⟨b1, c1, rfl, hb1, hr1⟩
    have HB1 := hid (below_alloc hb1)
    have HI := hid hr1
    clear hb1 hr1 CT
    unfold refV
    go_wp2_with fail
    go_meet
    case rel =>
      have k1 := (Below.refl w1.heap.size w1).alloc (Nat.le_refl _) (.cells #[.bool d.neg, .slice b1 (Num.digs 10 d.m).length c1, .int .i64 d.e] 168)
      exact ⟨w1.heap.size, b1, c1, rfl, rfl, HasR.new _ _ _ _ _, HI.out.below k1, below_trans HB1.out k1⟩
  case rest =>
    obtain ⟨N, b, c, rfl, rfl, hblk, hrd, hb⟩ := hcut
    obtain ⟨⟨k0, k1, k2⟩, _⟩ := hblk.get
    have z0 := hblk.lt
    have HRD := hid hrd
    have HB := hid hb
    have HBK := hid hblk
    clear hblk hrd hb CT
    by_cases h0 : er = 0
    · have hne : ((er : Int) != 0) = false := by rw [bne_eq_false_iff_eq]; omega
      have HE := hid h0
      have hV1 := hid (show V = textL d by rw [hV.out, if_pos h0])
      clear h0 hV
      have zd : (Num.digs 10 d.m).length = 0 ↔ d.m = 0 := by rw [List.length_eq_zero_iff]; exact Num.digs_eq_nil (by decide)
      by_cases hm0 : d.m = 0
      · have HV := hid (show V = [48] by rw [hV1.out]; unfold textL; rw [if_pos hm0])
        rw [zd.2 hm0] at k1
        clear hm0 zd hV1
        go_wp2
        go_ret2
        exact ⟨by rw [HV.out, HE.out]; rfl, HB.out⟩
      · have HV := hid (show V = (if d.neg = true then [45] else []) ++ figR (Lib.decDigits d.m) d.e (headD d) by
          rw [hV1.out]; unfold textL; rw [if_neg hm0, figR_eq _ _ _ (Num.decDigits_pos _) (by rw [Num.decDigits_len _ hm0]; rfl)]; rfl)
        have hl0 : (((Num.digs 10 d.m).length : Int) == 0) = false := by rw [beq_eq_false_iff_ne]; have := zd; omega
        have CX := fun W (hb : Below wc.heap.size wc W) => ref1_Text b c d.m W (HRD.out.1.below hb) (by have := bd.out; omega)
        have CH := fun W => ref2_Head d b c W (by have := bd.out; omega) (by have := bd.out; omega)
        have hln : (Lib.decDigits d.m).length = (Num.digs 10 d.m).length := Num.decDigits_len _ hm0
        obtain ⟨S, hS⟩ : ∃ S : ByteArray, S = ⟨(Lib.decDigits d.m).toArray⟩ := ⟨_, rfl⟩
        rw [← hS] at CX
        obtain ⟨m, hm⟩ : ∃ m, m = Lib.decDigits d.m := ⟨_, rfl⟩
        have hS2 : S.data.toList = m := by rw [hS, hm]
        rw [← hm] at HV hln
        obtain ⟨H, hH⟩ : ∃ H, H = headD d := ⟨_, rfl⟩
        rw [← hH] at CH HV
        have hHb : H = d.e + m.length - 1 := by rw [hH, hln]; rfl
        have hsz : S.size = m.length := size_eq hS2
        have hml : 1 ≤ m.length ∧ m.length ≤ 400 := by rw [hm]; have := Num.decDigits_pos d.m; have := bd.out; rw [← hm] at *; omega
        have hee := bd.out.2
        have CW := fun W => ref2_Whole H W (by omega) (by omega)
        have CN := fun (k : Nat) (hk : k ≤ 1000000) W => ref2_noughts k W hk
        unfold refV at CH
        replace CX := hid CX
        replace CH := hid CH
        replace CW := hid CW
        replace CN := hid CN
        have HS := hid hS2
        have HSZ := hid hsz
        have HHB := hid hHb
        have hsz1 : 1 ≤ S.size := by omega
        have hsz2 : S.size ≤ 400 := by omega
        have hHr : -10500 ≤ H ∧ H ≤ 10500 := by omega
        obtain ⟨gd, md, ed⟩ := d
        simp only at k0 k1 k2 HV hee HHB hl0 CH
        clear hm0 zd hV1 hS hm hS2 hH hsz hml hln hHb
        go_wp2_with fail
        refine (CX.out _ (Below.refl _ _)).mono ?_
        rintro e1 w1 ⟨rfl, hb1⟩
        replace HB := hid (below_trans HB.out hb1)
        replace HBK := hid (HBK.out.below hb1)
        clear hb1 k0 k1 k2 z0 CX HRD
        obtain ⟨⟨k0, k1, k2⟩, _⟩ := HBK.out.get
        go_wp2_with fail
        refine (CH.out _).mono ?_
        rintro e2 w2 ⟨rfl, hb2⟩
        replace HB := hid (below_trans HB.out hb2)
        replace HBK := hid (HBK.out.below hb2)
        clear hb2 k0 k1 k2 CH
        obtain ⟨⟨k0, k1, k2⟩, _⟩ := HBK.out.get
        obtain ⟨wl, rfl⟩ : ∃ wl : World, wl = w2 := ⟨_, rfl⟩
        have hNo : ∀ k : Nat, k ≤ 20000 → ∃ Z : ByteArray, Z.data.toList = List.replicate k 48 ∧ Z.size ≤ 20000 ∧ Hid (∀ W : World, Calls Tryz.prog 124 #[.int .i64 (k : Int)] W fun e w' => e = .returned (.string Z) ∧ W = w') := by
          intro k hk
          exact ⟨⟨(List.replicate k 48).toArray⟩, rfl, by show (List.replicate k (48 : UInt8)).toArray.size ≤ 20000; simp; exact hk, fun W => CN.out k (by omega) W⟩
        obtain ⟨Y, hY⟩ : ∃ Y : ByteArray, Y = ⟨(Lib.itoa H).toArray⟩ := ⟨_, rfl⟩
        have hY1 : Y.data.toList = Lib.itoa H := by rw [hY]
        have hY2 : Y.size ≤ 8 := by rw [size_eq hY1]; exact itoa_len H (by omega)
        rw [← hY] at CW
        have HY := hid hY1
        have HNO := hid hNo
        clear hY hY1 hNo CN hee
        have hed : -10400 ≤ ed ∧ ed ≤ 10001 := bd.out.2
        by_cases c1 : 0 ≤ ed
        · by_cases c2 : H ≤ 20
          · obtain ⟨k, rfl⟩ : ∃ k : Nat, ed = k := ⟨ed.toNat, by omega⟩
            have HF := hid (show figR m (k : Int) H = m ++ List.replicate k 48 by unfold figR; rw [if_pos ⟨c1, c2⟩]; simp)
            obtain ⟨Z, hz1, hz2, CZ⟩ := HNO.out k (by omega)
            have HZ := hid hz1
            clear hz1
            go_upto_if 32 with fail
            go_cut [8] from 24 (fun v8 w' => Below wl.heap.size wl w' ∧ HasR w' N ⟨gd, md, (k : Int)⟩ b c ∧ ∃ X : ByteArray, v8 = .string X ∧ X.data.toList = figR m (k : Int) H ∧ X.size ≤ 40000)
            case first =>
              go_wp2_with fail
              refine (CZ.out _).mono ?_
              rintro e3 w3 ⟨rfl, rfl⟩
              go_wp2_with fail
              go_meet
              case rel => exact ⟨Below.refl _ _, HBK.out, _, rfl, by rw [append_data, HS.out, HZ.out, HF.out], by simp only [ByteArray.size_append]; omega⟩
            case rest =>
              obtain ⟨hb3, hbk3, X, rfl, hX, hX2⟩ := hcut
              have HX := hid hX
              have HB3 := hid (below_trans HB.out hb3)
              clear hX hb3 k0 k1 k2
              obtain ⟨⟨k0, k1, k2⟩, _⟩ := hbk3.get
              cases gd with
              | false =>
                have e1 : X = ⟨V.toArray⟩ := bytes_ext (by rw [HX.out, HV.out]; rfl)
                have E1 := hid e1
                clear e1
                go_wp2
                go_ret2
                exact ⟨by rw [HE.out, ← E1.out]; rfl, HB3.out⟩
              | true =>
                have e1 : (⟨#[45]⟩ : ByteArray) ++ X = ⟨V.toArray⟩ := bytes_ext (by rw [append_data, HX.out, HV.out]; rfl)
                have E1 := hid e1
                clear e1
                go_wp2
                go_ret2
                exact ⟨by rw [HE.out, ← E1.out]; rfl, HB3.out⟩
          · have HF := hid (show figR m ed H = (if 1 < m.length then m.take 1 ++ 46 :: m.drop 1 else m) ++ 101 :: Lib.itoa H by unfold figR; rw [if_neg (by omega), if_neg (by omega), if_neg (by omega)])
            have c3 : ¬ ed < 0 := by omega
            by_cases c6 : 1 < S.size
            · have c7 : (1 : Int) < S.size := by omega
              have HF2 := hid (show figR m ed H = m.take 1 ++ 46 :: m.drop 1 ++ 101 :: Lib.itoa H by rw [HF.out, if_pos (by rw [← HSZ.out]; exact c6)])
              go_upto_if 32 with fail
              go_cut [8] from 24 (fun v8 w' => Below wl.heap.size wl w' ∧ HasR w' N ⟨gd, md, ed⟩ b c ∧ ∃ X : ByteArray, v8 = .string X ∧ X.data.toList = figR m ed H ∧ X.size ≤ 40000)
              case first =>
                go_wp2_with fail
                refine (CW.out _).mono ?_
                rintro e3 w3 ⟨rfl, hb3⟩
                have HB3 := hid hb3
                clear hb3
                go_wp2_with fail
                go_meet
                case rel => exact ⟨HB3.out, HBK.out.below HB3.out, _, rfl, by rw [append_data, append_data, append_data, append_data, Lib.extract_data, Lib.extract_data, HS.out, HY.out, HF2.out]; have := HSZ.out; simp [this]; rw [List.take_of_length_le (by simp)], by simp only [ByteArray.size_append, ByteArray.size_extract, show (⟨#[46]⟩ : ByteArray).size = 1 from rfl, show (⟨#[101]⟩ : ByteArray).size = 1 from rfl]; omega⟩
              case rest =>
                obtain ⟨hb3, hbk3, X, rfl, hX, hX2⟩ := hcut
                have HX := hid hX
                have HB3 := hid (below_trans HB.out hb3)
                clear hX hb3 k0 k1 k2
                obtain ⟨⟨k0, k1, k2⟩, _⟩ := hbk3.get
                cases gd with
                | false =>
                  have e1 : X = ⟨V.toArray⟩ := bytes_ext (by rw [HX.out, HV.out]; rfl)
                  have E1 := hid e1
                  clear e1
                  go_wp2
                  go_ret2
                  exact ⟨by rw [HE.out, ← E1.out]; rfl, HB3.out⟩
                | true =>
                  have e1 : (⟨#[45]⟩ : ByteArray) ++ X = ⟨V.toArray⟩ := bytes_ext (by rw [append_data, HX.out, HV.out]; rfl)
                  have E1 := hid e1
                  clear e1
                  go_wp2
                  go_ret2
                  exact ⟨by rw [HE.out, ← E1.out]; rfl, HB3.out⟩
            · have c7 : ¬ (1 : Int) < S.size := by omega
              have HF2 := hid (show figR m ed H = m ++ 101 :: Lib.itoa H by rw [HF.out, if_neg (by rw [← HSZ.out]; exact c6)])
              go_upto_if 32 with fail
              go_cut [8] from 24 (fun v8 w' => Below wl.heap.size wl w' ∧ HasR w' N ⟨gd, md, ed⟩ b c ∧ ∃ X : ByteArray, v8 = .string X ∧ X.data.toList = figR m ed H ∧ X.size ≤ 40000)
              case first =>
                go_wp2_with fail
                refine (CW.out _).mono ?_
                rintro e3 w3 ⟨rfl, hb3⟩
                have HB3 := hid hb3
                clear hb3
                go_wp2_with fail
                go_meet
                case rel => exact ⟨HB3.out, HBK.out.below HB3.out, _, rfl, by rw [append_data, append_data, Lib.extract_data, HS.out, HY.out, HF2.out, List.drop_zero, List.take_of_length_le (by have := HSZ.out; omega), List.append_assoc]; rfl, by simp only [ByteArray.size_append, ByteArray.size_extract, show (⟨#[101]⟩ : ByteArray).size = 1 from rfl]; omega⟩
              case rest =>
                obtain ⟨hb3, hbk3, X, rfl, hX, hX2⟩ := hcut
                have HX := hid hX
                have HB3 := hid (below_trans HB.out hb3)
                clear hX hb3 k0 k1 k2
                obtain ⟨⟨k0, k1, k2⟩, _⟩ := hbk3.get
                cases gd with
                | false =>
                  have e1 : X = ⟨V.toArray⟩ := bytes_ext (by rw [HX.out, HV.out]; rfl)
                  have E1 := hid e1
                  clear e1
                  go_wp2
                  go_ret2
                  exact ⟨by rw [HE.out, ← E1.out]; rfl, HB3.out⟩
                | true =>
                  have e1 : (⟨#[45]⟩ : ByteArray) ++ X = ⟨V.toArray⟩ := bytes_ext (by rw [append_data, HX.out, HV.out]; rfl)
                  have E1 := hid e1
                  clear e1
                  go_wp2
                  go_ret2
                  exact ⟨by rw [HE.out, ← E1.out]; rfl, HB3.out⟩
        · have c3 : ed < 0 := by omega
          by_cases c4 : 0 ≤ H
          · obtain ⟨k, rfl⟩ : ∃ k : Nat, H = k := ⟨H.toNat, by omega⟩
            have HF := hid (show figR m ed (k : Int) = m.take (k + 1) ++ 46 :: m.drop (k + 1) by unfold figR; rw [if_neg (by omega), if_pos ⟨c3, c4⟩]; simp)
            have hk1 : k + 1 ≤ S.size := by have := HSZ.out; have := HHB.out; omega
            have hk2 : (k : Int) + 1 ≤ S.size := by omega
            have hk3 : ((k : Int) + 1).toNat = k + 1 := by omega
            go_upto_if 32 with fail
            go_cut [8] from 24 (fun v8 w' => Below wl.heap.size wl w' ∧ HasR w' N ⟨gd, md, ed⟩ b c ∧ ∃ X : ByteArray, v8 = .string X ∧ X.data.toList = figR m ed (k : Int) ∧ X.size ≤ 40000)
            case first =>
              go_upto_region 12 with fail
              go_quiet (fail)
              go_wp2_with fail
              go_meet
              case rel => exact ⟨below_drewN (Below.refl _ _) nq, HBK.out.below (below_drewN (Below.refl _ _) nq), _, rfl, by rw [append_data, append_data, Lib.extract_data, Lib.extract_data, HS.out, HF.out]; have := HSZ.out; simp [this]; rw [List.take_of_length_le (by simp)], by simp only [ByteArray.size_append, ByteArray.size_extract, show (⟨#[46]⟩ : ByteArray).size = 1 from rfl]; omega⟩
            case rest =>
              obtain ⟨hb3, hbk3, X, rfl, hX, hX2⟩ := hcut
              have HX := hid hX
              have HB3 := hid (below_trans HB.out hb3)
              clear hX hb3 k0 k1 k2
              obtain ⟨⟨k0, k1, k2⟩, _⟩ := hbk3.get
              cases gd with
              | false =>
                have e1 : X = ⟨V.toArray⟩ := bytes_ext (by rw [HX.out, HV.out]; rfl)
                have E1 := hid e1
                clear e1
                go_wp2
                go_ret2
                exact ⟨by rw [HE.out, ← E1.out]; rfl, HB3.out⟩
              | true =>
                have e1 : (⟨#[45]⟩ : ByteArray) ++ X = ⟨V.toArray⟩ := bytes_ext (by rw [append_data, HX.out, HV.out]; rfl)
                have E1 := hid e1
                clear e1
                go_wp2
                go_ret2
                exact ⟨by rw [HE.out, ← E1.out]; rfl, HB3.out⟩
          · by_cases c5 : -7 ≤ H
            · obtain ⟨k, hk⟩ : ∃ k : Nat, -H - 1 = k := ⟨(-H - 1).toNat, by omega⟩
              have HF := hid (show figR m ed H = [48, 46] ++ List.replicate k 48 ++ m by unfold figR; rw [if_neg (by omega), if_neg (by omega), if_pos ⟨c3, c5⟩, show (-H - 1).toNat = k by omega])
              obtain ⟨Z, hz1, hz2, CZ⟩ := HNO.out k (by omega)
              have HZ := hid hz1
              clear hz1
              go_upto_if 32 with fail
              go_cut [8] from 24 (fun v8 w' => Below wl.heap.size wl w' ∧ HasR w' N ⟨gd, md, ed⟩ b c ∧ ∃ X : ByteArray, v8 = .string X ∧ X.data.toList = figR m ed H ∧ X.size ≤ 40000)
              case first =>
                go_wp2_with fail
                refine (CZ.out _).mono ?_
                rintro e3 w3 ⟨rfl, rfl⟩
                go_wp2_with fail
                go_meet
                case rel => exact ⟨Below.refl _ _, HBK.out, _, rfl, by rw [append_data, append_data, HS.out, HZ.out, HF.out], by simp only [ByteArray.size_append, show (⟨#[48, 46]⟩ : ByteArray).size = 2 from rfl]; omega⟩
              case rest =>
                obtain ⟨hb3, hbk3, X, rfl, hX, hX2⟩ := hcut
                have HX := hid hX
                have HB3 := hid (below_trans HB.out hb3)
                clear hX hb3 k0 k1 k2
                obtain ⟨⟨k0, k1, k2⟩, _⟩ := hbk3.get
                cases gd with
                | false =>
                  have e1 : X = ⟨V.toArray⟩ := bytes_ext (by rw [HX.out, HV.out]; rfl)
                  have E1 := hid e1
                  clear e1
                  go_wp2
                  go_ret2
                  exact ⟨by rw [HE.out, ← E1.out]; rfl, HB3.out⟩
                | true =>
                  have e1 : (⟨#[45]⟩ : ByteArray) ++ X = ⟨V.toArray⟩ := bytes_ext (by rw [append_data, HX.out, HV.out]; rfl)
                  have E1 := hid e1
                  clear e1
                  go_wp2
                  go_ret2
                  exact ⟨by rw [HE.out, ← E1.out]; rfl, HB3.out⟩
            · have HF := hid (show figR m ed H = (if 1 < m.length then m.take 1 ++ 46 :: m.drop 1 else m) ++ 101 :: Lib.itoa H by unfold figR; rw [if_neg (by omega), if_neg (by omega), if_neg (by omega)])
              by_cases c6 : 1 < S.size
              · have c7 : (1 : Int) < S.size := by omega
                have HF2 := hid (show figR m ed H = m.take 1 ++ 46 :: m.drop 1 ++ 101 :: Lib.itoa H by rw [HF.out, if_pos (by rw [← HSZ.out]; exact c6)])
                go_upto_if 32 with fail
                go_cut [8] from 24 (fun v8 w' => Below wl.heap.size wl w' ∧ HasR w' N ⟨gd, md, ed⟩ b c ∧ ∃ X : ByteArray, v8 = .string X ∧ X.data.toList = figR m ed H ∧ X.size ≤ 40000)
                case first =>
                  go_wp2_with fail
                  refine (CW.out _).mono ?_
                  rintro e3 w3 ⟨rfl, hb3⟩
                  have HB3 := hid hb3
                  clear hb3
                  go_wp2_with fail
                  go_meet
                  case rel => exact ⟨HB3.out, HBK.out.below HB3.out, _, rfl, by rw [append_data, append_data, append_data, append_data, Lib.extract_data, Lib.extract_data, HS.out, HY.out, HF2.out]; have := HSZ.out; simp [this]; rw [List.take_of_length_le (by simp)], by simp only [ByteArray.size_append, ByteArray.size_extract, show (⟨#[46]⟩ : ByteArray).size = 1 from rfl, show (⟨#[101]⟩ : ByteArray).size = 1 from rfl]; omega⟩
                case rest =>
                  obtain ⟨hb3, hbk3, X, rfl, hX, hX2⟩ := hcut
                  have HX := hid hX
                  have HB3 := hid (below_trans HB.out hb3)
                  clear hX hb3 k0 k1 k2
                  obtain ⟨⟨k0, k1, k2⟩, _⟩ := hbk3.get
                  cases gd with
                  | false =>
                    have e1 : X = ⟨V.toArray⟩ := bytes_ext (by rw [HX.out, HV.out]; rfl)
                    have E1 := hid e1
                    clear e1
                    go_wp2
                    go_ret2
                    exact ⟨by rw [HE.out, ← E1.out]; rfl, HB3.out⟩
                  | true =>
                    have e1 : (⟨#[45]⟩ : ByteArray) ++ X = ⟨V.toArray⟩ := bytes_ext (by rw [append_data, HX.out, HV.out]; rfl)
                    have E1 := hid e1
                    clear e1
                    go_wp2
                    go_ret2
                    exact ⟨by rw [HE.out, ← E1.out]; rfl, HB3.out⟩
              · have c7 : ¬ (1 : Int) < S.size := by omega
                have HF2 := hid (show figR m ed H = m ++ 101 :: Lib.itoa H by rw [HF.out, if_neg (by rw [← HSZ.out]; exact c6)])
                go_upto_if 32 with fail
                go_cut [8] from 24 (fun v8 w' => Below wl.heap.size wl w' ∧ HasR w' N ⟨gd, md, ed⟩ b c ∧ ∃ X : ByteArray, v8 = .string X ∧ X.data.toList = figR m ed H ∧ X.size ≤ 40000)
                case first =>
                  go_wp2_with fail
                  refine (CW.out _).mono ?_
                  rintro e3 w3 ⟨rfl, hb3⟩
                  have HB3 := hid hb3
                  clear hb3
                  go_wp2_with fail
                  go_meet
                  case rel => exact ⟨HB3.out, HBK.out.below HB3.out, _, rfl, by rw [append_data, append_data, Lib.extract_data, HS.out, HY.out, HF2.out, List.drop_zero, List.take_of_length_le (by have := HSZ.out; omega), List.append_assoc]; rfl, by simp only [ByteArray.size_append, ByteArray.size_extract, show (⟨#[101]⟩ : ByteArray).size = 1 from rfl]; omega⟩
                case rest =>
                  obtain ⟨hb3, hbk3, X, rfl, hX, hX2⟩ := hcut
                  have HX := hid hX
                  have HB3 := hid (below_trans HB.out hb3)
                  clear hX hb3 k0 k1 k2
                  obtain ⟨⟨k0, k1, k2⟩, _⟩ := hbk3.get
                  cases gd with
                  | false =>
                    have e1 : X = ⟨V.toArray⟩ := bytes_ext (by rw [HX.out, HV.out]; rfl)
                    have E1 := hid e1
                    clear e1
                    go_wp2
                    go_ret2
                    exact ⟨by rw [HE.out, ← E1.out]; rfl, HB3.out⟩
                  | true =>
                    have e1 : (⟨#[45]⟩ : ByteArray) ++ X = ⟨V.toArray⟩ := bytes_ext (by rw [append_data, HX.out, HV.out]; rfl)
                    have E1 := hid e1
                    clear e1
                    go_wp2
                    go_ret2
                    exact ⟨by rw [HE.out, ← E1.out]; rfl, HB3.out⟩
    · have hne : ((er : Int) != 0) = true := by rw [bne_iff_ne]; omega
      have HV := hid (show V = [] by rw [hV.out, if_neg h0])
      clear h0 hV
      go_wp2
      go_ret2
      exact ⟨by rw [HV.out]; rfl, HB.out⟩

end Go.Proofs.YtldhebpkplglcaaGreatDoor
