/- Layer 3, sixth walks: round. Layer 3, seventh walks: Trunc, Floor, Ceil, Round, Abs, Whole. Layer 3, eighth walks: Abs, and what is long. Layer 3, ninth walks: Rem. What is written is read again: plain laws, second part. Layer 3, tenth walks: Int. Layer 3: the document's examples, plain. Layer 3: the document's examples, each call. Layer 3: shown, its first stages. -/
import Derived.Test.YtiblmkecipoanaaGreatDoorMh
import Derived.Test.YtiblmkecipoanaaGreatDoorMe
import Derived.Test.YtiblmkecipoanaaGreatDoorMg
import Derived.Test.YtiblmkecipoanaaGreatDoorMf
import Derived.BigQuiet
namespace Go.Proofs.YtiblmkecipoanaaGreatDoor
open Go.RowKit

/-- Is the whole part of a number made greater by 1, rounded in a way? -/
def upB (d : D) (way : Nat) : Bool := if way = 1 then restB d && d.neg else if way = 2 then restB d && !d.neg else if way = 3 then halfB d else false
def roundR (er : Nat) (d : D) (way : Nat) : D × Nat := if er ≠ 0 ∨ 0 ≤ d.e then (d, er) else tellR (plainD d.neg (wholeN d + (if upB d way = true then 1 else 0)) 0)

theorem taken_tell2 {g : Bool} {n Q : Nat} {E : Int} (h : nearB n E = true) : takenD g n Q E = (tellR (plainD g Q E)).1 ∧ takenE g n Q E = (tellR (plainD g Q E)).2 := by
  unfold takenD takenE tellR
  rw [if_pos h, if_pos h]
  by_cases hf : fitsB (plainD g Q E) = true
  · simp [hf]
  · simp [hf]
/-- One number in a block of the call's own, and the block of the result. -/
structure OneD (w w' : World) (d : D) (N : Nat) (b : Option Addr) (c : Nat) : Prop where
  h1 : w'.heap[N]? = some (.cells #[.bool d.neg, .slice b (Num.limbs d.m).length c, .int .i64 d.e] 24)
  l1 : w.heap.size + 1 + 1 ≤ N
  o1 : w'.ownsRow (w.heap.size + 1 + 1) 42 1 (.slice b (Num.limbs d.m).length c) (Num.limbs d.m).length (u32s (Num.limbs d.m))
  res : Cells3 w' (w.heap.size + 1)
  bel : Below w.heap.size w w'
theorem OneD.next {w w' w'' : World} {d : D} {N c : Nat} {b : Option Addr} (h : OneD w w' d N b c) (hb : Below w'.heap.size w' w'') : OneD w w'' d N b c :=
  ⟨blk_below h.h1 hb, h.l1, owns_below h.o1 hb, h.res.below hb, below_trans h.bel hb⟩
theorem OneD.inD {w w' : World} {d : D} {N c : Nat} {b : Option Addr} (h : OneD w w' d N b c) : InD w' d b c := ⟨u32_limbs h.o1⟩
theorem OneD.new {w w1 : World} {o : Obj} {d : D} {b : Option Addr} {c : Nat} {x y z : Value} {T : TypeId} (ho : OwnD ((w.alloc o).alloc (.cells #[x, y, z] T)) w1 d b c) :
    OneD w (w1.alloc (.cells #[.bool d.neg, .slice b (Num.limbs d.m).length c, .int .i64 d.e] 24)) d w1.heap.size b c := by
  have k := (Below.refl w1.heap.size w1).alloc (Nat.le_refl _) (.cells #[.bool d.neg, .slice b (Num.limbs d.m).length c, .int .i64 d.e] 24)
  refine ⟨blk_new w1 _, by simpa using ho.1.size, owns_mono (owns_below ho.2 k) (by simp), Cells3.below (Cells3.below ⟨x, y, z, T, by simpa using blk_new2 w _ _⟩ ho.1) k, below_trans (below_alloc (below_alloc ho.1)) k⟩

set_option maxRecDepth 100000 in
set_option maxHeartbeats 6400000 in
theorem quot_round (way : Nat) (hway : way ≤ 3) (g : Bool) (a : Option Addr) (cap : Nat) (e : Int) (xs : List Nat) (w : World) (h : U32 w a xs) (htab : Pow w) :
    Calls Tryz.prog 56 #[.agg #[.bool g, .slice a xs.length cap, .int .i64 e], .int .i64 way] w
      (OutDE w (roundR (takenE g xs.length (Num.worth xs) e) (takenD g xs.length (Num.worth xs) e) way).1 (roundR (takenE g xs.length (Num.worth xs) e) (takenD g xs.length (Num.worth xs) e) way).2) := by
  have CN := fun W (hb : Below w.heap.size w W) => dec_Norm g a cap e xs W (h.below hb) (htab.next hb)
  have hp : takenE g xs.length (Num.worth xs) e = 0 → IsPlain (takenD g xs.length (Num.worth xs) e) ∧ fitsB (takenD g xs.length (Num.worth xs) e) = true := fun h => taken_facts h
  obtain ⟨d, hd⟩ : ∃ x, x = takenD g xs.length (Num.worth xs) e := ⟨_, rfl⟩
  obtain ⟨er, her⟩ : ∃ x, x = takenE g xs.length (Num.worth xs) e := ⟨_, rfl⟩
  obtain ⟨n, hn⟩ : ∃ n, n = xs.length := ⟨_, rfl⟩
  rw [← hd, ← her] at CN hp
  rw [← hd, ← her]
  rw [← hn] at CN ⊢
  obtain ⟨r, hr⟩ : ∃ r, r = roundR er d way := ⟨_, rfl⟩
  rw [← hr]
  unfold OutDE at CN
  replace CN := hid CN
  replace hp := hid hp
  replace hr := hid hr
  have HTAB := hid htab
  clear h htab hd her hn
  go_enter Tryz.func56, Tryz.ntmps56
  go_upto_region 1 with fail
  go_cut [6, 7] from 12 (fun v6 v7 w' => ∃ N b c, v6 = .pointer (some ⟨N, 0, none⟩) ∧ v7 = .int .i64 er ∧ OneD w w' d N b c)
  case first =>
    as_aux_lemma =>
      go_wp2_with fail
      refine (CN.out _ (((Below.refl _ _).alloc (Nat.le_refl _) _).alloc (by simp) _)).mono ?_
      rintro e1 w1 ⟨b, c, rfl, ho1⟩
      have HO := hid ho1
      clear ho1 CN
      unfold decV
      go_wp2_with fail
      go_meet
      case rel => exact ⟨w1.heap.size, b, c, rfl, rfl, OneD.new HO.out⟩
  case rest =>
    obtain ⟨N, b, c, rfl, rfl, hO⟩ := hcut
    have l1 := hO.l1
    obtain ⟨⟨k0, k1, k2⟩, _⟩ := blk_three hO.h1
    obtain ⟨r0, r1, r2, p0, p1, p2⟩ := hO.res.get
    have f0 := hO.res.frozen 0
    have f1 := hO.res.frozen 1
    have f2 := hO.res.frozen 2
    have HO := hid hO
    clear hO CN
    by_cases h0 : er ≠ 0 ∨ 0 ≤ d.e
    · have HR := hid (show r = (d, er) by rw [hr.out]; unfold roundR; rw [if_pos h0])
      clear hr hp
      have hfin : OutDE w d er (.returned (.tuple #[decV d b c, .int .i64 er])) (put3 wc (w.heap.size + 1) d.neg b (Num.limbs d.m).length c d.e) :=
        ⟨b, c, rfl, below_put HO.out.bel (by omega) _ _ _ _ _, owns_mono (owns_put HO.out.o1 (by omega) _ _ _ _ _) (by omega)⟩
      replace hfin := hid hfin
      by_cases h1 : er = 0
      · have hne : ((er : Int) != 0) = false := by rw [bne_eq_false_iff_eq]; omega
        have h2 : 0 ≤ d.e := by omega
        clear h0
        go_wp2
        refine bodyPost_ret (v := .tuple #[decV d b c, .int .i64 er]) (by simp [results, Tryz.results56, go_sem, p0, p1, p2, decV]) rfl ?_
        rw [HR.out]
        exact hfin.out
      · have hne : ((er : Int) != 0) = true := by rw [bne_iff_ne]; omega
        clear h0
        go_wp2
        refine bodyPost_ret (v := .tuple #[decV d b c, .int .i64 er]) (by simp [results, Tryz.results56, go_sem, p0, p1, p2, decV]) rfl ?_
        rw [HR.out]
        exact hfin.out
    · have HR := hid (show r = tellR (plainD d.neg (wholeN d + (if upB d way = true then 1 else 0)) 0) by rw [hr.out]; unfold roundR; rw [if_neg h0])
      have hne : ((er : Int) != 0) = false := by rw [bne_eq_false_iff_eq]; omega
      have h2 : ¬ 0 ≤ d.e := by omega
      obtain ⟨pd, fd⟩ := hp.out (by omega)
      have bd := plain_bounds pd fd
      have CS := fun W (hb : Below wc.heap.size wc W) => quot_split d b c W (HO.out.inD.below hb) pd fd
      have hW : wholeN d ≤ d.m := by unfold wholeN; rw [if_neg h2]; exact Nat.div_le_self _ _
      have hv : (Num.limbs (wholeN d + (if upB d way = true then 1 else 0))).length ≤ 60 := near_len (Nat.le_trans (Num.digs_length_mono (by decide) hW) (by omega)) (by split <;> omega)
      obtain ⟨up, hup⟩ : ∃ b, b = upB d way := ⟨_, rfl⟩
      obtain ⟨rs, hrs⟩ : ∃ b, b = restB d := ⟨_, rfl⟩
      obtain ⟨hf, hhf⟩ : ∃ b, b = halfB d := ⟨_, rfl⟩
      obtain ⟨V, hV⟩ : ∃ b, b = wholeN d := ⟨_, rfl⟩
      rw [← hrs, ← hhf, ← hV] at CS
      have hup2 : up = (if way = 1 then rs && d.neg else if way = 2 then rs && !d.neg else if way = 3 then hf else false) := by rw [hup, hrs, hhf]; rfl
      rw [← hup, ← hV] at HR hv
      unfold decV at CS
      replace CS := hid CS
      replace hup2 := hid hup2
      clear h0 hr hp pd fd bd hup hrs hhf hV hW
      go_upto_region 4 with fail
      go_cut [8, 9, 10] from 12 (fun v8 v9 v10 w' => ∃ a8 c8, v8 = .slice a8 (Num.limbs V).length c8 ∧ v9 = .bool rs ∧ v10 = .bool hf ∧ Below wc.heap.size wc w' ∧ w'.ownsRow wc.heap.size 42 1 (.slice a8 (Num.limbs V).length c8) (Num.limbs V).length (u32s (Num.limbs V)))
      case first =>
        as_aux_lemma =>
          go_wp2_with fail
          refine (CS.out _ (Below.refl _ _)).mono ?_
          rintro e1 w1 ⟨a8, c8, rfl, hb1, ho1⟩
          have HB1 := hid hb1
          have HO1 := hid ho1
          clear hb1 ho1 CS
          go_wp2_with fail
          go_meet
          case rel => exact ⟨a8, c8, rfl, rfl, rfl, HB1.out, HO1.out⟩
      case rest =>
        obtain ⟨a8, c8, rfl, rfl, rfl, hb, ho⟩ := hcut
        have hsz := HO.out.bel.size
        replace HO := hid (HO.out.next hb)
        have HOV := hid (owns_mono ho hsz)
        clear hb ho CS k0 k1 k2 p0 p1 p2 f0 f1 f2 hsz
        obtain ⟨⟨k0, k1, k2⟩, _⟩ := blk_three HO.out.h1
        go_upto_block 0 with fail
        go_cut [9, 11] from 12 (fun _ v11 w' => v11 = .bool up ∧ w' = wc)
        case first =>
          as_aux_lemma =>
            have hw4 : way = 0 ∨ way = 1 ∨ way = 2 ∨ way = 3 := by omega
            obtain ⟨dn, hdn⟩ : ∃ b, b = d.neg := ⟨_, rfl⟩
            rw [← hdn] at k0 hup2
            clear hdn
            rcases hw4 with rfl | rfl | rfl | rfl <;> cases rs <;> cases hf <;> cases dn
            all_goals
              have hu := hup2.out
              simp at hu
              subst hu
              go_wp2_with fail
              go_meet
              case rel => exact ⟨rfl, rfl⟩
        case rest =>
          obtain ⟨rfl, rfl⟩ := hcut
          obtain ⟨V', hV'⟩ : ∃ v, v = V + (if up = true then 1 else 0) := ⟨_, rfl⟩
          rw [← hV'] at HR hv
          go_upto_if 55 with fail
          go_cut [8] from 12 (fun v8 w' => ∃ a9 c9, v8 = .slice a9 (Num.limbs V').length c9 ∧ Below wc.heap.size wc w' ∧ w'.ownsRow w.heap.size 42 1 (.slice a9 (Num.limbs V').length c9) (Num.limbs V').length (u32s (Num.limbs V')))
          case first =>
            as_aux_lemma =>
              cases up with
              | true =>
                have lV : (Num.limbs V).length ≤ 60 := Nat.le_trans (Num.digs_length_mono Num.two_le_B9 (by rw [hV']; omega)) hv
                have CA := fun W N (hb : Below wc.heap.size wc W) (h2 : U32 W (some ⟨N, 0, none⟩) [1]) => limb_Add a8 (some ⟨N, 0, none⟩) c8 1 (Num.limbs V) [1] W ((u32_limbs HOV.out).below hb) h2 (by omega) (by simp)
                rw [Num.worth_limbs, show Num.worth [1] = 1 from rfl, show V + 1 = V' by rw [hV']; rfl] at CA
                unfold OutU at CA
                replace CA := hid CA
                replace hV' := hid hV'
                have hsz := HO.out.bel.size
                go_wp2_with fail
                refine (CA.out _ _ ((Below.refl wc.heap.size wc).alloc (Nat.le_refl _) _) (u32_one (by decide) (blk_cell (blk_new wc _) 0))).mono ?_
                rintro e5 w5 ⟨a5, c5, rfl, hb5, ho5⟩
                have HB5 := hid (below_alloc hb5)
                have HO5 := hid (owns_mono ho5 (show w.heap.size ≤ _ by simp; omega))
                clear hb5 ho5 CA
                go_wp2_with fail
                go_meet
                case rel => exact ⟨a5, c5, rfl, HB5.out, HO5.out⟩
              | false =>
                obtain rfl : V' = V := by rw [hV']; rfl
                replace hV' := hid hV'
                go_wp2_with fail
                go_meet
                case rel => exact ⟨a8, c8, rfl, Below.refl _ _, HOV.out⟩
          case rest =>
            obtain ⟨a9, c9, rfl, hb, ho⟩ := hcut
            replace HO := hid (HO.out.next hb)
            have HO9 := hid ho
            clear hb ho HOV hV' hup2 k0 k1 k2
            obtain ⟨⟨k0, k1, k2⟩, _⟩ := blk_three HO.out.h1
            have hltN := blk_lt HO.out.h1
            have CN := dec_Norm d.neg a9 c9 0 (Num.limbs V') wc (u32_limbs HO9.out) (HTAB.out.next HO.out.bel)
            rw [Num.worth_limbs] at CN
            obtain ⟨t1, t2⟩ := taken_tell2 (g := d.neg) (Q := V') (nearB_iff.2 ⟨(by omega : (Num.limbs V').length ≤ 200), by omega, by omega⟩ : nearB (Num.limbs V').length 0 = true)
            rw [t1, t2] at CN
            obtain ⟨t, ht⟩ : ∃ t, t = tellR (plainD d.neg V' 0) := ⟨_, rfl⟩
            rw [← ht] at CN
            have HR2 := hid (HR.out.trans ht.symm)
            unfold OutDE decV at CN
            replace CN := hid CN
            clear t1 t2 ht HR
            go_wp2_with fail
            refine CN.out.mono ?_
            rintro e1 w1 ⟨a3, c3, rfl, ho3⟩
            have hr3 := HO.out.res.below ho3.1
            obtain ⟨_, _, _, p0, p1, p2⟩ := hr3.get
            have f0 := hr3.frozen 0
            have f1 := hr3.frozen 1
            have f2 := hr3.frozen 2
            have HB3 := hid (below_trans HO.out.bel ho3.1)
            have HO3 := hid (owns_mono (owns_set3 (R := w.heap.size + 1) ho3.2 (by omega) (.bool t.1.neg) (.slice a3 (Num.limbs t.1.m).length c3) (.int .i64 t.1.e)) (show w.heap.size ≤ _ by omega))
            clear ho3 hr3 CN
            go_wp2_with fail
            refine bodyPost_ret (v := .tuple #[decV t.1 a3 c3, .int .i64 t.2]) (by simp [results, Tryz.results56, go_sem, p0, p1, p2, decV]) rfl ?_
            rw [HR2.out]
            exact ⟨a3, c3, rfl, below_put HB3.out (by omega) _ _ _ _ _, HO3.out⟩

end Go.Proofs.YtiblmkecipoanaaGreatDoor

namespace Go.Proofs.YtiblmkecipoanaaGreatDoor
open Go.RowKit

set_option maxRecDepth 100000 in
set_option maxHeartbeats 1600000 in
theorem quot_Trunc (g : Bool) (a : Option Addr) (cap : Nat) (e : Int) (xs : List Nat) (w : World) (h : U32 w a xs) (htab : Pow w) :
    Calls Tryz.prog 20 #[.agg #[.bool g, .slice a xs.length cap, .int .i64 e]] w
      (OutDE w (roundR (takenE g xs.length (Num.worth xs) e) (takenD g xs.length (Num.worth xs) e) 0).1 (roundR (takenE g xs.length (Num.worth xs) e) (takenD g xs.length (Num.worth xs) e) 0).2) := by
  have CR : ∀ W, Below w.heap.size w W → Calls Tryz.prog 56 #[.agg #[.bool g, .slice a xs.length cap, .int .i64 e], .int .i64 0] W
      (OutDE W (roundR (takenE g xs.length (Num.worth xs) e) (takenD g xs.length (Num.worth xs) e) 0).1 (roundR (takenE g xs.length (Num.worth xs) e) (takenD g xs.length (Num.worth xs) e) 0).2) :=
    fun W hb => quot_round 0 (by decide) g a cap e xs W (h.below hb) (htab.next hb)
  obtain ⟨t, ht⟩ : ∃ t, t = roundR (takenE g xs.length (Num.worth xs) e) (takenD g xs.length (Num.worth xs) e) 0 := ⟨_, rfl⟩
  rw [← ht] at CR ⊢
  obtain ⟨n, hn⟩ : ∃ n, n = xs.length := ⟨_, rfl⟩
  rw [← hn] at CR ⊢
  unfold OutDE decV at CR
  replace CR := hid CR
  clear h htab ht hn
  go_enter Tryz.func20, Tryz.ntmps20
  go_wp2_with fail
  refine (CR.out _ (((Below.refl _ _).alloc (Nat.le_refl _) _).alloc (by simp) _)).mono ?_
  rintro e1 w1 ⟨a3, c3, rfl, ho3⟩
  have hr3 : Cells3 w1 (w.heap.size + 1) := Cells3.below ⟨_, _, _, _, by simpa using blk_new2 w _ _⟩ ho3.1
  obtain ⟨_, _, _, p0, p1, p2⟩ := hr3.get
  have f0 := hr3.frozen 0
  have f1 := hr3.frozen 1
  have f2 := hr3.frozen 2
  have HB3 := hid (below_alloc (below_alloc ho3.1))
  have HO3 := hid (owns_mono (owns_set3 (R := w.heap.size + 1) ho3.2 (by simp) (.bool t.1.neg) (.slice a3 (Num.limbs t.1.m).length c3) (.int .i64 t.1.e)) (show w.heap.size ≤ _ by simp; omega))
  clear ho3 hr3 CR
  go_wp2_with fail
  refine bodyPost_ret (v := .tuple #[decV t.1 a3 c3, .int .i64 t.2]) (by simp [results, Tryz.results20, go_sem, p0, p1, p2, decV]) rfl ?_
  exact ⟨a3, c3, rfl, below_put HB3.out (by omega) _ _ _ _ _, HO3.out⟩

set_option maxRecDepth 100000 in
set_option maxHeartbeats 1600000 in
theorem quot_Floor (g : Bool) (a : Option Addr) (cap : Nat) (e : Int) (xs : List Nat) (w : World) (h : U32 w a xs) (htab : Pow w) :
    Calls Tryz.prog 21 #[.agg #[.bool g, .slice a xs.length cap, .int .i64 e]] w
      (OutDE w (roundR (takenE g xs.length (Num.worth xs) e) (takenD g xs.length (Num.worth xs) e) 1).1 (roundR (takenE g xs.length (Num.worth xs) e) (takenD g xs.length (Num.worth xs) e) 1).2) := by
  have CR : ∀ W, Below w.heap.size w W → Calls Tryz.prog 56 #[.agg #[.bool g, .slice a xs.length cap, .int .i64 e], .int .i64 1] W
      (OutDE W (roundR (takenE g xs.length (Num.worth xs) e) (takenD g xs.length (Num.worth xs) e) 1).1 (roundR (takenE g xs.length (Num.worth xs) e) (takenD g xs.length (Num.worth xs) e) 1).2) :=
    fun W hb => quot_round 1 (by decide) g a cap e xs W (h.below hb) (htab.next hb)
  obtain ⟨t, ht⟩ : ∃ t, t = roundR (takenE g xs.length (Num.worth xs) e) (takenD g xs.length (Num.worth xs) e) 1 := ⟨_, rfl⟩
  rw [← ht] at CR ⊢
  obtain ⟨n, hn⟩ : ∃ n, n = xs.length := ⟨_, rfl⟩
  rw [← hn] at CR ⊢
  unfold OutDE decV at CR
  replace CR := hid CR
  clear h htab ht hn
  go_enter Tryz.func21, Tryz.ntmps21
  go_wp2_with fail
  refine (CR.out _ (((Below.refl _ _).alloc (Nat.le_refl _) _).alloc (by simp) _)).mono ?_
  rintro e1 w1 ⟨a3, c3, rfl, ho3⟩
  have hr3 : Cells3 w1 (w.heap.size + 1) := Cells3.below ⟨_, _, _, _, by simpa using blk_new2 w _ _⟩ ho3.1
  obtain ⟨_, _, _, p0, p1, p2⟩ := hr3.get
  have f0 := hr3.frozen 0
  have f1 := hr3.frozen 1
  have f2 := hr3.frozen 2
  have HB3 := hid (below_alloc (below_alloc ho3.1))
  have HO3 := hid (owns_mono (owns_set3 (R := w.heap.size + 1) ho3.2 (by simp) (.bool t.1.neg) (.slice a3 (Num.limbs t.1.m).length c3) (.int .i64 t.1.e)) (show w.heap.size ≤ _ by simp; omega))
  clear ho3 hr3 CR
  go_wp2_with fail
  refine bodyPost_ret (v := .tuple #[decV t.1 a3 c3, .int .i64 t.2]) (by simp [results, Tryz.results21, go_sem, p0, p1, p2, decV]) rfl ?_
  exact ⟨a3, c3, rfl, below_put HB3.out (by omega) _ _ _ _ _, HO3.out⟩

set_option maxRecDepth 100000 in
set_option maxHeartbeats 1600000 in
theorem quot_Ceil (g : Bool) (a : Option Addr) (cap : Nat) (e : Int) (xs : List Nat) (w : World) (h : U32 w a xs) (htab : Pow w) :
    Calls Tryz.prog 22 #[.agg #[.bool g, .slice a xs.length cap, .int .i64 e]] w
      (OutDE w (roundR (takenE g xs.length (Num.worth xs) e) (takenD g xs.length (Num.worth xs) e) 2).1 (roundR (takenE g xs.length (Num.worth xs) e) (takenD g xs.length (Num.worth xs) e) 2).2) := by
  have CR : ∀ W, Below w.heap.size w W → Calls Tryz.prog 56 #[.agg #[.bool g, .slice a xs.length cap, .int .i64 e], .int .i64 2] W
      (OutDE W (roundR (takenE g xs.length (Num.worth xs) e) (takenD g xs.length (Num.worth xs) e) 2).1 (roundR (takenE g xs.length (Num.worth xs) e) (takenD g xs.length (Num.worth xs) e) 2).2) :=
    fun W hb => quot_round 2 (by decide) g a cap e xs W (h.below hb) (htab.next hb)
  obtain ⟨t, ht⟩ : ∃ t, t = roundR (takenE g xs.length (Num.worth xs) e) (takenD g xs.length (Num.worth xs) e) 2 := ⟨_, rfl⟩
  rw [← ht] at CR ⊢
  obtain ⟨n, hn⟩ : ∃ n, n = xs.length := ⟨_, rfl⟩
  rw [← hn] at CR ⊢
  unfold OutDE decV at CR
  replace CR := hid CR
  clear h htab ht hn
  go_enter Tryz.func22, Tryz.ntmps22
  go_wp2_with fail
  refine (CR.out _ (((Below.refl _ _).alloc (Nat.le_refl _) _).alloc (by simp) _)).mono ?_
  rintro e1 w1 ⟨a3, c3, rfl, ho3⟩
  have hr3 : Cells3 w1 (w.heap.size + 1) := Cells3.below ⟨_, _, _, _, by simpa using blk_new2 w _ _⟩ ho3.1
  obtain ⟨_, _, _, p0, p1, p2⟩ := hr3.get
  have f0 := hr3.frozen 0
  have f1 := hr3.frozen 1
  have f2 := hr3.frozen 2
  have HB3 := hid (below_alloc (below_alloc ho3.1))
  have HO3 := hid (owns_mono (owns_set3 (R := w.heap.size + 1) ho3.2 (by simp) (.bool t.1.neg) (.slice a3 (Num.limbs t.1.m).length c3) (.int .i64 t.1.e)) (show w.heap.size ≤ _ by simp; omega))
  clear ho3 hr3 CR
  go_wp2_with fail
  refine bodyPost_ret (v := .tuple #[decV t.1 a3 c3, .int .i64 t.2]) (by simp [results, Tryz.results22, go_sem, p0, p1, p2, decV]) rfl ?_
  exact ⟨a3, c3, rfl, below_put HB3.out (by omega) _ _ _ _ _, HO3.out⟩

set_option maxRecDepth 100000 in
set_option maxHeartbeats 1600000 in
theorem quot_Round (g : Bool) (a : Option Addr) (cap : Nat) (e : Int) (xs : List Nat) (w : World) (h : U32 w a xs) (htab : Pow w) :
    Calls Tryz.prog 23 #[.agg #[.bool g, .slice a xs.length cap, .int .i64 e]] w
      (OutDE w (roundR (takenE g xs.length (Num.worth xs) e) (takenD g xs.length (Num.worth xs) e) 3).1 (roundR (takenE g xs.length (Num.worth xs) e) (takenD g xs.length (Num.worth xs) e) 3).2) := by
  have CR : ∀ W, Below w.heap.size w W → Calls Tryz.prog 56 #[.agg #[.bool g, .slice a xs.length cap, .int .i64 e], .int .i64 3] W
      (OutDE W (roundR (takenE g xs.length (Num.worth xs) e) (takenD g xs.length (Num.worth xs) e) 3).1 (roundR (takenE g xs.length (Num.worth xs) e) (takenD g xs.length (Num.worth xs) e) 3).2) :=
    fun W hb => quot_round 3 (by decide) g a cap e xs W (h.below hb) (htab.next hb)
  obtain ⟨t, ht⟩ : ∃ t, t = roundR (takenE g xs.length (Num.worth xs) e) (takenD g xs.length (Num.worth xs) e) 3 := ⟨_, rfl⟩
  rw [← ht] at CR ⊢
  obtain ⟨n, hn⟩ : ∃ n, n = xs.length := ⟨_, rfl⟩
  rw [← hn] at CR ⊢
  unfold OutDE decV at CR
  replace CR := hid CR
  clear h htab ht hn
  go_enter Tryz.func23, Tryz.ntmps23
  go_wp2_with fail
  refine (CR.out _ (((Below.refl _ _).alloc (Nat.le_refl _) _).alloc (by simp) _)).mono ?_
  rintro e1 w1 ⟨a3, c3, rfl, ho3⟩
  have hr3 : Cells3 w1 (w.heap.size + 1) := Cells3.below ⟨_, _, _, _, by simpa using blk_new2 w _ _⟩ ho3.1
  obtain ⟨_, _, _, p0, p1, p2⟩ := hr3.get
  have f0 := hr3.frozen 0
  have f1 := hr3.frozen 1
  have f2 := hr3.frozen 2
  have HB3 := hid (below_alloc (below_alloc ho3.1))
  have HO3 := hid (owns_mono (owns_set3 (R := w.heap.size + 1) ho3.2 (by simp) (.bool t.1.neg) (.slice a3 (Num.limbs t.1.m).length c3) (.int .i64 t.1.e)) (show w.heap.size ≤ _ by simp; omega))
  clear ho3 hr3 CR
  go_wp2_with fail
  refine bodyPost_ret (v := .tuple #[decV t.1 a3 c3, .int .i64 t.2]) (by simp [results, Tryz.results23, go_sem, p0, p1, p2, decV]) rfl ?_
  exact ⟨a3, c3, rfl, below_put HB3.out (by omega) _ _ _ _ _, HO3.out⟩

/-- A number without its sign. -/
def absD (d : D) : D := ⟨false, d.m, d.e⟩

set_option maxRecDepth 100000 in
set_option maxHeartbeats 1600000 in
theorem quot_Whole (g : Bool) (a : Option Addr) (cap : Nat) (e : Int) (xs : List Nat) (w : World) (h : U32 w a xs) (htab : Pow w) :
    Calls Tryz.prog 18 #[.agg #[.bool g, .slice a xs.length cap, .int .i64 e]] w fun en w' =>
      en = .returned (.bool (decide (takenE g xs.length (Num.worth xs) e = 0) && decide (0 ≤ (takenD g xs.length (Num.worth xs) e).e))) ∧ Below w.heap.size w w' := by
  have CN := fun W (hb : Below w.heap.size w W) => dec_Norm g a cap e xs W (h.below hb) (htab.next hb)
  obtain ⟨d, hd⟩ : ∃ x, x = takenD g xs.length (Num.worth xs) e := ⟨_, rfl⟩
  obtain ⟨er, her⟩ : ∃ x, x = takenE g xs.length (Num.worth xs) e := ⟨_, rfl⟩
  obtain ⟨n, hn⟩ : ∃ n, n = xs.length := ⟨_, rfl⟩
  rw [← hd, ← her] at CN
  rw [← hd, ← her]
  rw [← hn] at CN ⊢
  unfold OutDE decV at CN
  replace CN := hid CN
  clear h htab hd her hn
  go_enter Tryz.func18, Tryz.ntmps18
  go_wp2_with fail
  refine (CN.out _ ((Below.refl _ _).alloc (Nat.le_refl _) _)).mono ?_
  rintro e1 w1 ⟨b1, c1, rfl, ho1⟩
  have HB1 := hid (below_alloc ho1.1)
  clear ho1 CN
  by_cases h1 : er = 0
  · have h2 : ((er : Int) == 0) = true := by rw [beq_iff_eq]; omega
    go_wp2
    go_ret
    exact ⟨by simp [h1], HB1.out.alloc HB1.out.size _⟩
  · have h2 : ((er : Int) == 0) = false := by rw [beq_eq_false_iff_ne]; omega
    go_wp2
    go_ret
    exact ⟨by simp [h1], HB1.out.alloc HB1.out.size _⟩

end Go.Proofs.YtiblmkecipoanaaGreatDoor

namespace Go.Proofs.YtiblmkecipoanaaGreatDoor
open Go.RowKit

set_option maxRecDepth 100000 in
set_option maxHeartbeats 1600000 in
theorem quot_Abs (g : Bool) (a : Option Addr) (cap : Nat) (e : Int) (xs : List Nat) (w : World) (h : U32 w a xs) (htab : Pow w) :
    Calls Tryz.prog 24 #[.agg #[.bool g, .slice a xs.length cap, .int .i64 e]] w
      (OutDE w (absD (takenD g xs.length (Num.worth xs) e)) (takenE g xs.length (Num.worth xs) e)) := by
  have CN := fun W (hb : Below w.heap.size w W) => dec_Norm g a cap e xs W (h.below hb) (htab.next hb)
  obtain ⟨d, hd⟩ : ∃ x, x = takenD g xs.length (Num.worth xs) e := ⟨_, rfl⟩
  obtain ⟨er, her⟩ : ∃ x, x = takenE g xs.length (Num.worth xs) e := ⟨_, rfl⟩
  obtain ⟨n, hn⟩ : ∃ n, n = xs.length := ⟨_, rfl⟩
  rw [← hd, ← her] at CN
  rw [← hd, ← her]
  rw [← hn] at CN ⊢
  unfold OutDE decV at CN
  replace CN := hid CN
  clear h htab hd her hn
  go_enter Tryz.func24, Tryz.ntmps24
  go_wp2_with fail
  refine (CN.out _ (((Below.refl _ _).alloc (Nat.le_refl _) _).alloc (by simp) _)).mono ?_
  rintro e1 w1 ⟨b1, c1, rfl, ho1⟩
  have hr3 : Cells3 w1 (w.heap.size + 1) := Cells3.below ⟨_, _, _, _, by simpa using blk_new2 w _ _⟩ ho1.1
  obtain ⟨_, _, _, p0, p1, p2⟩ := hr3.get
  have f0 := hr3.frozen 0
  have f1 := hr3.frozen 1
  have f2 := hr3.frozen 2
  have hltR := hr3
  have hz : w.heap.size + 1 < w1.heap.size := by have := ho1.1.size; simp at this; omega
  have HB1 := hid (below_alloc (below_alloc ho1.1))
  have HO1 := hid (owns_mono ho1.2 (show w.heap.size + 1 + 1 ≤ _ by simp))
  clear ho1 hr3 hltR CN
  go_wp2_with fail
  refine bodyPost_ret (v := .tuple #[decV (absD d) b1 c1, .int .i64 er]) (by simp [results, Tryz.results24, go_sem, p0, p1, p2, decV, absD, hz]) rfl ?_
  exact ⟨b1, c1, rfl, (((HB1.out.setCell (by simp) _).setCell (by simp) _).setCell (by simp) _).alloc (by simpa using HB1.out.size) _, owns_mono (owns_below (owns_set3 (R := w.heap.size + 1) HO1.out (by omega) (.bool false) _ _) ((Below.refl _ _).alloc (Nat.le_refl _) _)) (show w.heap.size ≤ w.heap.size + 1 + 1 by omega)⟩

/-- More digits ahead of the point than may be. -/
def longB (d : D) : Bool := decide (d.m ≠ 0) && decide (400 < d.e + (Num.digs 10 d.m).length)

theorem keepL {w W w1 : World} {N : Nat} {x y : Value} (h : W.cell? ⟨N, 1, none⟩ = some x ∧ W.cell? ⟨N, 2, none⟩ = some y ∧ Below w.heap.size w W) (hb : Below W.heap.size W w1) :
    w1.cell? ⟨N, 1, none⟩ = some x ∧ w1.cell? ⟨N, 2, none⟩ = some y ∧ Below w.heap.size w w1 :=
  ⟨by rw [(bcell hb).1 _ _ (cell_lt h.1)]; exact h.1, by rw [(bcell hb).1 _ _ (cell_lt h.2.1)]; exact h.2.1, below_trans h.2.2 hb⟩

set_option maxRecDepth 100000 in
set_option maxHeartbeats 1600000 in
theorem rem_long (d : D) (a : Option Addr) (cap : Nat) (w : World) (h : InD w d a cap) (bd : (Num.digs 10 d.m).length ≤ 400 ∧ -10400 ≤ d.e ∧ d.e ≤ 10001) (htab : Pow w) :
    Calls Tryz.prog 46 #[decV d a cap] w fun en w' => en = .returned (.bool (longB d)) ∧ Below w.heap.size w w' := by
  have lm := limbs_400 bd.1
  have CD := fun W (hb : Below w.heap.size w W) => limb_Digits a cap (Num.limbs d.m) W (h.u.below hb) (by omega) (htab.next hb)
  rw [Num.worth_limbs] at CD
  unfold longB decV
  have hz := limbs_zero_iff d.m
  obtain ⟨g, m, e⟩ := d
  simp only at *
  obtain ⟨D0, hD⟩ : ∃ D, D = (Num.digs 10 m).length := ⟨_, rfl⟩
  rw [← hD] at CD bd ⊢
  obtain ⟨n, hn⟩ : ∃ n, n = (Num.limbs m).length := ⟨_, rfl⟩
  rw [← hn] at CD hz lm ⊢
  have hm : decide (m ≠ 0) = decide (0 < n) := by rw [decide_eq_decide]; omega
  rw [hm]
  replace CD := hid CD
  have hw : IntKind.i64.wrap (e + (D0 : Int)) = e + (D0 : Int) := IntWalk.i64_in _ (by omega)
  clear h htab hD hn hz hm
  by_cases h0 : n = 0
  · have h1 : ¬ 0 < n := by omega
    have h1' : ¬ (0 : Int) < n := by omega
    clear h0
    go_enter Tryz.func46, Tryz.ntmps46
    go_wp2_with fail
    go_quiet (fail)
    all_goals
      go_wp2
      go_ret
      exact ⟨by simp [h1], below_drewN ((Below.refl _ _).alloc (Nat.le_refl _) _) _⟩
  · have h1 : 0 < n := by omega
    have h1' : (0 : Int) < n := by omega
    go_enter Tryz.func46, Tryz.ntmps46
    go_wp2_with fail
    go_region_law (go_simp; go_at_call 36; refine (CD.out _ (((Below.refl _ _).alloc (Nat.le_refl _) _).drew)).mono ?_; rintro e1 w1 ⟨rfl, hb1⟩; have hc2 : w1.cell? ⟨w.heap.size, 2, none⟩ = some (.int .i64 e) := (by rw [(bcell hb1).1 _ _ (by simp)]; simp))
    all_goals
      have HB := hid (below_alloc (below_trans ((Below.refl _ _).drew) hb1))
      clear hb1
      go_wp2
      go_ret
      exact ⟨by simp [h1, Act.put], HB.out⟩

end Go.Proofs.YtiblmkecipoanaaGreatDoor

namespace Go.Proofs.YtiblmkecipoanaaGreatDoor
open Go.RowKit

/-- What Rem tells. -/
def remR (er : Nat) (x y : D) : D × Nat :=
  if er ≠ 0 then (zeroD, er) else if longB x = true ∨ longB y = true then (zeroD, 3) else if wholeN y = 0 then (zeroD, 4) else tellR (plainD x.neg (wholeN x % wholeN y) 0)

theorem whole_len {d : D} (bd : (Num.digs 10 d.m).length ≤ 400) (hl : longB d = false) : (Num.digs 10 (wholeN d)).length ≤ 400 := by
  unfold wholeN
  by_cases h0 : 0 ≤ d.e
  · rw [if_pos h0]
    by_cases hm : d.m = 0
    · rw [hm, Nat.zero_mul, Num.digs_zero]; simp
    · rw [Num.digs_length_mul_pow (by decide) hm]
      unfold longB at hl
      rw [decide_eq_true hm, Bool.true_and, decide_eq_false_iff_not] at hl
      omega
  · rw [if_neg h0]
    exact Nat.le_trans (Num.digs_length_mono (by decide) (Nat.div_le_self _ _)) bd

set_option maxRecDepth 100000 in
set_option maxHeartbeats 6400000 in
theorem rem_walk (g : Bool) (a : Option Addr) (n cap : Nat) (e : Int) (g2 : Bool) (a2 : Option Addr) (n2 cap2 : Nat) (e2 : Int) (w : World) (htab : Pow w) (x y : D) (er : Nat)
    (CT : ∀ W, Below w.heap.size w W → Calls Tryz.prog 35 #[.agg #[.bool g, .slice a n cap, .int .i64 e], .agg #[.bool g2, .slice a2 n2 cap2, .int .i64 e2]] W (OutDD W x y er))
    (hp : er = 0 → IsPlain x ∧ fitsB x = true ∧ IsPlain y ∧ fitsB y = true) :
    Calls Tryz.prog 14 #[.agg #[.bool g, .slice a n cap, .int .i64 e], .agg #[.bool g2, .slice a2 n2 cap2, .int .i64 e2]] w (OutDE w (remR er x y).1 (remR er x y).2) := by
  obtain ⟨r, hr⟩ : ∃ r, r = remR er x y := ⟨_, rfl⟩
  rw [← hr]
  replace hr := hid hr
  replace CT := hid CT
  replace hp := hid hp
  replace htab := hid htab
  go_enter Tryz.func14, Tryz.ntmps14
  go_upto_region 1 with fail
  go_cut [6, 7, 8] from 19 (fun v6 v7 v8 w' => ∃ N M b1 c1 b2 c2, v6 = .pointer (some ⟨N, 0, none⟩) ∧ v7 = .pointer (some ⟨M, 0, none⟩) ∧ v8 = .int .i64 er ∧ AddAt w w' x y N M b1 c1 b2 c2)
  case first =>
    as_aux_lemma =>
      go_wp2_with fail
      refine (CT.out _ ((((Below.refl _ _).alloc (Nat.le_refl _) _).alloc (by simp) _).alloc (by simp; omega) _)).mono ?_
      rintro e1 w1 ⟨b1, c1, b2, c2, rfl, ho1, ho2⟩
      have HB1 := hid (below_alloc (below_alloc (below_alloc ho1.1)))
      have R3 := hid (show Cells3 w1 (w.heap.size + 1 + 1) from Cells3.below ⟨_, _, _, _, by simpa using blk_new2 (w.alloc _) _ _⟩ ho1.1)
      have I1 := hid ho1
      have I2 := hid ho2
      clear ho1 ho2 CT
      unfold decV
      go_wp2_with fail
      go_meet
      case rel =>
        exact ⟨w1.heap.size, w1.heap.size + 1, b1, c1, b2, c2, rfl, rfl, rfl, TwoD.new HB1.out (by simp) I1.out I2.out, R3.out.below (((Below.refl _ _).alloc (Nat.le_refl _) _).alloc (by simp) _)⟩
  case rest =>
    obtain ⟨N, M, b1, c1, b2, c2, rfl, rfl, rfl, AT⟩ := hcut
    have l1 := AT.two.l1
    have l2 := AT.two.l2
    obtain ⟨⟨k0, k1, k2⟩, _⟩ := blk_three AT.two.h1
    obtain ⟨⟨q0, q1, q2⟩, _⟩ := blk_three AT.two.h2
    obtain ⟨r0, r1, r2, p0, p1, p2⟩ := AT.res.get
    have f0 := AT.res.frozen 0
    have f1 := AT.res.frozen 1
    have f2 := AT.res.frozen 2
    replace AT := hid AT
    clear CT
    by_cases h0 : er = 0
    · obtain ⟨px, fx, py, fy⟩ := hp.out h0
      have hne : ((er : Int) != 0) = false := by rw [bne_eq_false_iff_eq]; omega
      have bx := plain_bounds px fx
      have bY := plain_bounds py fy
      have hcall := run_callFunc Tryz.func46 (by kernel_rfl) (by kernel_rfl)
      have CL1 := rem_long x b1 c1 wc AT.out.two.i1 bx (htab.out.next AT.out.two.bel)
      have CL2 := fun W (hb : Below wc.heap.size wc W) => rem_long y b2 c2 W (AT.out.two.i2.below hb) bY (htab.out.next (AT.out.two.bel.trans (hb.mono AT.out.two.bel.size)))
      obtain ⟨lx, hlx⟩ : ∃ b, b = longB x := ⟨_, rfl⟩
      obtain ⟨ly, hly⟩ : ∃ b, b = longB y := ⟨_, rfl⟩
      rw [← hlx] at CL1
      rw [← hly] at CL2
      unfold decV at CL1 CL2
      replace CL1 := hid CL1
      replace CL2 := hid CL2
      have hr1 := hid (show r = (if lx = true ∨ ly = true then (zeroD, 3) else if wholeN y = 0 then (zeroD, 4) else tellR (plainD x.neg (wholeN x % wholeN y) 0)) by rw [hr.out]; unfold remR; rw [if_neg (by omega), ← hlx, ← hly])
      have HPX := hid (⟨px, fx⟩ : IsPlain x ∧ fitsB x = true)
      have HPY := hid (⟨py, fy⟩ : IsPlain y ∧ fitsB y = true)
      have HLX := hid hlx
      have HLY := hid hly
      have HBX := hid bx
      have HBY := hid bY
      clear h0 hp hr px py fx fy bx bY hlx hly
      go_upto_region 5 with fail
      go_cut [37] from 19 (fun v37 w' => v37 = .bool (lx || ly) ∧ Below wc.heap.size wc w')
      case first =>
        go_wp2_with fail
        refine CL1.out.mono ?_
        rintro e1 w1 ⟨rfl, hb1⟩
        have HB1 := hid hb1
        have z2 := blk_lt AT.out.two.h2
        have t0 := (bcell hb1).1 M 0 z2
        have t1 := (bcell hb1).1 M 1 z2
        have t2 := (bcell hb1).1 M 2 z2
        rw [q0] at t0
        rw [q1] at t1
        rw [q2] at t2
        clear hb1 CL1
        cases lx with
        | true =>
          go_wp2_with fail
          go_meet
          case rel => exact ⟨rfl, HB1.out⟩
        | false =>
          go_wp2_with fail
          refine (CL2.out _ HB1.out).mono ?_
          rintro e2 w2 ⟨rfl, hb2⟩
          have HB2 := hid (below_trans HB1.out hb2)
          clear hb2 CL2
          go_wp2_with fail
          go_meet
          case rel => exact ⟨by simp, HB2.out⟩
      case rest =>
        obtain ⟨rfl, hb⟩ := hcut
        replace AT := hid (AT.out.next hb)
        clear hb CL1 CL2 hcall k0 k1 k2 q0 q1 q2 p0 p1 p2 f0 f1 f2
        obtain ⟨⟨k0, k1, k2⟩, _⟩ := blk_three AT.out.two.h1
        obtain ⟨⟨q0, q1, q2⟩, _⟩ := blk_three AT.out.two.h2
        obtain ⟨_, _, _, p0, p1, p2⟩ := AT.out.res.get
        have f0 := AT.out.res.frozen 0
        have f1 := AT.out.res.frozen 1
        have f2 := AT.out.res.frozen 2
        by_cases hl : lx = true ∨ ly = true
        · have hlo : (lx || ly) = true := by simpa using hl
          have HR := hid (show r = (zeroD, 3) by rw [hr1.out, if_pos hl])
          rw [hlo]
          clear hl hlo hr1
          go_wp2
          refine bodyPost_ret (v := .tuple #[decV zeroD none 0, .int .i64 3]) (by simp [results, Tryz.results14, go_sem, p0, p1, p2, decV, zeroD]; rfl) rfl ?_
          rw [HR.out]
          exact ⟨none, 0, rfl, below_put AT.out.two.bel (by omega) false none 0 0 0, World.ownsRow_nil _ _ _ _⟩
        · obtain ⟨rfl, rfl⟩ : lx = false ∧ ly = false := by cases lx <;> cases ly <;> simp at hl ⊢
          have hwx := whole_len HBX.out.1 HLX.out.symm
          have hwy := whole_len HBY.out.1 HLY.out.symm
          have hr2 := hid (show r = (if wholeN y = 0 then (zeroD, 4) else tellR (plainD x.neg (wholeN x % wholeN y) 0)) by rw [hr1.out, if_neg hl])
          rw [show (false || false) = false from rfl]
          have CS1 := quot_split x b1 c1 wc AT.out.two.i1 HPX.out.1 HPX.out.2
          have CS2 := fun W (hb : Below wc.heap.size wc W) => quot_split y b2 c2 W (AT.out.two.i2.below hb) HPY.out.1 HPY.out.2
          obtain ⟨X', hX'⟩ : ∃ v, v = wholeN x := ⟨_, rfl⟩
          obtain ⟨Y', hY'⟩ : ∃ v, v = wholeN y := ⟨_, rfl⟩
          rw [← hX'] at CS1 hwx
          rw [← hY'] at CS2 hwy
          rw [← hX', ← hY'] at hr2
          have lX := limbs_400 hwx
          have lY := limbs_400 hwy
          unfold decV at CS1 CS2
          replace CS1 := hid CS1
          replace CS2 := hid CS2
          clear hl hr1 hX' hY' hwx hwy HPX HPY HLX HLY HBX HBY
          go_upto_region 7 with fail
          go_cut [10] from 19 (fun v10 w' => ∃ a10 c10, v10 = .slice a10 (Num.limbs X').length c10 ∧ U32 w' a10 (Num.limbs X') ∧ Below wc.heap.size wc w')
          case first =>
            as_aux_lemma =>
              go_wp2_with fail
              refine CS1.out.mono ?_
              rintro e1 w1 ⟨a10, c10, rfl, hb1, ho1⟩
              have HB1 := hid hb1
              have HO1 := hid ho1
              clear hb1 ho1 CS1
              go_wp2_with fail
              go_meet
              case rel => exact ⟨a10, c10, rfl, u32_limbs HO1.out, HB1.out⟩
          case rest =>
            obtain ⟨a10, c10, rfl, hu10, hb⟩ := hcut
            have CS3 := CS2.out wc hb
            replace AT := hid (AT.out.next hb)
            have HU10 := hid hu10
            replace CS3 := hid CS3
            clear hb hu10 CS1 CS2 k0 k1 k2 q0 q1 q2 p0 p1 p2 f0 f1 f2
            obtain ⟨⟨q0, q1, q2⟩, _⟩ := blk_three AT.out.two.h2
            go_upto_region 8 with fail
            go_cut [13] from 19 (fun v13 w' => ∃ a13 c13, v13 = .slice a13 (Num.limbs Y').length c13 ∧ U32 w' a13 (Num.limbs Y') ∧ Below wc.heap.size wc w')
            case first =>
              as_aux_lemma =>
                go_wp2_with fail
                refine CS3.out.mono ?_
                rintro e1 w1 ⟨a13, c13, rfl, hb1, ho1⟩
                have HB1 := hid hb1
                have HO1 := hid ho1
                clear hb1 ho1 CS3
                go_wp2_with fail
                go_meet
                case rel => exact ⟨a13, c13, rfl, u32_limbs HO1.out, HB1.out⟩
            case rest =>
              obtain ⟨a13, c13, rfl, hu13, hb⟩ := hcut
              replace AT := hid (AT.out.next hb)
              replace HU10 := hid (HU10.out.below hb)
              clear hb CS3 q0 q1 q2
              obtain ⟨⟨k0, k1, k2⟩, _⟩ := blk_three AT.out.two.h1
              obtain ⟨_, _, _, p0, p1, p2⟩ := AT.out.res.get
              have f0 := AT.out.res.frozen 0
              have f1 := AT.out.res.frozen 1
              have f2 := AT.out.res.frozen 2
              by_cases hy0 : Y' = 0
              · subst hy0
                have HR := hid (show r = (zeroD, 4) by rw [hr2.out, if_pos rfl])
                clear hr2
                rw [show (Num.limbs 0).length = 0 from rfl]
                go_wp2
                refine bodyPost_ret (v := .tuple #[decV zeroD none 0, .int .i64 4]) (by simp [results, Tryz.results14, go_sem, p0, p1, p2, decV, zeroD]; rfl) rfl ?_
                rw [HR.out]
                exact ⟨none, 0, rfl, below_put AT.out.two.bel (by omega) false none 0 0 0, World.ownsRow_nil _ _ _ _⟩
              · have hly : (((Num.limbs Y').length : Int) == 0) = false := by rw [beq_eq_false_iff_ne]; have := limbs_zero_iff Y'; omega
                have HR := hid (show r = tellR (plainD x.neg (X' % Y') 0) by rw [hr2.out, if_neg hy0])
                have CM := limb_DivMod a10 a13 c10 c13 (Num.limbs X') (Num.limbs Y') wc HU10.out hu13 (by omega) (by omega) (by rw [Num.worth_limbs]; exact hy0)
                rw [Num.worth_limbs, Num.worth_limbs] at CM
                obtain ⟨Z, hZ⟩ : ∃ v, v = X' % Y' := ⟨_, rfl⟩
                rw [← hZ] at CM HR
                have lZ : (Num.limbs Z).length ≤ 45 := Nat.le_trans (Num.digs_length_mono Num.two_le_B9 (by rw [hZ]; exact Nat.mod_le _ _)) lX
                unfold OutUUE at CM
                replace CM := hid CM
                clear hr2 hy0 hu13 HU10 hZ p0 p1 p2 f0 f1 f2
                go_upto_region 11 with fail
                go_cut [17] from 19 (fun v17 w' => ∃ a17 c17, v17 = .slice a17 (Num.limbs Z).length c17 ∧ U32 w' a17 (Num.limbs Z) ∧ Below wc.heap.size wc w')
                case first =>
                  as_aux_lemma =>
                    go_wp2_with fail
                    refine CM.out.mono ?_
                    rintro e1 w1 ⟨a16, c16, a17, c17, rfl, hb1, ho1, ho2⟩
                    have HB1 := hid hb1
                    have HO2 := hid ho2
                    clear hb1 ho1 ho2 CM
                    go_wp2_with fail
                    go_meet
                    case rel => exact ⟨a17, c17, rfl, u32_limbs HO2.out, HB1.out⟩
                case rest =>
                  obtain ⟨a17, c17, rfl, hu17, hb⟩ := hcut
                  replace AT := hid (AT.out.next hb)
                  clear hb CM k0 k1 k2
                  obtain ⟨⟨k0, k1, k2⟩, _⟩ := blk_three AT.out.two.h1
                  have hltN := blk_lt AT.out.two.h1
                  have CN := dec_Norm x.neg a17 c17 0 (Num.limbs Z) wc hu17 (htab.out.next AT.out.two.bel)
                  rw [Num.worth_limbs] at CN
                  obtain ⟨t1, t2⟩ := taken_tell2 (g := x.neg) (Q := Z) (nearB_iff.2 ⟨(by omega : (Num.limbs Z).length ≤ 200), by omega, by omega⟩ : nearB (Num.limbs Z).length 0 = true)
                  rw [t1, t2] at CN
                  obtain ⟨t, ht⟩ : ∃ t, t = tellR (plainD x.neg Z 0) := ⟨_, rfl⟩
                  rw [← ht] at CN
                  have HR2 := hid (HR.out.trans ht.symm)
                  unfold OutDE decV at CN
                  replace CN := hid CN
                  clear t1 t2 ht HR hu17
                  go_wp2_with fail
                  refine CN.out.mono ?_
                  rintro e1 w1 ⟨a3, c3, rfl, ho3⟩
                  have hr3 := AT.out.res.below ho3.1
                  obtain ⟨_, _, _, p0, p1, p2⟩ := hr3.get
                  have f0 := hr3.frozen 0
                  have f1 := hr3.frozen 1
                  have f2 := hr3.frozen 2
                  have HB3 := hid (below_trans AT.out.two.bel ho3.1)
                  have HO3 := hid (owns_mono (owns_set3 (R := w.heap.size + 1 + 1) ho3.2 (by omega) (.bool t.1.neg) (.slice a3 (Num.limbs t.1.m).length c3) (.int .i64 t.1.e)) (show w.heap.size ≤ _ by omega))
                  clear ho3 hr3 CN
                  go_wp2_with fail
                  refine bodyPost_ret (v := .tuple #[decV t.1 a3 c3, .int .i64 t.2]) (by simp [results, Tryz.results14, go_sem, p0, p1, p2, decV]) rfl ?_
                  rw [HR2.out]
                  exact ⟨a3, c3, rfl, below_put HB3.out (by omega) _ _ _ _ _, HO3.out⟩
    · have hne : ((er : Int) != 0) = true := by rw [bne_iff_ne]; omega
      have HR := hid (show r = (zeroD, er) by rw [hr.out]; unfold remR; rw [if_pos h0])
      clear h0 hp hr
      go_wp2
      refine bodyPost_ret (v := .tuple #[decV zeroD none 0, .int .i64 er]) (by simp [results, Tryz.results14, go_sem, p0, p1, p2, decV, zeroD]; rfl) rfl ?_
      rw [HR.out]
      exact ⟨none, 0, rfl, below_put AT.out.two.bel (by omega) false none 0 0 0, World.ownsRow_nil _ _ _ _⟩

theorem quot_Rem (g : Bool) (a : Option Addr) (cap : Nat) (e : Int) (xs : List Nat) (g2 : Bool) (a2 : Option Addr) (cap2 : Nat) (e2 : Int) (ys : List Nat) (w : World) (h : U32 w a xs) (h2 : U32 w a2 ys) (htab : Pow w) :
    Calls Tryz.prog 14 #[.agg #[.bool g, .slice a xs.length cap, .int .i64 e], .agg #[.bool g2, .slice a2 ys.length cap2, .int .i64 e2]] w
      (OutDE w (remR (bothE (takenE g xs.length (Num.worth xs) e) (takenE g2 ys.length (Num.worth ys) e2)) (takenD g xs.length (Num.worth xs) e) (takenD g2 ys.length (Num.worth ys) e2)).1
        (remR (bothE (takenE g xs.length (Num.worth xs) e) (takenE g2 ys.length (Num.worth ys) e2)) (takenD g xs.length (Num.worth xs) e) (takenD g2 ys.length (Num.worth ys) e2)).2) := by
  refine rem_walk g a xs.length cap e g2 a2 ys.length cap2 e2 w htab _ _ _ (fun W hb => quot_taken g a cap e xs g2 a2 cap2 e2 ys W (h.below hb) (h2.below hb) (htab.next hb)) ?_
  intro h0
  obtain ⟨z1, z2⟩ := bothE_zero h0
  have t1 := taken_facts z1
  have t2 := taken_facts z2
  exact ⟨t1.1, t1.2, t2.1, t2.2⟩

end Go.Proofs.YtiblmkecipoanaaGreatDoor

namespace Go.Proofs.YtiblmkecipoanaaGreatDoor
open Go.RowKit

theorem small_dec (n : Nat) (hn : n < 10 ^ 6) : smallN (Lib.decDigits n) = n := by
  have hl := Num.decDigits_le n 6 (by decide) hn
  by_cases h0 : n = 0
  · subst h0
    rw [Num.decDigits_zero]; rfl
  · obtain ⟨c, r, e, hc⟩ := decD_head h0
    have e2 : Lib.trimLeftB (Lib.decDigits n) 48 = Lib.decDigits n := by
      unfold Lib.trimLeftB
      rw [e, List.dropWhile_cons, if_neg (by simpa using hc)]
    unfold smallN
    rw [e2, if_neg (by omega), num10_dec]

theorem tail_itoa (h : Int) (h1 : -10000 ≤ h) (h2 : h ≤ 10000) : tailL (101 :: Lib.itoa h) = some h := by
  have hd := fun n => take_join (Lib.decDigits n) [] (dec_digs_all n) noD_nil
  simp only [List.append_nil] at hd
  have hne : ∀ n, Lib.decDigits n ≠ [] := fun n e => by have := Num.decDigits_pos n; rw [e] at this; simp at this
  unfold tailL
  simp only [show (101 : UInt8).toNat = 101 ∨ (101 : UInt8).toNat = 69 from .inl rfl, if_true]
  by_cases hn : h < 0
  · have e1 : Lib.itoa h = 45 :: Lib.decDigits h.natAbs := by unfold Lib.itoa; rw [if_pos hn]
    have e2 : Lib.hasPrefix (45 :: Lib.decDigits h.natAbs) [45] = true := by simp [Lib.hasPrefix, List.isPrefixOf]
    have e3 : Lib.trimPrefix (45 :: Lib.decDigits h.natAbs) [45] = Lib.decDigits h.natAbs := by unfold Lib.trimPrefix; rw [if_pos e2]; rfl
    rw [e1]
    simp only [e2, if_true, e3, (hd _).1, (hd _).2]
    rw [if_neg (by simp [hne]), small_dec _ (by omega)]
    congr 1; omega
  · have e1 : Lib.itoa h = Lib.decDigits h.toNat := by unfold Lib.itoa; rw [if_neg hn]
    obtain ⟨c, r, e⟩ : ∃ c r, Lib.decDigits h.toNat = c :: r := by
      cases hh : Lib.decDigits h.toNat with | nil => exact absurd hh (hne _) | cons c r => exact ⟨c, r, rfl⟩
    have hc := dec_digs_all h.toNat c (by rw [e]; simp)
    have e2 : Lib.hasPrefix (Lib.decDigits h.toNat) [45] = false := by
      rw [e]; simp [Lib.hasPrefix, List.isPrefixOf]
      intro e; rw [← e] at hc; exact absurd hc.1 (by decide)
    have e3 : Lib.trimPrefix (Lib.decDigits h.toNat) [43] = Lib.decDigits h.toNat := by
      unfold Lib.trimPrefix
      rw [if_neg]
      rw [e]; simp [Lib.hasPrefix, List.isPrefixOf]
      intro e; rw [← e] at hc; exact absurd hc.1 (by decide)
    rw [e1]
    simp only [e2, Bool.false_eq_true, if_false, e3, (hd _).1, (hd _).2]
    rw [if_neg (by simp [hne]), small_dec _ (by omega)]
    congr 1; omega

theorem parse_of {l wh be : List UInt8} {x : Int} {d : D} (j : Nat) (hp : IsPlain d) (hf : fitsB d = true) (hs : scanL l = some (d.neg, wh, be, x)) (hl : l.length ≤ 1000)
    (hm : num10 (wh ++ be) 0 = d.m * 10 ^ j) (hx : x - be.length = d.e - j) : parseR l = (d, 0) := by
  unfold parseR
  rw [hs]
  simp only
  rw [if_neg (by omega), hm, hx, plainD_mul hp, if_pos hf]

theorem tail_nil : tailL [] = some 0 := rfl

theorem text_parse {d : D} (hp : IsPlain d) (hf : fitsB d = true) : parseR (textL d) = (d, 0) ∧ (textL d).length ≤ 1000 := by
  by_cases h0 : d.m = 0
  · rw [hp.1 h0]; exact ⟨rfl, by decide⟩
  · obtain ⟨b1, b2, b3⟩ := fits_iff hf h0
    obtain ⟨M, hM⟩ : ∃ M, M = Lib.decDigits d.m := ⟨_, rfl⟩
    have hMl : M.length = (Num.digs 10 d.m).length := by rw [hM]; exact Num.decDigits_len _ h0
    have hMd : Digs M := by rw [hM]; exact dec_digs_all _
    have hMn : num10 M 0 = d.m := by rw [hM]; exact num10_dec _
    obtain ⟨c, r, hcr, hc⟩ : ∃ c r, M = c :: r ∧ c ≠ 48 := by rw [hM]; exact decD_head h0
    have ht : textL d = (if d.neg = true then [45] else []) ++ figL M d.e (d.e + M.length - 1) := by
      unfold textL; rw [if_neg h0, ← hM, hMl]
    have hsg : (if d.neg = true then [(45 : UInt8)] else []).length ≤ 1 := by split <;> simp
    have hMpos : 1 ≤ M.length := by rw [hcr]; simp
    rw [ht]
    rw [← hMl] at b1 b2 b3
    obtain ⟨h, hh⟩ : ∃ h, h = d.e + M.length - 1 := ⟨_, rfl⟩
    rw [← hh] at b2 b3 ⊢
    unfold figL
    by_cases hA : 0 ≤ d.e ∧ h ≤ 20
    · rw [if_pos hA]
      have S := scan_join d.neg (M ++ List.replicate d.e.toNat 48) [] [] (fun x hx => (List.mem_append.1 hx).elim (hMd x) (fun hx => by rw [List.eq_of_mem_replicate hx]; exact ⟨by decide, by decide⟩)) (by rw [hcr]; simp) (by rw [hcr]; simp [hc]) (fun x hx => by simp at hx) noD_nil rfl
      simp only [if_true, List.append_nil, tail_nil, Option.map_some] at S
      have hlen : ((if d.neg = true then [(45 : UInt8)] else []) ++ (M ++ List.replicate d.e.toNat 48)).length ≤ 1000 := by
        simp only [List.length_append, List.length_replicate]; omega
      refine ⟨parse_of d.e.toNat hp hf S hlen ?_ ?_, hlen⟩
      · rw [List.append_nil, num10_append, hMn, num10_zeros]
      · simp; omega
    · rw [if_neg hA]
      by_cases hB : d.e < 0 ∧ -7 ≤ h
      · rw [if_pos hB]
        simp only
        obtain ⟨zn, hzn⟩ : ∃ zn, zn = (1 - d.e - M.length).toNat := ⟨_, rfl⟩
        rw [← hzn]
        obtain ⟨z, hz⟩ : ∃ z, z = List.replicate zn 48 ++ M := ⟨_, rfl⟩
        rw [← hz]
        have hzl : z.length = zn + M.length := by rw [hz]; simp
        obtain ⟨p, hpp⟩ : ∃ p, p = (z.length + d.e).toNat := ⟨_, rfl⟩
        rw [← hpp]
        have hp1 : 1 ≤ p := by omega
        have hpl : p < z.length := by omega
        have hpe : (z.length : Int) - p = - d.e := by omega
        have hzd : Digs z := fun x hx => by
          rw [hz] at hx
          exact (List.mem_append.1 hx).elim (fun hx => by rw [List.eq_of_mem_replicate hx]; exact ⟨by decide, by decide⟩) (hMd x)
        have hzm : num10 z 0 = d.m := by rw [hz, num10_append, num10_zeros, Nat.zero_mul, hMn]
        have hbe : z.drop p ≠ [] := by intro e; have := congrArg List.length e; simp at this; omega
        have S := scan_join d.neg (z.take p) (z.drop p) [] (fun x hx => hzd x (List.mem_of_mem_take hx)) (by intro e; have := congrArg List.length e; rw [List.length_take, List.length_nil] at this; omega) (by
          rintro ⟨k1, k2⟩
          rw [List.length_take] at k1
          have hz0 : zn = 0 := by omega
          rw [hz, hz0, hcr] at k2
          cases p with
          | zero => omega
          | succ p => simp at k2; exact hc k2) (fun x hx => hzd x (List.mem_of_mem_drop hx)) noD_nil rfl
        rw [if_neg hbe] at S
        simp only [List.append_nil, tail_nil, Option.map_some] at S
        have hlen : ((if d.neg = true then [(45 : UInt8)] else []) ++ (z.take p ++ 46 :: z.drop p)).length ≤ 1000 := by
          simp only [List.length_append, List.length_cons, List.length_take, List.length_drop]; omega
        refine ⟨parse_of 0 hp hf S hlen ?_ ?_, hlen⟩
        · rw [List.take_append_drop, hzm]; simp
        · rw [List.length_drop]; omega
      · rw [if_neg hB]
        have e1 : (if 1 < M.length then M.take 1 ++ 46 :: M.drop 1 else M) = [c] ++ (if r = [] then [] else 46 :: r) := by
          rw [hcr]
          cases r with
          | nil => simp
          | cons a r => simp
        rw [e1]
        have S := scan_join d.neg [c] r (101 :: Lib.itoa h) (fun x hx => by rw [List.mem_singleton] at hx; subst hx; exact hMd x (by rw [hcr]; simp)) (by simp) (by simp) (fun x hx => hMd x (by rw [hcr]; simp [hx])) (noD_cons (by decide)) (by simp [Lib.hasPrefix, List.isPrefixOf])
        rw [tail_itoa h (by omega) (by omega)] at S
        simp only [Option.map_some, ← List.append_assoc] at S
        simp only [← List.append_assoc]
        have hit := itoa_len h ⟨by omega, by omega⟩
        have hrl : r.length + 1 = M.length := by rw [hcr]; simp
        have hr2 : (if r = [] then [] else (46 : UInt8) :: r).length ≤ r.length + 1 := by split <;> simp
        have hlen : ((if d.neg = true then [(45 : UInt8)] else []) ++ [c] ++ (if r = [] then [] else 46 :: r) ++ 101 :: Lib.itoa h).length ≤ 1000 := by
          simp only [List.length_append, List.length_cons, List.length_nil]; omega
        refine ⟨parse_of 0 hp hf S hlen ?_ ?_, hlen⟩
        · rw [show [c] ++ r = M by rw [hcr]; rfl, hMn]; simp
        · omega

end Go.Proofs.YtiblmkecipoanaaGreatDoor

namespace Go.Proofs.YtiblmkecipoanaaGreatDoor
open Go.RowKit

theorem atoi_whole (neg : Bool) (l : List UInt8) (h : Digs l) (h0 : l ≠ []) (hl : l.length ≤ 17) : Lib.atoiAll ((if neg = true then [45] else []) ++ l) = .ok (if neg = true then -((num10 l 0 : Nat) : Int) else ((num10 l 0 : Nat) : Int)) := by
  have hb : 10 ^ l.length ≤ 10 ^ 17 := Nat.pow_le_pow_right (by decide) hl
  have e := parse_num l 0 h (by omega)
  have hlt := num10_lt l h
  cases neg with
  | true =>
    simp only [if_true, List.singleton_append]
    unfold Lib.atoiAll Lib.parseMag
    simp only [show (45 : UInt8).toNat = 45 from rfl, or_true, if_true, if_neg h0, e, not_true_eq_false, false_and, if_false, true_and]
    rw [if_neg (by omega)]
  | false =>
    simp only [Bool.false_eq_true, if_false, List.nil_append]
    cases l with
    | nil => exact absurd rfl h0
    | cons c r =>
      have hc := h c (by simp)
      unfold Lib.atoiAll Lib.parseMag
      have h43 : ¬ c.toNat = 43 := by omega
      have h45 : ¬ c.toNat = 45 := by omega
      simp only [h43, h45, or_self, if_false, if_neg h0, e, not_false_eq_true, true_and, false_and]
      rw [if_neg (by omega)]

/-- What Int tells. -/
def intR (er : Nat) (d : D) : Int × Nat :=
  if er ≠ 0 then (0, er) else if d.e < 0 then (0, 9) else if 16 < d.e + (Num.digs 10 d.m).length then (0, 3)
  else if 9007199254740992 < wholeN d then (0, 3) else (if d.neg = true then -((wholeN d : Nat) : Int) else ((wholeN d : Nat) : Int), 0)

theorem int_text {d : D} (hd : IsPlain d) (h0 : 0 ≤ d.e) (h16 : ¬ 16 < d.e + (Num.digs 10 d.m).length) :
    Lib.atoiAll (textL d) = .ok (if d.neg = true then -((wholeN d : Nat) : Int) else ((wholeN d : Nat) : Int)) ∧ (textL d).length ≤ 100 := by
  unfold textL wholeN
  rw [if_pos h0]
  by_cases hm : d.m = 0
  · have := hd.1 hm
    rw [if_pos hm, this]
    exact ⟨by decide, by decide⟩
  · rw [if_neg hm]
    obtain ⟨k, hk⟩ : ∃ k : Nat, d.e = (k : Int) := ⟨d.e.toNat, by omega⟩
    have hkn : d.e.toNat = k := by omega
    have hl : (Lib.decDigits d.m).length = (Num.digs 10 d.m).length := Num.decDigits_len d.m hm
    have hp := digs_pos10 hm
    have hf : figL (Lib.decDigits d.m) d.e (d.e + (Num.digs 10 d.m).length - 1) = Lib.decDigits d.m ++ List.replicate k 48 := by
      unfold figL
      rw [if_pos ⟨h0, by omega⟩, hkn]
    rw [hf, hkn]
    have hD : Digs (Lib.decDigits d.m ++ List.replicate k 48) := fun c hc => by
      rcases List.mem_append.1 hc with h | h
      · exact dec_digs_all d.m c h
      · have := List.eq_of_mem_replicate h
        rw [this]; exact ⟨by decide, by decide⟩
    have hlen : (Lib.decDigits d.m ++ List.replicate k 48).length ≤ 16 := by
      rw [List.length_append, List.length_replicate, hl]; omega
    have hne : Lib.decDigits d.m ++ List.replicate k 48 ≠ [] := by
      intro e
      have := congrArg List.length e
      rw [List.length_append, hl] at this
      simp only [List.length_nil] at this
      omega
    have := atoi_whole d.neg _ hD hne (by omega)
    rw [num10_append, num10_dec, num10_zeros] at this
    refine ⟨this, ?_⟩
    rw [List.length_append]
    split <;> simp only [List.length_cons, List.length_nil] <;> omega

set_option maxRecDepth 100000 in
set_option maxHeartbeats 3200000 in
theorem quot_Int (g : Bool) (a : Option Addr) (cap : Nat) (e : Int) (xs : List Nat) (w : World) (h : U32 w a xs) (htab : Pow w) :
    Calls Tryz.prog 16 #[.agg #[.bool g, .slice a xs.length cap, .int .i64 e]] w fun en w' =>
      en = .returned (.tuple #[.int .i64 (intR (takenE g xs.length (Num.worth xs) e) (takenD g xs.length (Num.worth xs) e)).1, .int .i64 ((intR (takenE g xs.length (Num.worth xs) e) (takenD g xs.length (Num.worth xs) e)).2 : Nat)]) ∧ Below w.heap.size w w' := by
  have CN := fun W (hb : Below w.heap.size w W) => dec_Norm g a cap e xs W (h.below hb) (htab.next hb)
  have hp : takenE g xs.length (Num.worth xs) e = 0 → IsPlain (takenD g xs.length (Num.worth xs) e) ∧ fitsB (takenD g xs.length (Num.worth xs) e) = true := fun h => taken_facts h
  obtain ⟨d, hd⟩ : ∃ x, x = takenD g xs.length (Num.worth xs) e := ⟨_, rfl⟩
  obtain ⟨er, her⟩ : ∃ x, x = takenE g xs.length (Num.worth xs) e := ⟨_, rfl⟩
  obtain ⟨n, hn⟩ : ∃ n, n = xs.length := ⟨_, rfl⟩
  rw [← hd, ← her] at CN hp
  rw [← hd, ← her]
  rw [← hn] at CN ⊢
  obtain ⟨r, hr⟩ : ∃ r, r = intR er d := ⟨_, rfl⟩
  rw [← hr]
  unfold OutDE at CN
  replace CN := hid CN
  replace hp := hid hp
  replace hr := hid hr
  have HTAB := hid htab
  clear h htab hd her hn
  go_enter Tryz.func16, Tryz.ntmps16
  go_upto_region 1 with fail
  go_cut [4, 5] from 10 (fun v4 v5 w' => ∃ N b c, v4 = .pointer (some ⟨N, 0, none⟩) ∧ v5 = .int .i64 er ∧ HasD w' N d.neg (Num.limbs d.m) d.e b c ∧ Below w.heap.size w w')
  case first =>
    as_aux_lemma =>
      go_wp2_with fail
      refine (CN.out _ ((Below.refl _ _).alloc (Nat.le_refl _) _)).mono ?_
      rintro e1 w1 ⟨b, c, rfl, ho1⟩
      have HO := hid ho1
      clear ho1 CN
      unfold decV
      go_wp2_with fail
      go_meet
      case rel => exact ⟨w1.heap.size, b, c, rfl, rfl, HasD.new HO.out.inD, (below_alloc HO.out.1).alloc (below_alloc HO.out.1).size _⟩
  case rest =>
    obtain ⟨N, b, c, rfl, rfl, hH, hB⟩ := hcut
    obtain ⟨⟨k0, k1, k2⟩, _⟩ := blk_three hH.blk
    have HH := hid hH
    have HB := hid hB
    clear hH hB CN
    by_cases h0 : er = 0
    · obtain ⟨pd, fd⟩ := hp.out h0
      have hne : ((er : Int) != 0) = false := by rw [bne_eq_false_iff_eq]; omega
      have bd := plain_bounds pd fd
      by_cases he : d.e < 0
      · have HR := hid (show r = (0, 9) by rw [hr.out]; unfold intR; rw [if_neg (by omega), if_pos he])
        clear hr hp h0 pd fd bd
        go_wp2
        go_ret2
        rw [HR.out]
        exact ⟨rfl, HB.out⟩
      · have lm := limbs_400 bd.1
        have CD := fun W (hb : Below wc.heap.size wc W) => limb_Digits b c (Num.limbs d.m) W (HH.out.u.below hb) (by omega) (HTAB.out.next (HB.out.trans (hb.mono HB.out.size)))
        rw [Num.worth_limbs] at CD
        have hts := taken_self pd fd
        have CT := fun W (hb : Below wc.heap.size wc W) => dec_Text d.neg b c d.e (Num.limbs d.m) W (HH.out.u.below hb) (HTAB.out.next (HB.out.trans (hb.mono HB.out.size)))
        rw [hts.1, hts.2] at CT
        rw [if_pos rfl] at CT
        obtain ⟨dd, hdd⟩ : ∃ x, x = (Num.digs 10 d.m).length := ⟨_, rfl⟩
        rw [← hdd] at CD
        have hdd4 : dd ≤ 400 := by rw [hdd]; exact bd.1
        have hw : IntKind.i64.wrap (d.e + (dd : Int)) = d.e + (dd : Int) := IntWalk.i64_in _ (by omega)
        have hr1 := hid (show r = (if 16 < d.e + (dd : Int) then (0, 3) else if 9007199254740992 < wholeN d then (0, 3) else (if d.neg = true then -((wholeN d : Nat) : Int) else ((wholeN d : Nat) : Int), 0)) by rw [hr.out, hdd]; unfold intR; rw [if_neg (by omega), if_neg he])
        have hit := fun h16 => int_text pd (by omega) h16
        rw [← hdd] at hit
        unfold OutSE at CT
        replace CD := hid CD
        replace CT := hid CT
        replace hit := hid hit
        obtain ⟨lg, hlg⟩ : ∃ b, b = decide (16 < d.e + (dd : Int)) := ⟨_, rfl⟩
        replace hlg := hid hlg
        clear hr hp h0 pd fd bd hdd hts
        go_upto_region 6 with fail
        go_cut [23] from 10 (fun v23 w' => v23 = .bool lg ∧ Below wc.heap.size wc w')
        case first =>
          go_wp2_with fail
          go_region_held3 (fun w' => w'.cell? ⟨N, 1, none⟩ = some (.slice b (Num.limbs d.m).length c) ∧ w'.cell? ⟨N, 2, none⟩ = some (.int .i64 d.e) ∧ Below wc.heap.size wc w') (first | assumption | (exact ⟨k1, k2, (Below.refl _ _).drew⟩) | (exact keepL (by assumption) (by assumption))) ((go_at_call 36; (with_reducible refine (CD.out _ ?_).mono ?_); (simp only [*]); rintro e1 w1 ⟨rfl, hb1⟩))
          all_goals
            rename_i hHeld
            have HB1 := hid hHeld.2.2
            clear hHeld
            go_wp2_with fail
            go_meet
            case rel => exact ⟨by rw [hlg.out], HB1.out⟩
        case rest =>
          obtain ⟨rfl, hb⟩ := hcut
          have CT1 := CT.out wc hb
          have HB2 := hid (below_trans HB.out hb)
          obtain ⟨⟨k0, k1, k2⟩, _⟩ := blk_three (HH.out.below hb).blk
          replace CT1 := hid CT1
          clear hb CT CD HB
          cases lg with
          | true =>
            have HR := hid (show r = (0, 3) by rw [hr1.out, if_pos (of_decide_eq_true hlg.out.symm)])
            clear hr1
            go_wp2
            go_ret2
            rw [HR.out]
            exact ⟨rfl, HB2.out⟩
          | false =>
            have h16 := of_decide_eq_false hlg.out.symm
            have HI := hid (hit.out h16)
            have hr2 := hid (show r = (if 9007199254740992 < wholeN d then (0, 3) else (if d.neg = true then -((wholeN d : Nat) : Int) else ((wholeN d : Nat) : Int), 0)) by rw [hr1.out, if_neg h16])
            obtain ⟨T, hT⟩ : ∃ T : ByteArray, T = ⟨(textL d).toArray⟩ := ⟨_, rfl⟩
            obtain ⟨v, hv⟩ : ∃ v : Int, v = (if d.neg = true then -((wholeN d : Nat) : Int) else ((wholeN d : Nat) : Int)) := ⟨_, rfl⟩
            have CA := fun W => Tryz.strconv_Atoi_ok T (by rw [hT]; have := HI.out.2; simp [ByteArray.size]; omega) v (by rw [hT, hv]; exact HI.out.1) W
            have CT2 := CT1.out
            rw [← hT] at CT2
            replace CT2 := hid CT2
            replace CA := hid CA
            have hvW : v = (wholeN d : Nat) ∨ v = -((wholeN d : Nat) : Int) := by rw [hv]; split <;> simp
            rw [← hv] at hr2
            replace hv := hid hv
            clear hr1 h16 hit hlg CT1 hT
            obtain ⟨V, hV⟩ : ∃ V, V = wholeN d := ⟨_, rfl⟩
            rw [← hV] at hr2 hvW
            clear hV hv HI
            go_wp2_with fail
            refine CT2.out.mono ?_
            rintro e1 w1 ⟨rfl, hb1⟩
            have HB3 := hid (below_trans HB2.out hb1)
            clear hb1 CT2
            go_wp2_with fail
            refine (CA.out _).mono ?_
            rintro e2 w2 ⟨rfl, hw2⟩
            have HB4 : Hid (Below w.heap.size w w2) := by
              rcases hw2 with rfl | ⟨t, rfl⟩
              · exact HB3.out
              · exact below_trans HB3.out (Lib.bytesWorld_below _ _ _)
            clear hw2 CA
            by_cases hbig : 9007199254740992 < V
            · have HR := hid (show r = (0, 3) by rw [hr2.out, if_pos hbig])
              clear hr2
              by_cases hlo : v < -9007199254740992
              · go_wp2
                go_ret2
                rw [HR.out]
                exact ⟨rfl, HB4.out⟩
              · have hhi : (9007199254740992 : Int) < v := by omega
                go_wp2
                go_ret2
                rw [HR.out]
                exact ⟨rfl, HB4.out⟩
            · have HR := hid (show r = (v, 0) by rw [hr2.out, if_neg hbig])
              have hlo : ¬ v < -9007199254740992 := by omega
              have hhi : ¬ (9007199254740992 : Int) < v := by omega
              clear hr2
              go_wp2
              go_ret2
              rw [HR.out]
              exact ⟨rfl, HB4.out⟩
    · have hne : ((er : Int) != 0) = true := by rw [bne_iff_ne]; omega
      have HR := hid (show r = (0, er) by rw [hr.out]; unfold intR; rw [if_pos h0])
      clear h0 hp hr
      go_wp2
      go_ret2
      rw [HR.out]
      exact ⟨rfl, HB.out⟩

end Go.Proofs.YtiblmkecipoanaaGreatDoor

namespace Go.Proofs.YtiblmkecipoanaaGreatDoor
open Go.RowKit

theorem ex_div : divR 0 (plainD false 1 0) (plainD false 3 0) = (⟨false, 3333333333333333333333333333333333, -34⟩, 0) := by decide +kernel
theorem ex_text : textL ⟨false, 3333333333333333333333333333333333, -34⟩ = [48, 46] ++ List.replicate 34 51 := by decide +kernel
theorem ex_parse1 : parseR [45, 55, 46, 57] = (⟨true, 79, -1⟩, 0) := by decide +kernel
theorem ex_parse2 : parseR [50, 46, 53] = (⟨false, 25, -1⟩, 0) := by decide +kernel
theorem ex_rem : remR 0 ⟨true, 79, -1⟩ ⟨false, 25, -1⟩ = (⟨true, 1, 0⟩, 0) := by decide +kernel
theorem ex_round : roundR 0 ⟨true, 25, -1⟩ 3 = (⟨true, 3, 0⟩, 0) := by decide +kernel
theorem ex_int : intR 0 ⟨false, 1, 3⟩ = (1000, 0) := by decide +kernel

end Go.Proofs.YtiblmkecipoanaaGreatDoor

namespace Go.Proofs.YtiblmkecipoanaaGreatDoor
open Go.RowKit

def thirdD : D := ⟨false, 3333333333333333333333333333333333, -34⟩
theorem take1 : takenD false (Num.limbs 1).length (Num.worth (Num.limbs 1)) 0 = ⟨false, 1, 0⟩ ∧ takenE false (Num.limbs 1).length (Num.worth (Num.limbs 1)) 0 = 0 := by decide +kernel
theorem take3 : takenD false (Num.limbs 3).length (Num.worth (Num.limbs 3)) 0 = ⟨false, 3, 0⟩ ∧ takenE false (Num.limbs 3).length (Num.worth (Num.limbs 3)) 0 = 0 := by decide +kernel
theorem takeT : takenD false (Num.limbs thirdD.m).length (Num.worth (Num.limbs thirdD.m)) (-34) = thirdD ∧ takenE false (Num.limbs thirdD.m).length (Num.worth (Num.limbs thirdD.m)) (-34) = 0 := by decide +kernel
theorem take79 : takenD true (Num.limbs 79).length (Num.worth (Num.limbs 79)) (-1) = ⟨true, 79, -1⟩ ∧ takenE true (Num.limbs 79).length (Num.worth (Num.limbs 79)) (-1) = 0 := by decide +kernel
theorem take25 : takenD false (Num.limbs 25).length (Num.worth (Num.limbs 25)) (-1) = ⟨false, 25, -1⟩ ∧ takenE false (Num.limbs 25).length (Num.worth (Num.limbs 25)) (-1) = 0 := by decide +kernel
theorem take25n : takenD true [25].length (Num.worth [25]) (-1) = ⟨true, 25, -1⟩ ∧ takenE true [25].length (Num.worth [25]) (-1) = 0 := by decide +kernel
theorem take1000 : takenD false [1].length (Num.worth [1]) 3 = ⟨false, 1, 3⟩ ∧ takenE false [1].length (Num.worth [1]) 3 = 0 := by decide +kernel
theorem of1 : plainD false 1 0 = ⟨false, 1, 0⟩ ∧ plainD false 3 0 = ⟨false, 3, 0⟩ ∧ plainD true 1 0 = ⟨true, 1, 0⟩ ∧ plainD true 3 0 = ⟨true, 3, 0⟩ := by decide +kernel

theorem c_div (W : World) (a1 : Option Addr) (c1 : Nat) (a2 : Option Addr) (c2 : Nat) (h1 : U32 W a1 (Num.limbs 1)) (h2 : U32 W a2 (Num.limbs 3)) (htab : Pow W) :
    Calls Tryz.prog 11 #[.agg #[.bool false, .slice a1 (Num.limbs 1).length c1, .int .i64 0], .agg #[.bool false, .slice a2 (Num.limbs 3).length c2, .int .i64 0]] W (OutDE W thirdD 0) := by
  have h := quot_Div false a1 c1 0 (Num.limbs 1) false a2 c2 0 (Num.limbs 3) W h1 h2 htab
  rw [take1.1, take1.2, take3.1, take3.2] at h
  have e : divR (bothE 0 0) ⟨false, 1, 0⟩ ⟨false, 3, 0⟩ = (thirdD, 0) := by decide +kernel
  rw [e] at h
  exact h
theorem c_text (W : World) (a1 : Option Addr) (c1 : Nat) (h1 : U32 W a1 (Num.limbs thirdD.m)) (htab : Pow W) :
    Calls Tryz.prog 33 #[.agg #[.bool false, .slice a1 (Num.limbs thirdD.m).length c1, .int .i64 (-34)]] W (OutSE W ([48, 46] ++ List.replicate 34 51) 0) := by
  have h := dec_Text false a1 c1 (-34) (Num.limbs thirdD.m) W h1 htab
  rw [takeT.1, takeT.2, if_pos rfl] at h
  rw [show textL thirdD = [48, 46] ++ List.replicate 34 51 from ex_text] at h
  exact h
theorem c_rem (W : World) (a1 : Option Addr) (c1 : Nat) (a2 : Option Addr) (c2 : Nat) (h1 : U32 W a1 (Num.limbs 79)) (h2 : U32 W a2 (Num.limbs 25)) (htab : Pow W) :
    Calls Tryz.prog 14 #[.agg #[.bool true, .slice a1 (Num.limbs 79).length c1, .int .i64 (-1)], .agg #[.bool false, .slice a2 (Num.limbs 25).length c2, .int .i64 (-1)]] W (OutDE W ⟨true, 1, 0⟩ 0) := by
  have h := quot_Rem true a1 c1 (-1) (Num.limbs 79) false a2 c2 (-1) (Num.limbs 25) W h1 h2 htab
  rw [take79.1, take79.2, take25.1, take25.2] at h
  have e : remR (bothE 0 0) ⟨true, 79, -1⟩ ⟨false, 25, -1⟩ = (⟨true, 1, 0⟩, 0) := by decide +kernel
  rw [e] at h
  exact h
theorem c_round (W : World) (a1 : Option Addr) (c1 : Nat) (h1 : U32 W a1 [25]) (htab : Pow W) :
    Calls Tryz.prog 23 #[.agg #[.bool true, .slice a1 1 c1, .int .i64 (-1)]] W (OutDE W ⟨true, 3, 0⟩ 0) := by
  have h := quot_Round true a1 c1 (-1) [25] W h1 htab
  rw [take25n.1, take25n.2, ex_round] at h
  exact h
theorem c_int (W : World) (a1 : Option Addr) (c1 : Nat) (h1 : U32 W a1 [1]) (htab : Pow W) :
    Calls Tryz.prog 16 #[.agg #[.bool false, .slice a1 1 c1, .int .i64 3]] W fun en w' => en = .returned (.tuple #[.int .i64 1000, .int .i64 0]) ∧ Below W.heap.size W w' := by
  have h := quot_Int false a1 c1 3 [1] W h1 htab
  rw [take1000.1, take1000.2, ex_int] at h
  exact h

end Go.Proofs.YtiblmkecipoanaaGreatDoor

namespace Go.Proofs.YtiblmkecipoanaaGreatDoor
open Go.RowKit

theorem law3_same (g g2 : Bool) (a a2 : Option Addr) (cap cap2 : Nat) (e e2 : Int) (xs ys : List Nat) (w : World) (h : U32 w a xs) (h2 : U32 w a2 ys) (hn : xs.length ≤ 1000000000000) :
    Calls Tryz.prog 13 #[.agg #[.bool g, .slice a xs.length cap, .int .i64 e], .agg #[.bool g2, .slice a2 ys.length cap2, .int .i64 e2]] w fun en w' => en = .returned (.bool (decide (g = g2 ∧ e = e2 ∧ xs = ys))) ∧ Below w.heap.size w w' := by
  have C := fun W (hb : Below w.heap.size w W) => ref2_Same g g2 a a2 cap cap2 e e2 xs ys W (h.below hb) (h2.below hb) hn
  obtain ⟨r, hr⟩ : ∃ r, r = decide (g = g2 ∧ e = e2 ∧ xs = ys) := ⟨_, rfl⟩
  rw [← hr] at C ⊢
  obtain ⟨n, hn2⟩ : ∃ n, n = xs.length := ⟨_, rfl⟩
  obtain ⟨n2, hn3⟩ : ∃ n, n = ys.length := ⟨_, rfl⟩
  rw [← hn2, ← hn3] at C ⊢
  have C := hid C
  clear h h2 hn hn2 hn3 hr
  go_enter Tryz.func13, Tryz.ntmps13
  go_wp2_with fail
  refine (C.out _ (((Below.refl _ _).alloc (Nat.le_refl _) _).alloc (by simp) _)).mono ?_
  rintro e1 w1 ⟨rfl, hb1⟩
  have HB := hid (below_alloc (below_alloc hb1))
  clear hb1
  go_wp2
  go_ret
  exact ⟨rfl, HB.out⟩


set_option maxRecDepth 100000 in
set_option maxHeartbeats 3200000 in
theorem law3_shown (w : World) (htab : Pow w) :
    Calls Tryz.prog 10 #[] w fun en w' => en = .returned (.bool true) ∧ Below w.heap.size w w' := by
  have HTAB := hid htab
  clear htab
  go_enter Tryz.func10, Tryz.ntmps10
  go_upto_region 1 with fail
  go_cut [1, 2] from 15 (fun v1 v2 w' => ∃ N b c, v1 = .pointer (some ⟨N, 0, none⟩) ∧ v2 = .int .i64 0 ∧ HasD w' N thirdD.neg (Num.limbs thirdD.m) thirdD.e b c ∧ Below w.heap.size w w')
  case first =>
    as_aux_lemma =>
      have C1 : ∀ W, Pow W → Calls Tryz.prog 30 #[.int .i64 1] W (OutD W ⟨false, 1, 0⟩) := fun W hW => of1.1 ▸ dec_Of_pos 1 W (by decide) hW
      have C3 : ∀ W, Pow W → Calls Tryz.prog 30 #[.int .i64 3] W (OutD W ⟨false, 3, 0⟩) := fun W hW => of1.2.1 ▸ dec_Of_pos 3 W (by decide) hW
      unfold OutD decV at C1 C3
      replace C1 := hid C1
      replace C3 := hid C3
      have CD := hid c_div
      go_wp2_with fail
      refine (C1.out _ HTAB.out).mono ?_
      rintro e1 w1 ⟨b1, c1, rfl, ho1⟩
      have HO1 := hid ho1
      clear ho1
      go_wp2_with fail
      refine (C3.out _ (HTAB.out.next HO1.out.1)).mono ?_
      rintro e2 w2 ⟨b2, c2, rfl, ho2⟩
      have HO2 := hid ho2
      clear ho2
      go_wp2_with fail
      refine (CD.out _ _ _ _ _ (HO1.out.inD.u.below HO2.out.1) HO2.out.inD.u (HTAB.out.next (below_trans HO1.out.1 HO2.out.1))).mono ?_
      rintro e3 w3 ⟨b3, c3, rfl, ho3⟩
      have HO3 := hid ho3
      have HB3 := hid (below_trans (below_trans HO1.out.1 HO2.out.1) ho3.1)
      clear ho3 CD C1 C3
      unfold decV
      go_wp2_with fail
      go_meet
      case rel => exact ⟨w3.heap.size, b3, c3, rfl, rfl, HasD.new HO3.out.inD, HB3.out.alloc HB3.out.size _⟩
  case rest =>
    obtain ⟨N1, b1, c1, rfl, rfl, hH1, hB⟩ := hcut
    have HH1 := hid hH1
    have HB := hid hB
    obtain ⟨⟨k0, k1, k2⟩, _⟩ := blk_three hH1.blk
    clear hH1 hB
    go_upto_region 2 with fail
    go_cut [3] from 15 (fun v3 w' => v3 = .string ⟨#[48, 46, 51, 51, 51, 51, 51, 51, 51, 51, 51, 51, 51, 51, 51, 51, 51, 51, 51, 51, 51, 51, 51, 51, 51, 51, 51, 51, 51, 51, 51, 51, 51, 51, 51, 51]⟩ ∧ Below wc.heap.size wc w')
    case first =>
      as_aux_lemma =>
        have CT := hid (c_text wc b1 c1 HH1.out.u (HTAB.out.next HB.out))
        go_wp2_with fail
        refine CT.out.mono ?_
        rintro e1 w1 ⟨rfl, hb1⟩
        have HB1 := hid hb1
        clear hb1 CT
        go_wp2_with fail
        go_meet
        case rel => exact ⟨rfl, HB1.out⟩
    case rest =>
      obtain ⟨rfl, hb⟩ := hcut
      replace HB := hid (below_trans HB.out hb)
      clear hb HH1 k0 k1 k2 b1 c1
      go_upto_region 3 with fail
      go_cut [5] from 15 (fun v w' => ∃ N b c, v = .pointer (some ⟨N, 0, none⟩) ∧ HasD w' N true (Num.limbs 79) (-1) b c ∧ Below wc.heap.size wc w')
      case first =>
        as_aux_lemma =>
          have CP := dec_Parse [45, 55, 46, 57] (by decide) wc (HTAB.out.next HB.out)
          rw [ex_parse1] at CP
          unfold OutDE decV at CP
          replace CP := hid CP
          go_wp2_with fail
          refine CP.out.mono ?_
          rintro e1 w1 ⟨b1, c1, rfl, ho1⟩
          have HO := hid ho1
          clear ho1 CP
          go_wp2_with fail
          go_meet
          case rel => exact ⟨w1.heap.size, b1, c1, rfl, HasD.new HO.out.inD, HO.out.1.alloc HO.out.1.size _⟩
      case rest =>
        obtain ⟨N2, b2, c2, rfl, hN2, hb⟩ := hcut
        replace HB := hid (below_trans HB.out hb)
        have H2 := hid hN2
        clear hb hN2
        go_upto_region 4 with fail
        go_cut [7] from 15 (fun v w' => ∃ N b c, v = .pointer (some ⟨N, 0, none⟩) ∧ HasD w' N false (Num.limbs 25) (-1) b c ∧ Below wc.heap.size wc w')
        case first =>
          as_aux_lemma =>
            have CP := dec_Parse [50, 46, 53] (by decide) wc (HTAB.out.next HB.out)
            rw [ex_parse2] at CP
            unfold OutDE decV at CP
            replace CP := hid CP
            go_wp2_with fail
            refine CP.out.mono ?_
            rintro e1 w1 ⟨b1, c1, rfl, ho1⟩
            have HO := hid ho1
            clear ho1 CP
            go_wp2_with fail
            go_meet
            case rel => exact ⟨w1.heap.size, b1, c1, rfl, HasD.new HO.out.inD, HO.out.1.alloc HO.out.1.size _⟩
        case rest =>
          obtain ⟨N3, b3, c3, rfl, hN3, hb⟩ := hcut
          replace HB := hid (below_trans HB.out hb)
          replace H2 := hid (H2.out.below hb)
          have H3 := hid hN3
          clear hb hN3
          obtain ⟨⟨k0, k1, k2⟩, _⟩ := blk_three H2.out.blk
          obtain ⟨⟨q0, q1, q2⟩, _⟩ := blk_three H3.out.blk
          go_upto_region 5 with fail
          go_cut [9, 10] from 15 (fun v v10 w' => ∃ N b c, v = .pointer (some ⟨N, 0, none⟩) ∧ v10 = .int .i64 0 ∧ HasD w' N true (Num.limbs 1) 0 b c ∧ Below wc.heap.size wc w')
          case first =>
            as_aux_lemma =>
              have CR := c_rem wc b2 c2 b3 c3 H2.out.u H3.out.u (HTAB.out.next HB.out)
              unfold OutDE decV at CR
              replace CR := hid CR
              go_wp2_with fail
              refine CR.out.mono ?_
              rintro e1 w1 ⟨b1, c1, rfl, ho1⟩
              have HO := hid ho1
              clear ho1 CR
              go_wp2_with fail
              go_meet
              case rel => exact ⟨w1.heap.size, b1, c1, rfl, rfl, HasD.new HO.out.inD, HO.out.1.alloc HO.out.1.size _⟩
          case rest =>
            obtain ⟨N4, b4, c4, rfl, rfl, hN4, hb⟩ := hcut
            replace HB := hid (below_trans HB.out hb)
            have H4 := hid hN4
            clear hb hN4 H2 H3 k0 k1 k2 q0 q1 q2
            go_upto_region 6 with fail
            go_cut [11, 12] from 15 (fun v v12 w' => ∃ N b c, v = .pointer (some ⟨N, 0, none⟩) ∧ v12 = .int .i64 0 ∧ HasD w' N true (Num.limbs 3) 0 b c ∧ Below wc.heap.size wc w')
            case first =>
              as_aux_lemma =>
                have CR := fun W N c hu hW => c_round W (some ⟨N, 0, none⟩) c hu hW
                unfold OutDE decV at CR
                replace CR := hid CR
                go_wp2_with fail
                refine (CR.out _ _ _ (u32_one (by decide) (blk_cell (blk_new wc _) 0)) ((HTAB.out.next HB.out).alloc _)).mono ?_
                rintro e1 w1 ⟨b1, c1, rfl, ho1⟩
                have HO := hid ho1
                have HB1 := hid (below_alloc ho1.1)
                clear ho1 CR
                go_wp2_with fail
                go_meet
                case rel => exact ⟨w1.heap.size, b1, c1, rfl, rfl, HasD.new HO.out.inD, HB1.out.alloc HB1.out.size _⟩
            case rest =>
              obtain ⟨N5, b5, c5, rfl, rfl, hN5, hb⟩ := hcut
              replace HB := hid (below_trans HB.out hb)
              replace H4 := hid (H4.out.below hb)
              have H5 := hid hN5
              clear hb hN5
              go_upto_region 7 with fail
              go_cut [13, 14] from 15 (fun v v14 w' => v = .int .i64 1000 ∧ v14 = .int .i64 0 ∧ Below wc.heap.size wc w')
              case first =>
                as_aux_lemma =>
                  have CI := hid fun W N c hu hW => c_int W (some ⟨N, 0, none⟩) c hu hW
                  go_wp2_with fail
                  refine (CI.out _ _ _ (u32_one (by decide) (blk_cell (blk_new wc _) 0)) ((HTAB.out.next HB.out).alloc _)).mono ?_
                  rintro e1 w1 ⟨rfl, hb1⟩
                  have HB1 := hid (below_alloc hb1)
                  clear hb1 CI
                  go_wp2_with fail
                  go_meet
                  case rel => exact ⟨rfl, rfl, HB1.out⟩
              case rest =>
                obtain ⟨rfl, rfl, hb⟩ := hcut
                replace HB := hid (below_trans HB.out hb)
                replace H4 := hid (H4.out.below hb)
                replace H5 := hid (H5.out.below hb)
                obtain ⟨⟨k0, k1, k2⟩, _⟩ := blk_three H4.out.blk
                obtain ⟨⟨q0, q1, q2⟩, _⟩ := blk_three H5.out.blk
                clear hb
                have O1 : ∀ W, Below wc.heap.size wc W → Calls Tryz.prog 30 #[.int .i64 (-1)] W (OutD W ⟨true, 1, 0⟩) := fun W hb => of1.2.2.1 ▸ dec_Of_neg 1 W (by decide) (by decide) (HTAB.out.next (HB.out.trans (hb.mono HB.out.size)))
                have O3 : ∀ W, Below wc.heap.size wc W → Calls Tryz.prog 30 #[.int .i64 (-3)] W (OutD W ⟨true, 3, 0⟩) := fun W hb => of1.2.2.2 ▸ dec_Of_neg 3 W (by decide) (by decide) (HTAB.out.next (HB.out.trans (hb.mono HB.out.size)))
                unfold OutD OwnD decV at O1 O3
                dsimp only at O1 O3
                have S1 : ∀ W a c, Below wc.heap.size wc W → U32 W a (Num.limbs 1) → Calls Tryz.prog 13 #[.agg #[.bool true, .slice b4 (Num.limbs 1).length c4, .int .i64 0], .agg #[.bool true, .slice a (Num.limbs 1).length c, .int .i64 0]] W fun e w' => e = .returned (.bool true) ∧ Below W.heap.size W w' := by
                  intro W a c hb hu
                  have := law3_same true true b4 a c4 c 0 0 (Num.limbs 1) (Num.limbs 1) W (H4.out.u.below hb) hu (by decide)
                  simpa using this
                have S3 : ∀ W a c, Below wc.heap.size wc W → U32 W a (Num.limbs 3) → Calls Tryz.prog 13 #[.agg #[.bool true, .slice b5 (Num.limbs 3).length c5, .int .i64 0], .agg #[.bool true, .slice a (Num.limbs 3).length c, .int .i64 0]] W fun e w' => e = .returned (.bool true) ∧ Below W.heap.size W w' := by
                  intro W a c hb hu
                  have := law3_same true true b5 a c5 c 0 0 (Num.limbs 3) (Num.limbs 3) W (H5.out.u.below hb) hu (by decide)
                  simpa using this
                replace O1 := hid O1
                replace O3 := hid O3
                replace S1 := hid S1
                replace S3 := hid S3
                go_upto_region 8 with fail
                go_region_held3 (fun w' => w'.cell? ⟨N4, 0, none⟩ = some (.bool true) ∧ w'.cell? ⟨N4, 1, none⟩ = some (.slice b4 (Num.limbs 1).length c4) ∧ w'.cell? ⟨N4, 2, none⟩ = some (.int .i64 0) ∧ w'.cell? ⟨N5, 0, none⟩ = some (.bool true) ∧ w'.cell? ⟨N5, 1, none⟩ = some (.slice b5 (Num.limbs 3).length c5) ∧ w'.cell? ⟨N5, 2, none⟩ = some (.int .i64 0) ∧ Below wc.heap.size wc w') (first | assumption | (exact ⟨k0, k1, k2, q0, q1, q2, (Below.refl _ _).drew⟩) | (exact keepT (by assumption) (Nat.le_refl _) (by assumption))) ((first | (go_at_call 30; first | ((with_reducible refine (O1.out _ ?_).mono ?_); (simp only [*]); rintro e1 w1 ⟨bo1, co1, rfl, ho1⟩; have hb1 := ho1.1) | ((with_reducible refine (O3.out _ ?_).mono ?_); (simp only [*]); rintro e3 w3 ⟨bo3, co3, rfl, ho3⟩; have hb3 := ho3.1)) | (go_at_call 13; first | ((with_reducible refine (S1.out _ _ _ ?_ (u32_limbs ho1.2)).mono ?_); (simp only [*]); rintro e2 w2 ⟨rfl, hb2⟩) | ((with_reducible refine (S3.out _ _ _ ?_ (u32_limbs ho3.2)).mono ?_); (simp only [*]); rintro e4 w4 ⟨rfl, hb4⟩))))
                all_goals
                  rename_i hHeld
                  have HBF := hid (below_trans HB.out hHeld.2.2.2.2.2.2)
                  clear hHeld
                  go_wp2
                  go_ret
                  exact ⟨rfl, HBF.out⟩

end Go.Proofs.YtiblmkecipoanaaGreatDoor
