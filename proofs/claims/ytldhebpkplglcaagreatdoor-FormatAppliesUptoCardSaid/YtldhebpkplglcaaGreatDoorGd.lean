/- emit.writer.value = jsonJ. emit.writer.value = jsonJ: lists, fields, all. emit.writer.value = jsonJ: fields; all values. emit.begin, emit.Text at the empty style. -/
import Derived.Test.YtldhebpkplglcaaGreatDoorGc
import Derived.Test.YtldhebpkplglcaaGreatDoorSmall
namespace Go.Proofs.YtldhebpkplglcaaGreatDoor
open Go.RowKit

theorem jsonJ0 (f : Nat) {v : JV} (h : v.kind = 0) : jsonJ f v = nullT := by unfold jsonJ; rw [if_pos h]
theorem jsonJ1 (f : Nat) {v : JV} (h : v.kind = 1) : jsonJ f v = falseT := by unfold jsonJ; rw [if_neg (by omega), if_pos h]
theorem jsonJ2 (f : Nat) {v : JV} (h : v.kind = 2) : jsonJ f v = trueT := by unfold jsonJ; rw [if_neg (by omega), if_neg (by omega), if_pos h]
theorem jsonJ3 (f : Nat) {v : JV} (h : v.kind = 3) : jsonJ f v = textL (dOf v) := by unfold jsonJ; rw [if_neg (by omega), if_neg (by omega), if_neg (by omega), if_pos h]
theorem jsonJ4 (f : Nat) {v : JV} (h : v.kind = 4) : jsonJ f v = quoteA false v.s := by unfold jsonJ; rw [if_neg (by omega), if_neg (by omega), if_neg (by omega), if_neg (by omega), if_pos h]
theorem jsonJ5 (f : Nat) {v : JV} (h : v.kind = 5) : jsonJ (f + 1) v = 91 :: (commaL (v.arr.map (jsonJ f)) ++ [93]) := by
  conv => lhs; unfold jsonJ
  rw [if_neg (by omega), if_neg (by omega), if_neg (by omega), if_neg (by omega), if_neg (by omega)]
  dsimp only
  rw [if_pos h]
theorem jsonJ6 (f : Nat) {v : JV} (h : v.kind = 6) : jsonJ (f + 1) v = 123 :: (commaL (v.obj.map fun p => quoteA false p.1 ++ 58 :: jsonJ f p.2) ++ [125]) := by
  conv => lhs; unfold jsonJ
  rw [if_neg (by omega), if_neg (by omega), if_neg (by omega), if_neg (by omega), if_neg (by omega)]
  dsimp only
  rw [if_neg (by omega)]
theorem Cells7.below {w w' : World} {b o : Nat} {kind : Int} {g : Bool} {a : Option Addr} {n c : Nat} {e : Int} {s : List UInt8} {aa : Option Addr} {an ac : Nat} {oa : Option Addr} {on oc : Nat} (h : Cells7 w b o kind g a n c e s aa an ac oa on oc) (hb : Below w.heap.size w w') : Cells7 w' b o kind g a n c e s aa an ac oa on oc := by
  have k : ∀ (q j : Nat) (v : Value), w.cell? ⟨q, j, none⟩ = some v → w'.cell? ⟨q, j, none⟩ = some v := fun q j v h => ((bcell hb).1 _ _ (cell_lt h)).trans h
  obtain ⟨h0, h1, h2, h3, h4, h5, h6⟩ := h
  exact ⟨k _ _ _ h0, k _ _ _ h1, k _ _ _ h2, k _ _ _ h3, k _ _ _ h4, k _ _ _ h5, k _ _ _ h6⟩
theorem Cells8f.below {w w' : World} {b o : Nat} {key : List UInt8} {kind : Int} {g : Bool} {a : Option Addr} {n c : Nat} {e : Int} {s : List UInt8} {aa : Option Addr} {an ac : Nat} {oa : Option Addr} {on oc : Nat} (h : Cells8f w b o key kind g a n c e s aa an ac oa on oc) (hb : Below w.heap.size w w') : Cells8f w' b o key kind g a n c e s aa an ac oa on oc := by
  have k : ∀ (q j : Nat) (v : Value), w.cell? ⟨q, j, none⟩ = some v → w'.cell? ⟨q, j, none⟩ = some v := fun q j v h => ((bcell hb).1 _ _ (cell_lt h)).trans h
  obtain ⟨h0, h1, h2, h3, h4, h5, h6, h7⟩ := h
  exact ⟨k _ _ _ h0, k _ _ _ h1, k _ _ _ h2, k _ _ _ h3, k _ _ _ h4, k _ _ _ h5, k _ _ _ h6, k _ _ _ h7⟩

/-- What value writes, so many levels left. -/
def EmitV (f : Nat) : Prop := ∀ (v : JV) (cs : List Value) (b : Nat) (l : List UInt8) (op : Int) (w0 w : World), mayJ f v = true → SmallV v → RdV w0 cs v → Below w0.heap.size w0 w → Tabs w0 → Wri w0.heap.size b l op w → 0 ≤ op → op + f ≤ 1048576 → l.length + (jsonJ f v).length + 5 ≤ 140737488355328 →
  Calls Tryz.prog 60 #[.pointer (some ⟨b, 0, none⟩), .agg cs.toArray] w fun e w' => e = .returned (.tuple #[]) ∧ Wri w0.heap.size b (l ++ jsonJ f v) op w' ∧ Kept w0.heap.size b w w'

theorem may_kind {f : Nat} {v : JV} (h : mayJ f v = true) : 0 ≤ v.kind ∧ v.kind ≤ 6 := by
  have h1 := may_base h
  simp only [baseB, Bool.and_eq_true, decide_eq_true_eq] at h1
  exact h1.1.1.1.1
theorem emit_leaf (f : Nat) (v : JV) (cs : List Value) (b : Nat) (l : List UInt8) (op : Int) (w0 w : World) (hm : mayJ f v = true) (hk : v.kind < 5) (sm : SmallV v) (rd : RdV w0 cs v) (hb : Below w0.heap.size w0 w) (hT : Tabs w0) (h : Wri w0.heap.size b l op w) (hl : l.length + (jsonJ f v).length + 5 ≤ 140737488355328) :
    Calls Tryz.prog 60 #[.pointer (some ⟨b, 0, none⟩), .agg cs.toArray] w fun e w' => e = .returned (.tuple #[]) ∧ Wri w0.heap.size b (l ++ jsonJ f v) op w' ∧ Kept w0.heap.size b w w' := by
  have hk2 := may_kind hm
  have ht := may_taken hm
  have hs3 : v.s.length ≤ 1048576 := by cases sm; assumption
  obtain ⟨a, c, aa, ac, oa, oc, P⟩ := rd.parts
  have hcs := P.cells
  have hu := P.u
  clear P rd sm
  subst hcs
  obtain hk | hk | hk | hk | hk : v.kind = 0 ∨ v.kind = 1 ∨ v.kind = 2 ∨ v.kind = 3 ∨ v.kind = 4 := by omega
  · rw [jsonJ0 f hk] at hl ⊢
    rw [hk]
    exact emit_value0 _ b l op _ _ _ _ _ _ w h hb.size (by omega)
  · rw [jsonJ1 f hk] at hl ⊢
    rw [hk]
    exact emit_value1 _ b l op _ _ _ _ _ _ w h hb.size (by omega)
  · rw [jsonJ2 f hk] at hl ⊢
    rw [hk]
    exact emit_value2 _ b l op _ _ _ _ _ _ w h hb.size (by omega)
  · rw [jsonJ3 f hk] at hl ⊢
    rw [hk]
    exact emit_value3 _ b l op v.g a c v.e v.ls (dOf v) _ _ _ w h hb.size (hu.below hb) (ht hk) (by omega) (hT.below hb)
  · rw [jsonJ4 f hk] at hl ⊢
    rw [hk]
    exact emit_value4 _ b l v.s op _ _ _ _ _ w h hb.size (by omega) (by omega) (hT.below hb)

end Go.Proofs.YtldhebpkplglcaaGreatDoor

namespace Go.Proofs.YtldhebpkplglcaaGreatDoor
open Go.RowKit

theorem Kept.box {B b : Nat} {w w' : World} (h : Kept B b w w') {K : Nat} {cs : Array Value} {T : TypeId} (hK : w.heap[K]? = some (.cells cs T (0, 0))) (hb : K ≠ b) (hT : T ≠ 5) : w'.heap[K]? = some (.cells cs T (0, 0)) :=
  h.2 K _ hK (fun e => hb (by injection e)) (fun c fz e => hT (by injection e with _ h2 _))
theorem wBox_w (b : Nat) (cells : Array Value) (w : World) : (wBox b cells w).heap[w.heap.size]? = some (.cells #[.pointer (some ⟨b, 0, none⟩)] 101 (0, 0)) := by
  unfold wBox
  rw [Lib.alloc_old _ _ _ (by simp)]
  exact heap_alloc_new w _
theorem wBox_v (b : Nat) (cells : Array Value) (w : World) : (wBox b cells w).heap[w.heap.size + 1]? = some (.cells cells 28 (0, 0)) := by
  have h := heap_alloc_new (w.alloc (.cells #[.pointer (some ⟨b, 0, none⟩)] 101)) (.cells cells 28)
  rwa [show (w.alloc (.cells #[.pointer (some ⟨b, 0, none⟩)] 101)).heap.size = w.heap.size + 1 by simp] at h

theorem emit_list (f : Nat) (IH : EmitV f) (v : JV) (cs : List Value) (b : Nat) (l : List UInt8) (op : Int) (w0 w : World) (hm : mayJ (f + 1) v = true) (hk : v.kind = 5) (sm : SmallV v) (rd : RdV w0 cs v) (hb : Below w0.heap.size w0 w) (hT : Tabs w0) (h : Wri w0.heap.size b l op w) (hop : 0 ≤ op) (hop2 : op + (f + 1) ≤ 1048576) (hl : l.length + (jsonJ (f + 1) v).length + 5 ≤ 140737488355328) :
    Calls Tryz.prog 60 #[.pointer (some ⟨b, 0, none⟩), .agg cs.toArray] w fun e w' => e = .returned (.tuple #[]) ∧ Wri w0.heap.size b (l ++ jsonJ (f + 1) v) op w' ∧ Kept w0.heap.size b w w' := by
  obtain ⟨a, c, aa, ac, oa, oc, P⟩ := rd.parts
  have hcs := P.cells
  have hA := P.arr
  have han := P.ac
  clear P rd
  subst hcs
  have hma : ∀ x ∈ v.arr, mayJ f x = true := by
    simp only [mayJ, Bool.and_eq_true, List.all_eq_true] at hm
    exact hm.1.1.2
  have hsa := sm.arr
  rw [jsonJ5 f hk] at hl ⊢
  rw [hk]
  have hBw := hb.size
  have hbw : b < w.heap.size := LibA.IsBuffer.lt h
  have hlen : (v.arr.map (jsonJ f)).length = v.arr.length := by simp
  have C := emit_value5 w0.heap.size b l op (v.arr.map (jsonJ f)) (.bool v.g) (.slice a v.ls.length c) (.int .i64 v.e) (strV v.s) (.slice oa v.obj.length oc) aa ac w h hBw (by simp only [List.length_cons, List.length_append, List.length_nil] at hl; omega) hop (by omega) (by omega)
  rw [← hlen]
  refine C ?_
  intro i l' w' hi0 hW hK hL
  rw [hlen] at hK
  have hi : i < v.arr.length := by rw [← hlen]; exact hi0
  have hb0 : Below w0.heap.size w0 (wBox b #[.int .i64 5, .bool v.g, .slice a v.ls.length c, .int .i64 v.e, strV v.s, .slice aa v.arr.length ac, .slice oa v.obj.length oc] w) := hb.trans ((wBox_below b _ w).mono hBw)
  have hb1 : Below w0.heap.size w0 w' := hb0.trans hK.1
  obtain ⟨p, off, a1, c1, aa1, ac1, oa1, oc1, haa, P1, C7⟩ := hA.at hi
  have rd1 := P1.rd
  clear P1
  have hbK : w.heap.size ≠ b := by omega
  have hbK1 : w.heap.size + 1 ≠ b := by omega
  have k0 := hK.box (wBox_w b _ w) hbK (by decide)
  have k1 := hK.box (wBox_v b _ w) hbK1 (by decide)
  have hti : (v.arr.map (jsonJ f))[i]'hi0 = jsonJ f v.arr[i] := by simp
  rw [hti] at hL ⊢
  rw [haa] at k1
  refine emit_item (fun w'' => Wri w0.heap.size b (l' ++ jsonJ f v.arr[i]) (op + 1) w'' ∧ Kept w0.heap.size b w' w'') b _ _ p off i _ _ _ _ _ _ v.arr.length ac v.arr[i].kind v.arr[i].g a1 v.arr[i].ls.length c1 v.arr[i].e v.arr[i].s aa1 v.arr[i].arr.length ac1 oa1 v.arr[i].obj.length oc1 w' k0 k1 hi (by omega) (C7.below hb1) ?_
  intro w1 _ hb2
  have hB1 := Nat.le_trans hBw (Nat.le_trans (Below.size (wBox_below b _ w)) hK.1.size)
  refine (IH v.arr[i] _ b l' (op + 1) w0 w1 (hma _ (List.getElem_mem hi)) (hsa _ (List.getElem_mem hi)) rd1 (hb1.trans (hb2.mono hB1)) hT (hW.old hb2) (by omega) (by omega) (by simp only [List.length_cons, List.length_append, List.length_nil] at hl; omega)).mono ?_
  rintro e w2 ⟨rfl, h1, h2⟩
  exact ⟨rfl, h1, ((Kept.refl _ b w').below hB1 hb2).trans h2⟩

end Go.Proofs.YtldhebpkplglcaaGreatDoor

namespace Go.Proofs.YtldhebpkplglcaaGreatDoor
open Go.RowKit

theorem wBoxF_w (b : Nat) (cells : Array Value) (fv : Value) (w : World) : (wBoxF b cells fv w).heap[w.heap.size]? = some (.cells #[.pointer (some ⟨b, 0, none⟩)] 101 (0, 0)) := by
  have h := wBox_w b cells w
  unfold wBoxF
  rw [Lib.alloc_old _ _ _ (Array.getElem?_eq_some_iff.1 h).1]
  exact h
theorem wBoxF_f (b : Nat) (cells : Array Value) (fv : Value) (w : World) : (wBoxF b cells fv w).heap[w.heap.size + 1 + 1]? = some (.cells #[fv] 26 (0, 0)) := by
  have h := heap_alloc_new (wBox b cells w) (.cells #[fv] 26)
  rwa [show (wBox b cells w).heap.size = w.heap.size + 1 + 1 by unfold wBox; simp] at h

theorem emit_flds (f : Nat) (IH : EmitV f) (v : JV) (cs : List Value) (b : Nat) (l : List UInt8) (op : Int) (w0 w : World) (hm : mayJ (f + 1) v = true) (hk : v.kind = 6) (sm : SmallV v) (rd : RdV w0 cs v) (hb : Below w0.heap.size w0 w) (hT : Tabs w0) (h : Wri w0.heap.size b l op w) (hop : 0 ≤ op) (hop2 : op + (f + 1) ≤ 1048576) (hl : l.length + (jsonJ (f + 1) v).length + 5 ≤ 140737488355328) :
    Calls Tryz.prog 60 #[.pointer (some ⟨b, 0, none⟩), .agg cs.toArray] w fun e w' => e = .returned (.tuple #[]) ∧ Wri w0.heap.size b (l ++ jsonJ (f + 1) v) op w' ∧ Kept w0.heap.size b w w' := by
  obtain ⟨a, c, aa, ac, oa, oc, P⟩ := rd.parts
  have hcs := P.cells
  have hO := P.obj
  have hon := P.oc
  clear P rd
  subst hcs
  have hma : ∀ x ∈ v.obj, mayJ f x.2 = true := by
    simp only [mayJ, Bool.and_eq_true, List.all_eq_true] at hm
    exact fun x hx => (hm.1.2 x hx).2
  have hsa := sm.flds
  have hks : ∀ p ∈ v.obj, p.1.length ≤ 1048576 := by cases sm; assumption
  rw [jsonJ6 f hk] at hl ⊢
  rw [hk]
  have hBw := hb.size
  have hbw : b < w.heap.size := LibA.IsBuffer.lt h
  obtain ⟨F, hF⟩ : ∃ F : List UInt8 × JV → List UInt8, F = fun p => quoteA false p.1 ++ 58 :: jsonJ f p.2 := ⟨_, rfl⟩
  rw [← hF] at hl ⊢
  have hlen : (v.obj.map F).length = v.obj.length := by simp
  have C := emit_value6 w0.heap.size b l op (v.obj.map F) (.bool v.g) (.slice a v.ls.length c) (.int .i64 v.e) (strV v.s) (.slice aa v.arr.length ac) oa oc w h hBw (by simp only [List.length_cons, List.length_append, List.length_nil] at hl; omega) hop (by omega) (by omega)
  rw [← hlen]
  refine C ?_
  intro i l' w' hi0 hW hK hL
  rw [hlen] at hK
  have hi : i < v.obj.length := by rw [← hlen]; exact hi0
  have hb0 : Below w0.heap.size w0 (wBoxF b #[.int .i64 6, .bool v.g, .slice a v.ls.length c, .int .i64 v.e, strV v.s, .slice aa v.arr.length ac, .slice oa v.obj.length oc] (.slice oa v.obj.length oc) w) := hb.trans ((wBoxF_below b _ _ w).mono hBw)
  have hb1 : Below w0.heap.size w0 w' := hb0.trans hK.1
  obtain ⟨p, off, a1, c1, aa1, ac1, oa1, oc1, haa, hkl, P1, C8⟩ := hO.at hi
  have rd1 := P1.rd
  clear P1
  have hbK : w.heap.size ≠ b := by omega
  have hbK2 : w.heap.size + 1 + 1 ≠ b := by omega
  have hB1 := Nat.le_trans hBw (Nat.le_trans (Below.size (wBoxF_below b _ _ w)) hK.1.size)
  have hti : (v.obj.map F)[i]'hi0 = quoteA false v.obj[i].1 ++ 58 :: jsonJ f v.obj[i].2 := by rw [List.getElem_map]; exact congrFun hF _
  have hL2 := hL
  rw [hti] at hL2 ⊢
  simp only [List.length_append, List.length_cons] at hL2
  simp only [List.length_cons, List.length_append, List.length_nil] at hl
  have hkk := hks _ (List.getElem_mem hi)
  refine emit_field w0.heap.size b l' (jsonJ f v.obj[i].2) (op + 1) _ _ p off i v.obj.length oc v.obj[i].1 v.obj[i].2.kind v.obj[i].2.g a1 v.obj[i].2.ls.length c1 v.obj[i].2.e v.obj[i].2.s aa1 v.obj[i].2.arr.length ac1 oa1 v.obj[i].2.obj.length oc1 w' hW hB1 (by omega) (by omega) (fun w2 h2 => hT.below (hb1.trans h2.1)) hi ?_ ?_
  · intro w2 h2
    have hK2 := hK.trans h2
    have k0 := hK2.box (wBoxF_w b _ _ w) hbK (by decide)
    have k1 := hK2.box (wBoxF_f b _ _ w) hbK2 (by decide)
    rw [haa] at k1
    exact ⟨by rw [Lib.cell_of_heap k0]; rfl, by rw [Lib.cell_of_heap k1]; rfl, C8.below (hb1.trans h2.1)⟩
  · intro w2 h2 hW2
    exact IH v.obj[i].2 _ b (l' ++ quoteA false v.obj[i].1 ++ [58]) (op + 1) w0 w2 (hma _ (List.getElem_mem hi)) (hsa _ (List.getElem_mem hi)) rd1 (hb1.trans h2.1) hT hW2 (by omega) (by omega) (by simp only [List.length_cons, List.length_append, List.length_nil]; omega)

/-- THE WRITER. -/
theorem emit_value : ∀ f : Nat, EmitV f
  | 0 => fun v cs b l op w0 w hm sm rd hb hT h hop hop2 hl => by
    have hk : v.kind < 5 := by
      simp only [mayJ, Bool.and_eq_true, decide_eq_true_eq] at hm
      exact hm.2
    exact emit_leaf 0 v cs b l op w0 w hm hk sm rd hb hT h hl
  | f + 1 => fun v cs b l op w0 w hm sm rd hb hT h hop hop2 hl => by
    have hk := may_kind hm
    by_cases h5 : v.kind < 5
    · exact emit_leaf (f + 1) v cs b l op w0 w hm h5 sm rd hb hT h hl
    by_cases h6 : v.kind = 5
    · exact emit_list f (emit_value f) v cs b l op w0 w hm h6 sm rd hb hT h hop (by omega) hl
    · exact emit_flds f (emit_value f) v cs b l op w0 w hm (by omega) sm rd hb hT h hop (by omega) hl

end Go.Proofs.YtldhebpkplglcaaGreatDoor

namespace Go.Proofs.YtldhebpkplglcaaGreatDoor
open Go.RowKit

set_option maxRecDepth 100000 in
set_option maxHeartbeats 1600000 in
theorem emit_begin (w : World) :
    Calls Tryz.prog 59 #[.agg #[.int .i64 0, .bool false, .bool false, .bool false]] w fun e w' => ∃ b, w.heap.size ≤ b ∧ e = .returned (.pointer (some ⟨b, 0, none⟩)) ∧ Wri w.heap.size b [] 0 w' ∧ Below w.heap.size w w' := by
  go_enter Tryz.func59, Tryz.ntmps59
  go_wp2_with fail
  go_ret
  have hn := heap_alloc_new (w.alloc (.cells #[.int .i64 0, .bool false, .bool false, .bool false] 58)) (.cells #[.slice none 0 0, .int .i64 0, .int .i8 0, .int .i64 0, .bool false, .bool false, .bool false, .string ⟨#[]⟩, .int .i64 0] 109)
  rw [show (w.alloc (.cells #[.int .i64 0, .bool false, .bool false, .bool false] 58)).heap.size = w.heap.size + 1 by simp] at hn
  refine ⟨w.heap.size + 1, by omega, rfl, ?_, ((Below.refl _ w).alloc (Nat.le_refl _) _).alloc (by simp) _⟩
  refine LibA.zero_isBuffer (lr := 0) (by omega) ⟨_, hn, rfl, rfl, rfl, ?_⟩
  intro i hi
  unfold wR
  match i, hi with
  | 3, _ => rfl
  | 4, _ => rfl
  | 5, _ => rfl
  | 6, _ => rfl
  | 7, _ => rfl
  | 8, _ => rfl
  | (j + 9), _ => simp

set_option maxRecDepth 100000 in
set_option maxHeartbeats 1600000 in
theorem emit_Text (v : JV) (cs : List Value) (w : World) (hm : mayJ 200 v = true) (sm : SmallV v) (rd : RdV w cs v) (hT : Tabs w) (hl : (jsonJ 200 v).length + 5 ≤ 140737488355328) :
    Calls Tryz.prog 36 #[.agg cs.toArray, .agg #[.int .i64 0, .bool false, .bool false, .bool false]] w fun e w' => e = .returned (.tuple #[.string ⟨(jsonJ 200 v).toArray⟩, .int .i64 0]) ∧ Below w.heap.size w w' := by
  obtain ⟨a, c, aa, ac, oa, oc, P⟩ := rd.parts
  have hcs := P.cells
  clear P
  subst hcs
  unfold valCs strV at rd ⊢
  obtain ⟨W, hW⟩ : ∃ W, W = (w.alloc (.cells #[.int .i64 v.kind, .bool v.g, .slice a v.ls.length c, .int .i64 v.e, .string ⟨v.s.toArray⟩, .slice aa v.arr.length ac, .slice oa v.obj.length oc] 28)).alloc (.cells #[.int .i64 0, .bool false, .bool false, .bool false] 58) := ⟨_, rfl⟩
  have hb0 : Below w.heap.size w W := by rw [hW]; exact ((Below.refl _ w).alloc (Nat.le_refl _) _).alloc (by simp) _
  have hX : W.heap[w.heap.size]? = some (.cells #[.int .i64 v.kind, .bool v.g, .slice a v.ls.length c, .int .i64 v.e, .string ⟨v.s.toArray⟩, .slice aa v.arr.length ac, .slice oa v.obj.length oc] 28 (0, 0)) := by
    rw [hW, Lib.alloc_old _ _ _ (by simp)]
    exact heap_alloc_new w _
  have hY : W.heap[w.heap.size + 1]? = some (.cells #[.int .i64 0, .bool false, .bool false, .bool false] 58 (0, 0)) := by
    have h := heap_alloc_new (w.alloc (.cells #[.int .i64 v.kind, .bool v.g, .slice a v.ls.length c, .int .i64 v.e, .string ⟨v.s.toArray⟩, .slice aa v.arr.length ac, .slice oa v.obj.length oc] 28)) (.cells #[.int .i64 0, .bool false, .bool false, .bool false] 58)
    rw [hW]
    rwa [show (w.alloc (.cells #[.int .i64 v.kind, .bool v.g, .slice a v.ls.length c, .int .i64 v.e, .string ⟨v.s.toArray⟩, .slice aa v.arr.length ac, .slice oa v.obj.length oc] 28)).heap.size = w.heap.size + 1 by simp] at h
  have CM := value_May v _ W (rd.stay hb0) (hT.below hb0)
  rw [hm] at CM
  replace CM := hid CM
  obtain ⟨T, hTT⟩ : ∃ T, T = jsonJ 200 v := ⟨_, rfl⟩
  have CV := fun (b : Nat) (w0 w1 : World) (hb : Below w.heap.size w w0) (hb1 : Below w0.heap.size w0 w1) (hW : Wri w0.heap.size b [] 0 w1) => emit_value 200 v _ b [] 0 w0 w1 hm sm (rd.stay hb) hb1 (hT.below hb) hW (by omega) (by omega) (by simpa using hl)
  rw [← hTT] at CV hl ⊢
  generalize v.kind = kind, v.g = g, v.ls.length = ln, v.e = ee, v.s.toArray = sa, v.arr.length = an, v.obj.length = on at *
  replace CV := hid CV
  replace hX := hid hX
  replace hY := hid hY
  replace hm := hid hm
  replace hTT := hid hTT
  have HB0 := hid hb0
  replace hW := hid hW
  clear rd sm hb0
  go_enter Tryz.func36, Tryz.ntmps36
  go_wp2_with fail
  rw [← hW.out]
  refine CM.out.mono ?_
  rintro e w1 ⟨rfl, hb1⟩
  have hY1 := (hb1.block _ (Array.getElem?_eq_some_iff.1 hY.out).1).trans hY.out
  have hX1 := hid ((hb1.block _ (Array.getElem?_eq_some_iff.1 hX.out).1).trans hX.out)
  have y0 : w1.cell? ⟨w.heap.size + 1, 0, none⟩ = some (.int .i64 0) := by rw [Lib.cell_of_heap hY1]; rfl
  have y1 : w1.cell? ⟨w.heap.size + 1, 1, none⟩ = some (.bool false) := by rw [Lib.cell_of_heap hY1]; rfl
  have y2 : w1.cell? ⟨w.heap.size + 1, 2, none⟩ = some (.bool false) := by rw [Lib.cell_of_heap hY1]; rfl
  have y3 : w1.cell? ⟨w.heap.size + 1, 3, none⟩ = some (.bool false) := by rw [Lib.cell_of_heap hY1]; rfl
  have HB1 := hid (HB0.out.trans (hb1.mono HB0.out.size))
  clear hb1 CM hY1
  have CB := hid (emit_begin w1)
  go_wp2_with fail
  refine CB.out.mono ?_
  rintro e w2 ⟨b, hbb, rfl, hW2, hb2⟩
  have hX2 := (hb2.block _ (Array.getElem?_eq_some_iff.1 hX1.out).1).trans hX1.out
  have p0 : w2.cell? ⟨w.heap.size, 0, none⟩ = some (.int .i64 kind) := by rw [Lib.cell_of_heap hX2]; rfl
  have p1 : w2.cell? ⟨w.heap.size, 1, none⟩ = some (.bool g) := by rw [Lib.cell_of_heap hX2]; rfl
  have p2 : w2.cell? ⟨w.heap.size, 2, none⟩ = some (.slice a ln c) := by rw [Lib.cell_of_heap hX2]; rfl
  have p3 : w2.cell? ⟨w.heap.size, 3, none⟩ = some (.int .i64 ee) := by rw [Lib.cell_of_heap hX2]; rfl
  have p4 : w2.cell? ⟨w.heap.size, 4, none⟩ = some (.string ⟨sa⟩) := by rw [Lib.cell_of_heap hX2]; rfl
  have p5 : w2.cell? ⟨w.heap.size, 5, none⟩ = some (.slice aa an ac) := by rw [Lib.cell_of_heap hX2]; rfl
  have p6 : w2.cell? ⟨w.heap.size, 6, none⟩ = some (.slice oa on oc) := by rw [Lib.cell_of_heap hX2]; rfl
  have C := hid fun (w3 : World) (h3 : Below w2.heap.size w2 w3) => CV.out b w1 w3 HB1.out (hb2.trans (h3.mono hb2.size)) (hW2.old h3)
  have HB2 := hid (HB1.out.trans (hb2.mono HB1.out.size))
  have HW1 := hid HB1.out.size
  have HS2 := hid hb2.size
  clear hW2 hb2 CV CB y0 y1 y2 y3 hX2
  go_wp2_with fail
  refine (C.out w2 (Below.refl _ _)).mono ?_
  rintro e w3 ⟨rfl, hW3, hk3⟩
  have CS := hid (Tryz.Buffer_String_at 109 (wR 0) w1.heap.size b 0 ([] ++ T) w3 hW3)
  have HB3 := hid (HB2.out.trans (hk3.1.mono HW1.out))
  clear hW3 hk3 C p0 p1 p2 p3 p4 p5 p6
  go_wp2_with fail
  refine CS.out.mono ?_
  rintro e w4 ⟨rfl, m, rfl⟩
  clear CS
  go_wp2_with fail
  go_ret2
  exact ⟨rfl, below_drewN HB3.out m⟩

end Go.Proofs.YtldhebpkplglcaaGreatDoor
