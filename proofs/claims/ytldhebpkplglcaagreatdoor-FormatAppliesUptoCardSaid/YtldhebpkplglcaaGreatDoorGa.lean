/- Bytes put in the place of bytes. Plain. strings.NewReplacer. strings.(*Replacer).build, of pairs whose old texts are bytes. strings.(*byteStringReplacer).Replace: bytes put in the place of bytes. sync.Once.Do, not yet done, its lock free, one goroutine: the function is called once. After the kit's worked contracts. strings.(*Replacer).Replace, the first time. -/
import Derived.Test.YtldhebpkplglcaaGreatDoorFa
import Derived.Test.YtldhebpkplglcaaGreatDoorProg
import Derived.Test.YtldhebpkplglcaaGreatDoorNB
import Derived.Test.YtldhebpkplglcaaGreatDoorShelf
import Derived.Test.YtldhebpkplglcaaGreatDoorPd
import Derived.Great.BuildSlice
import Derived.Great.Walk
import Derived.Laws.CopyOwn
import Derived.Deep.CutBlock
import Derived.Defers
import Derived.Laws.LoneSync
import Derived.Laws.Pointers
import Derived.Laws.NewBlocks
import Derived.RegionTactic
import Derived.RegionCalls
namespace Go.Proofs.YtldhebpkplglcaaGreatDoor

/-- What stands for a byte. -/
def substL (ps : List (UInt8 × List UInt8)) (c : UInt8) : List UInt8 := match ps.find? (fun p => p.1 == c) with | some p => p.2 | none => [c]
/-- How much longer a text is, with what stands for its bytes. -/
def moreL (ps : List (UInt8 × List UInt8)) (s : List UInt8) : Nat := (ps.map fun p => s.count p.1 * (p.2.length - 1)).sum
theorem more_nil (ps : List (UInt8 × List UInt8)) : moreL ps [] = 0 := by
  unfold moreL
  induction ps with
  | nil => rfl
  | cons p ps ih => rw [List.map_cons, List.sum_cons, ih]; simp
theorem find_key {ps : List (UInt8 × List UInt8)} {c : UInt8} {p : UInt8 × List UInt8} (h : ps.find? (fun p => p.1 == c) = some p) : p.1 = c ∧ p ∈ ps := by
  have h1 := List.find?_some h
  exact ⟨by simpa using h1, List.mem_of_find?_eq_some h⟩
theorem find_no {ps : List (UInt8 × List UInt8)} {c : UInt8} (h : ps.find? (fun p => p.1 == c) = none) : ∀ p ∈ ps, p.1 ≠ c := by
  intro p hp
  have := List.find?_eq_none.1 h p hp
  simpa using this
theorem more_absent (s : List UInt8) (c : UInt8) : ∀ ps : List (UInt8 × List UInt8), (∀ p ∈ ps, p.1 ≠ c) → moreL ps (c :: s) = moreL ps s
  | [], _ => rfl
  | p :: ps, h => by
    have ih := more_absent s c ps (fun q hq => h q (by simp [hq]))
    have h1 := h p (by simp)
    unfold moreL at ih ⊢
    rw [List.map_cons, List.map_cons, List.sum_cons, List.sum_cons, ih, List.count_cons_of_ne (fun e => h1 e.symm)]
theorem more_cons (s : List UInt8) (c : UInt8) : ∀ ps : List (UInt8 × List UInt8), (ps.map (·.1)).Nodup → moreL ps (c :: s) = moreL ps s + ((substL ps c).length - 1)
  | [], _ => by simp [moreL, substL]
  | p :: ps, h => by
    rw [List.map_cons, List.nodup_cons] at h
    by_cases hc : p.1 = c
    · have h2 := more_absent s c ps (fun q hq e => h.1 (by rw [hc, ← e]; exact List.mem_map_of_mem hq))
      have hs : substL (p :: ps) c = p.2 := by unfold substL; rw [List.find?_cons_of_pos (by simpa using hc)]
      rw [hs]
      unfold moreL at h2 ⊢
      rw [List.map_cons, List.map_cons, List.sum_cons, List.sum_cons, h2, hc, List.count_cons_self, Nat.add_mul]
      omega
    · have ih := more_cons s c ps h.2
      have hs : substL (p :: ps) c = substL ps c := by unfold substL; rw [List.find?_cons_of_neg (by simpa using hc)]
      rw [hs]
      unfold moreL at ih ⊢
      rw [List.map_cons, List.map_cons, List.sum_cons, List.sum_cons, ih, List.count_cons_of_ne (fun e => hc e.symm)]
      omega
theorem subst_pos {ps : List (UInt8 × List UInt8)} (h1 : ∀ p ∈ ps, 1 ≤ p.2.length) (c : UInt8) : 1 ≤ (substL ps c).length := by
  unfold substL
  split
  · rename_i p hp
    exact h1 p (find_key hp).2
  · simp
/-- How long a text is, with what stands for its bytes. -/
theorem swapL_more {ps : List (UInt8 × List UInt8)} (hd : (ps.map (·.1)).Nodup) (h1 : ∀ p ∈ ps, 1 ≤ p.2.length) : ∀ s : List UInt8, (swapL (substL ps) s).length = s.length + moreL ps s
  | [] => by rw [more_nil]; rfl
  | c :: s => by
    have ih := swapL_more hd h1 s
    have h2 := more_cons s c ps hd
    have h3 := subst_pos h1 c
    unfold swapL at ih ⊢
    rw [List.flatMap_cons, List.length_append, ih, h2, List.length_cons]
    omega
theorem swapL_take (f : UInt8 → List UInt8) (s : List UInt8) (k : Nat) (hk : k < s.length) : swapL f (s.take (k + 1)) = swapL f (s.take k) ++ f s[k] := by
  unfold swapL
  rw [List.take_succ_eq_append_getElem hk, List.flatMap_append, List.flatMap_cons, List.flatMap_nil, List.append_nil]
theorem swapL_le (f : UInt8 → List UInt8) (s : List UInt8) (k : Nat) : (swapL f (s.take k)).length ≤ (swapL f s).length := by
  have h : swapL f s = swapL f (s.take k) ++ swapL f (s.drop k) := by
    unfold swapL
    rw [← List.flatMap_append, List.take_append_drop]
  rw [h, List.length_append]
  omega
/-- Nothing to put: the text as it stands. -/
theorem swapL_nothing {ps : List (UInt8 × List UInt8)} {s : List UInt8} (h : ∀ p ∈ ps, s.count p.1 = 0) : swapL (substL ps) s = s := by
  unfold swapL
  induction s with
  | nil => rfl
  | cons c s ih =>
    have hn : ∀ p ∈ ps, p.1 ≠ c := fun p hp e => by
      have := h p hp
      rw [e, List.count_cons_self] at this
      omega
    rw [List.flatMap_cons, ih fun p hp => by
      have := h p hp
      rw [List.count_cons_of_ne (fun e => hn p hp e.symm)] at this
      exact this]
    have hs : substL ps c = [c] := by
      unfold substL
      cases hf : ps.find? (fun p => p.1 == c) with
      | none => rfl
      | some p => exact absurd (find_key hf).1 (hn p (find_key hf).2)
    rw [hs]
    rfl
theorem more_le (ps : List (UInt8 × List UInt8)) (s : List UInt8) (K : Nat) (h : ∀ p ∈ ps, p.2.length ≤ K + 1) : moreL ps s ≤ ps.length * (s.length * K) := by
  unfold moreL
  induction ps with
  | nil => simp
  | cons p ps ih =>
    have h1 := ih fun q hq => h q (by simp [hq])
    have h2 := h p (by simp)
    have h3 : s.count p.1 * (p.2.length - 1) ≤ s.length * K := Nat.mul_le_mul List.count_le_length (by omega)
    rw [List.map_cons, List.sum_cons, List.length_cons, Nat.add_mul]
    omega

end Go.Proofs.YtldhebpkplglcaaGreatDoor

namespace Go.Proofs.YtldhebpkplglcaaGreatDoor
open Go.RowKit

theorem strSliceR : SliceOf Tryz.prog 40 9 (.string ⟨#[]⟩) 16 := ⟨Tryz.underlying40, by kernel_rfl, rfl⟩
def strsR (xs : List (List UInt8)) : List Value := xs.map fun s => .string ⟨s.toArray⟩
theorem strsR_one (ks : List (List UInt8)) : ∀ u ∈ strsR ks, u.oneCell' = true := by
  intro u hu
  obtain ⟨k, _, rfl⟩ := List.mem_map.1 hu
  rfl

theorem own_some {w : World} {B : Nat} {e : TypeId} {sz : Nat} {v : Value} {n : Nat} {xs : List Value} (h : w.ownsRow B e sz v n xs) (hn : 1 ≤ n) : ∃ g cp, v = .slice (some ⟨g, 0, none⟩) n cp := by
  rcases h.2 with ⟨_, h0⟩ | ⟨g, cap, cur, rfl, _⟩
  · omega
  · exact ⟨g, cap, rfl⟩

set_option maxRecDepth 100000 in
set_option maxHeartbeats 1600000 in
theorem new_Replacer (L : List (List UInt8)) (A cap : Nat) (w : World) (hR : Row w (some ⟨A, 0, none⟩) (strsR L)) (hl : L.length ≤ 1000) (h0 : 1 ≤ L.length) (h2 : (((L.length : Nat) : Int) % 2 == 1) = false) :
    Calls Tryz.prog 14 #[.slice (some ⟨A, 0, none⟩) L.length cap] w fun e w' => ∃ b g cp, w.heap.size ≤ b ∧ e = .returned (.pointer (some ⟨b, 0, none⟩)) ∧ w'.heap[b]? = some (.cells #[.int .u32 0, .int .i32 0, .int .u32 0, .nilIface, .slice (some ⟨g, 0, none⟩) L.length cp] 74 (0, 0)) ∧
      w'.ownsRow w.heap.size 9 1 (.slice (some ⟨g, 0, none⟩) L.length cp) L.length (strsR L) ∧ Below w.heap.size w w' := by
  have hll : (strsR L).length = L.length := by simp [strsR]
  have h1 := strsR_one L
  generalize strsR L = ys at *
  generalize L.length = n at *
  replace hR := hid hR
  replace h1 := hid h1
  replace hll := hid hll
  go_enter Tryz.func14, Tryz.ntmps14
  go_wp2_with (at_builtin; refine wpList_extend strSliceR rfl _ _ rfl w.heap.size (World.ownsRow_nil _ _ _ _) rfl rfl hR.out hll.out (by simp) h1.out (by unfold maxLen; omega) (by omega) (Nat.le_refl _) ?_; intro v' w3 hown' hb'; obtain ⟨g, cp, rfl⟩ := own_some hown' (by omega))
  go_ret
  have hs := hb'.size
  refine ⟨w3.heap.size, g, cp, hs, rfl, ?_, ?_, hb'.alloc hs _⟩
  · have := heap_alloc_new w3 (.cells #[.int .u32 0, .int .i32 0, .int .u32 0, .nilIface, .slice (some ⟨g, 0, none⟩) (0 + n) cp] 74)
    rwa [Nat.zero_add] at this
  · rw [Nat.zero_add, List.nil_append] at hown'
    exact hown'.alloc _

end Go.Proofs.YtldhebpkplglcaaGreatDoor

namespace Go.Proofs.YtldhebpkplglcaaGreatDoor
open Go.RowKit

abbrev Pair := UInt8 × List UInt8
def oldnew : List Pair → List (List UInt8)
  | [] => []
  | p :: ps => [p.1] :: p.2 :: oldnew ps
theorem oldnew_len : ∀ ps : List Pair, (oldnew ps).length = 2 * ps.length
  | [] => rfl
  | p :: ps => by simp [oldnew, oldnew_len ps]; omega
theorem oldnew_at : ∀ (ps : List Pair) (k : Nat) (p : Pair), ps[k]? = some p → (oldnew ps)[2 * k]? = some [p.1] ∧ (oldnew ps)[2 * k + 1]? = some p.2
  | [], k, p, h => by simp at h
  | q :: ps, 0, p, h => by simp at h; subst h; simp [oldnew]
  | q :: ps, k + 1, p, h => by
    have := oldnew_at ps k p (by simpa using h)
    rw [show 2 * (k + 1) = 2 * k + 1 + 1 by omega]
    simpa [oldnew] using this
/-- Bytes at the head of a block of bytes. -/
def RowIn (w : World) (k : Nat) (l : List UInt8) : Prop := ∃ cs fr, w.heap[k]? = some (.cells cs 5 fr) ∧ ∀ (j : Nat) (x : UInt8), l[j]? = some x → cs[j]? = some (.int .u8 x.toNat)
/-- The cells of a replacer's table. -/
def RepC (cells : Array Value) (w : World) (ps : List Pair) : Prop := ∀ c : UInt8, ((∀ p ∈ ps, p.1 ≠ c) → cells[c.toNat]? = some (.slice none 0 0)) ∧
  ∀ p ∈ ps, p.1 = c → ∃ k cap, cells[c.toNat]? = some (.slice (some ⟨k, 0, none⟩) p.2.length cap) ∧ RowIn w k p.2
theorem RepC.keep {cells : Array Value} {w w' : World} {ps : List Pair} (h : RepC cells w ps) (hk : ∀ (k : Nat) (cs : Array Value) (fr : Nat × Nat), w.heap[k]? = some (.cells cs 5 fr) → w'.heap[k]? = w.heap[k]?) : RepC cells w' ps := by
  intro c
  refine ⟨(h c).1, fun p hp hc => ?_⟩
  obtain ⟨k, cap, h1, cs, fr, h2, h3⟩ := (h c).2 p hp hc
  exact ⟨k, cap, h1, cs, fr, (hk k cs fr h2).trans h2, h3⟩
theorem RepC.set256 {cells : Array Value} {w : World} {ps : List Pair} (h : RepC cells w ps) (v : Value) : RepC (cells.setIfInBounds 256 v) w ps := by
  intro c
  have hc : (256 : Nat) ≠ c.toNat := by have := u8_lt c; omega
  rw [Array.getElem?_setIfInBounds_ne hc]
  exact h c
theorem RepC.add {cells : Array Value} {w : World} {ps : List Pair} (h : RepC cells w ps) (hs : cells.size = 257) (p : Pair) (hp : ∀ q ∈ ps, q.1 ≠ p.1) (k cap : Nat) (hr : RowIn w k p.2) : RepC (cells.setIfInBounds p.1.toNat (.slice (some ⟨k, 0, none⟩) p.2.length cap)) w (p :: ps) := by
  intro c
  by_cases hc : p.1 = c
  · subst hc
    have e : (cells.setIfInBounds p.1.toNat (.slice (some ⟨k, 0, none⟩) p.2.length cap))[p.1.toNat]? = some (.slice (some ⟨k, 0, none⟩) p.2.length cap) := by
      rw [Array.getElem?_setIfInBounds_self_of_lt (by have := u8_lt p.1; omega)]
    rw [e]
    refine ⟨fun hn => absurd rfl (hn p (by simp)), fun q hq hqc => ?_⟩
    rcases List.mem_cons.1 hq with rfl | hq
    · exact ⟨k, cap, rfl, hr⟩
    · exact absurd hqc (hp q hq)
  · have hc2 : p.1.toNat ≠ c.toNat := fun e => hc (UInt8.toNat_inj.1 e)
    rw [Array.getElem?_setIfInBounds_ne hc2]
    refine ⟨fun hn => (h c).1 fun q hq => hn q (by simp [hq]), fun q hq hqc => ?_⟩
    rcases List.mem_cons.1 hq with rfl | hq
    · exact absurd hqc hc
    · exact (h c).2 q hq hqc
def repZero (v : Value) : Array Value := (Array.replicate 256 (.slice none 0 0)).push v
theorem repZero_nil (w : World) (v : Value) : RepC (repZero v) w [] := by
  intro c
  refine ⟨fun _ => ?_, fun p hp => by cases hp⟩
  have := u8_lt c
  unfold repZero
  rw [Array.getElem?_push, if_neg (by simp; omega), Array.getElem?_replicate, if_pos (by omega)]
/-- A replacer in the making: block R, behind base B. -/
structure RB (B R : Nat) (w0 w : World) (ps : List Pair) (cells : Array Value) (tv : Value) : Prop where
  bel : Below B w0 w
  hB : B ≤ R
  blk : w.heap[R]? = some (.cells cells 159 (0, 0))
  size : cells.size = 257
  rep : RepC cells w ps
  last : cells[256]? = some tv
  own : w.ownsRow B 9 1 tv ps.length (strsR (ps.map fun p => [p.1]).reverse)
theorem own_keep {w w' : World} {B : Nat} {e : TypeId} {sz : Nat} {v : Value} {n : Nat} {xs : List Value} (h : w.ownsRow B e sz v n xs) (hk : ∀ (k : Nat) (cs : Array Value) (fr : Nat × Nat), w.heap[k]? = some (.cells cs e fr) → w'.heap[k]? = w.heap[k]?) : w'.ownsRow B e sz v n xs := by
  refine ⟨h.1, ?_⟩
  rcases h.2 with h | ⟨g, cap, cur, h1, h2, h3, h4⟩
  · exact .inl h
  · exact .inr ⟨g, cap, cur, h1, h2, (hk g _ _ h3).trans h3, h4⟩
theorem set_keep {w : World} {R : Nat} {cells : Array Value} {T : TypeId} {fr0 : Nat × Nat} (hR : w.heap[R]? = some (.cells cells T fr0)) (j : Nat) (v : Value) {e : TypeId} (hT : T ≠ e) : ∀ (k : Nat) (cs : Array Value) (fr : Nat × Nat), w.heap[k]? = some (.cells cs e fr) → (w.setCell ⟨R, j, none⟩ v).heap[k]? = w.heap[k]? := by
  intro k cs fr hk
  refine heap_setCell_other _ _ _ _ ?_
  rintro rfl
  rw [hR] at hk
  injection hk with h1
  injection h1 with _ h2 _
  exact hT h2
theorem repZero_last (v : Value) : (repZero v)[256]? = some v := by
  unfold repZero
  rw [Array.getElem?_push, if_pos (by simp)]
theorem own_ne {w : World} {B : Nat} {e : TypeId} {sz : Nat} {v : Value} {n : Nat} {xs : List Value} (h : w.ownsRow B e sz v n xs) {R : Nat} {cs : Array Value} {T : TypeId} {fr : Nat × Nat} (hR : w.heap[R]? = some (.cells cs T fr)) (hT : T ≠ e) : v.ownBlock ≠ some R := by
  intro hv
  rcases h.2 with ⟨rfl, _⟩ | ⟨g, cap, cur, rfl, _, hg, _⟩
  · cases hv
  · obtain rfl : g = R := Option.some.inj hv
    rw [hg] at hR
    exact hT (by injection hR with e; injection e with _ e2 _; exact e2.symm)
/-- Behind append. -/
theorem RB.pushed {B R : Nat} {w0 w : World} {ps : List Pair} {cells : Array Value} {tv : Value} (H : RB B R w0 w ps cells tv) {o1 o2 : Obj} {v' : Value} {w3 : World} {m : Nat} {ys : List Value}
    (hown : w3.ownsRow B 9 1 v' m ys) (hb : Below B (w.alloc o1) w3) (hg : ((w.alloc o1).alloc o2).grownBy w3 tv.ownBlock) :
    w3.heap[R]? = some (.cells cells 159 (0, 0)) ∧ RepC cells w3 ps ∧ w3.ownsRow B 9 1 v' m ys ∧ Below B w0 w3 := by
  have hold : ∀ k, k < w.heap.size → ((w.alloc o1).alloc o2).heap[k]? = w.heap[k]? := fun k hk => by rw [Lib.alloc_old _ _ _ (by simp; omega), Lib.alloc_old _ _ _ hk]
  have hkeep : ∀ (k : Nat) (cs : Array Value) (T : TypeId) (fr : Nat × Nat), T ≠ 9 → w.heap[k]? = some (.cells cs T fr) → w3.heap[k]? = w.heap[k]? := by
    intro k cs T fr hT hk
    have hlt := (Array.getElem?_eq_some_iff.1 hk).1
    refine (hg.block k (by simp; omega) fun e => own_ne H.own hk hT e.symm).trans (hold k hlt)
  refine ⟨(hkeep R _ _ _ (by decide) H.blk).trans H.blk, H.rep.keep fun k cs fr hk => hkeep k cs _ fr (by decide) hk, hown, ?_⟩
  exact (H.bel.alloc (Nat.le_trans H.hB (Nat.le_of_lt (blk_lt H.blk))) _).trans hb
section
variable {P : Program} {o : Oper} {a : Act} {Q : Exit → Act → World → Prop}
theorem upon_bytesK {w : World} {K : Act → World → Prop} {src dst e : TypeId} (hs : P.underlying src = some .string) (hd : P.underlying dst = some (.slice e)) (he : P.underlying e = some (.int .u8)) (l : List UInt8)
    (hK : ∀ cap fr w', w' = w.drew.alloc (.cells (bytesRow ⟨l.toArray⟩ cap) e fr) → K (a.put o.dst (.slice (some ⟨w.heap.size, 0, none⟩) l.length cap)) w') :
    Oper.upon P o a K Q (((convert src dst (.string ⟨l.toArray⟩)).run P w).andThen fun v w' => .ok (Next.value v) w') := by
  have hrun := run_bytes_of_string (P := P) w src dst e ⟨l.toArray⟩ hs hd he
  have hsz : (⟨l.toArray⟩ : ByteArray).size = l.length := rfl
  rw [hsz] at hrun
  rw [hrun]
  exact hK _ _ _ rfl
end
theorem text_one (c : UInt8) (w : World) : (convert 77 9 (.slice (some ⟨w.heap.size, 0, none⟩) 1 1)).run Tryz.prog (w.alloc (.cells #[.int .u8 c.toNat] 5)) = .ok (.string ⟨#[c]⟩) (w.alloc (.cells #[.int .u8 c.toNat] 5)) :=
  run_convert_bytes_back (P := Tryz.prog) (w.alloc (.cells #[.int .u8 c.toNat] 5)) 77 9 5 ⟨w.heap.size, 0, none⟩ 1 [c] Tryz.underlying77 Tryz.underlying5 Tryz.underlying9 (fun j hj => by
    obtain rfl : j = 0 := by simpa using hj
    rw [Addr.add_lit]
    exact cell_one_new w _ _ 0 _ rfl)
theorem bytesRow_at (l : List UInt8) (cap j : Nat) (x : UInt8) (h : l[j]? = some x) : (bytesRow ⟨l.toArray⟩ cap)[j]? = some (.int .u8 x.toNat) := by
  have hj := (List.getElem?_eq_some_iff.1 h).1
  unfold bytesRow
  rw [Array.getElem?_append_left (by simpa using hj)]
  simp [h]

set_option maxRecDepth 100000 in
set_option maxHeartbeats 1600000 in
theorem rpl_build (ps : List Pair) (b g N cap : Nat) (w : World) (h4 : w.cell? ⟨b, 4, none⟩ = some (.slice (some ⟨g, 0, none⟩) N cap)) (hN : N = 2 * ps.length) (hR : Row w (some ⟨g, 0, none⟩) (strsR (oldnew ps))) (hn : ps.length ≤ 400) (hn2 : 2 ≤ ps.length)
    (hd : (ps.map (·.1)).Nodup) (hne : ∀ p ∈ ps, 1 ≤ p.2.length ∧ p.2.length ≤ 1000) (hfst : ∀ p, ps[0]? = some p → 2 ≤ p.2.length) :
    Calls Tryz.prog 64 #[.pointer (some ⟨b, 0, none⟩)] w fun e w' => ∃ R, e = .returned (.iface 160 (.pointer (some ⟨R, 0, none⟩))) ∧ ∃ cells tv, RB w.heap.size R w w' ps cells tv := by
  obtain ⟨n, hnE⟩ : ∃ n, n = ps.length := ⟨_, rfl⟩
  rw [← hnE] at hN hn hn2
  have e1 : ((N : Int) == 2) = false := by rw [beq_eq_false_iff_ne]; omega
  have hT : ∀ (k : Nat) (p : Pair), ps[k]? = some p → w.cell? ⟨g, 2 * k, none⟩ = some (.string ⟨#[p.1]⟩) ∧ w.cell? ⟨g, 2 * k + 1, none⟩ = some (.string ⟨p.2.toArray⟩) := by
    intro k p hp
    obtain ⟨h1, h2⟩ := oldnew_at ps k p hp
    have key : ∀ (i : Nat) (s : List UInt8), (oldnew ps)[i]? = some s → w.cell? ⟨g, i, none⟩ = some (.string ⟨s.toArray⟩) := by
      intro i s hs
      obtain ⟨b', off, e, hc⟩ := hR i (.string ⟨s.toArray⟩) (by unfold strsR; rw [List.getElem?_map, hs]; rfl)
      injection e with e; injection e with e3 e4; subst e3 e4
      rwa [Nat.zero_add] at hc
    exact ⟨key _ _ h1, key _ _ h2⟩
  replace hT := hid hT
  replace hnE := hid hnE
  replace hne := hid hne
  replace hfst := hid hfst
  replace hd := hid hd
  have hN1 : N ≤ 2 * n := by omega
  have hN2 : 2 * n ≤ N := by omega
  have hNN := hid hN
  clear hR hN
  go_enter Tryz.func64, Tryz.ntmps64
  go_wp2_with fail
  go_loopw [4, 5] (fun v4 v5 wr => wr = w ∧ ∃ k : Nat, k ≤ n ∧ v5 = .int .i64 ((2 * k : Nat) : Int) ∧ v4 = .bool (decide (k = 0))) (fun _ v5 _ => 2 * n - (intOf v5).toNat)
  case atStart => exact ⟨rfl, 0, by omega, rfl, rfl⟩
  case round =>
    obtain ⟨hw, k, hk, rfl, rfl⟩ := hrel
    rw [hw]
    clear hw
    obtain ⟨I, hI⟩ : ∃ I : Nat, I = 2 * k := ⟨_, rfl⟩
    rw [← hI]
    have hI1 : I ≤ 2 * k := by omega
    have hI2 : 2 * k ≤ I := by omega
    by_cases hlt : k < n
    · have hlt2 : (I : Int) < (N : Int) := by omega
      have hlt3 : (I : Int) + 1 < (N : Int) := by omega
      obtain ⟨p, hp⟩ : ∃ p, ps[k]? = some p := ⟨_, List.getElem?_eq_getElem (by rw [← hnE.out]; exact hlt)⟩
      obtain ⟨t1, t2⟩ := hT.out k p hp
      rw [← hI] at t1 t2
      have hf : k = 0 → 2 ≤ p.2.length := fun h => by subst h; exact hfst.out p hp
      have hs1 : (⟨#[p.1]⟩ : ByteArray).size = 1 := rfl
      have hs2 : (⟨p.2.toArray⟩ : ByteArray).size = p.2.length := rfl
      generalize (⟨p.2.toArray⟩ : ByteArray) = sb at *
      generalize p.2.length = m at *
      replace hI := hid hI
      have hw1 : IntKind.i64.wrap ((I : Int) + 1) = ((I + 1 : Nat) : Int) := by rw [IntWalk.i64_in _ (by omega)]; omega
      by_cases hm : m = 1
      · have hk0 : k ≠ 0 := fun h => by have := hf h; omega
        have hdk : decide (k = 0) = false := by simpa using hk0
        rw [hdk]
        have e3 : ((sb.size : Int) != 1) = false := by rw [hs2, hm]; rfl
        clear hs2 hm hf
        go_wp2_with fail
        go_roundw
        case rel => exact ⟨by trivial, k + 1, by omega, by go_num, by simp⟩
        case measure => simp [intOf]; omega
      · have e3 : ((sb.size : Int) != 1) = true := by rw [bne_iff_ne]; omega
        clear hs2 hf
        go_wp2_with fail
        go_roundw
        case rel => exact ⟨by trivial, k + 1, by omega, by go_num, by simp⟩
        case measure => simp [intOf]; omega
    · have hlt2 : ¬ (I : Int) < (N : Int) := by omega
      have hdk : decide (k = 0) = false := by simp; omega
      rw [hdk]
      clear hI1 hI2 hdk hI
      go_wp2_with (at_make; go_loud (refine wpList_made strSliceR rfl _ _ rfl n rfl rfl (by omega) (by omega) (by unfold maxLen; omega) ?_; intro w1 hown hb1; refine wpList_buildTo rfl _ _ rfl (some 95) rfl (repZero (.slice (some ⟨w.heap.size, 0, none⟩) 0 n)) (by kernel_rfl) ?_; refine Go.Great.wpList_allocTo rfl (some 11) rfl (.pointer (some ⟨w1.heap.size, 0, none⟩)) (.cells (repZero (.slice none 0 0)) 159) (by kernel_rfl) ?_; refine wpList_store_rowTo rfl _ _ _ rfl rfl w1.heap.size (repZero (.slice (some ⟨w.heap.size, 0, none⟩) 0 n)) rfl rfl _ (repZero (.slice none 0 0)) (heap_alloc_new w1 _) (by kernel_rfl) (by kernel_rfl) (by kernel_rfl) ?_))
      obtain ⟨w2, hw2⟩ : ∃ w2, w2 = (w1.alloc (.cells (repZero (.slice none 0 0)) 159)).setRow w1.heap.size (repZero (.slice (some ⟨w.heap.size, 0, none⟩) 0 n)) := ⟨_, rfl⟩
      have h0 : RB w.heap.size w1.heap.size w w2 (ps.drop n) (repZero (.slice (some ⟨w.heap.size, 0, none⟩) 0 n)) (.slice (some ⟨w.heap.size, 0, none⟩) 0 n) := by
        have hdr : ps.drop n = [] := by rw [hnE.out, List.drop_length]
        rw [hdr, hw2]
        have hB := hb1.size
        have hlt2 := (hown.lt _ rfl).2
        refine ⟨below_setRow (hb1.alloc hB _) hB _, hB, setRow_heap _ _ _ _ _ _ (heap_alloc_new w1 _), by simp [repZero], repZero_nil _ _, repZero_last _, ?_⟩
        refine own_keep (hown.alloc (.cells (repZero (.slice none 0 0)) 159)) fun k cs fr hk => setRow_other _ _ _ _ ?_
        rintro rfl
        rw [heap_alloc_new] at hk
        injection hk with h1
        injection h1 with _ h2 _
        exact absurd h2 (by decide)
      rw [← hw2]
      clear hw2 hown hb1 hlt hk hlt2
      generalize w1.heap.size = R at *
      clear w1
      go_loopw [12] (fun v12 wr => ∃ k : Nat, k ≤ n ∧ v12 = .int .i64 (((2 * k : Nat) : Int) - 2) ∧ ∃ cells tv, RB w.heap.size R w wr (ps.drop k) cells tv) (fun v12 _ => (intOf v12 + 2).toNat)
      case atStart => exact ⟨n, Nat.le_refl _, by go_num, _, _, h0⟩
      case round =>
        clear h0
        obtain ⟨k, hk, rfl, cells, tv, H⟩ := hrel
        by_cases hk0 : k = 0
        · subst hk0
          have hlt1 : ¬ ((2 * 0 : Nat) : Int) - 2 ≥ 0 := by omega
          rw [List.drop_zero] at H
          have HH := hid H
          clear H
          go_wp2_with fail
          go_ret
          exact ⟨R, rfl, cells, tv, HH.out⟩
        · obtain ⟨j, rfl⟩ : ∃ j, k = j + 1 := ⟨k - 1, by omega⟩
          obtain ⟨p, hp⟩ : ∃ p, ps[j]? = some p := ⟨_, List.getElem?_eq_getElem (by rw [← hnE.out]; omega)⟩
          obtain ⟨t1, t2⟩ := hT.out j p hp
          obtain ⟨J, hJ⟩ : ∃ J : Nat, J = 2 * j := ⟨_, rfl⟩
          rw [← hJ] at t1 t2
          have hJ1 : J + 1 < N := by omega
          have hJ2 : ((2 * (j + 1) : Nat) : Int) - 2 = (J : Int) := by omega
          rw [hJ2]
          have hlt1 : (J : Int) < (N : Int) := by omega
          have hlt3 : (J : Int) + 1 < (N : Int) := by omega
          have hge : (J : Int) ≥ 0 := by omega
          have hw1 : IntKind.i64.wrap ((J : Int) + 1) = ((J + 1 : Nat) : Int) := by rw [IntWalk.i64_in _ (by omega)]; omega
          have s1 := (H.bel.cell (cell_lt t1)).trans t1
          have s2 := (H.bel.cell (cell_lt t2)).trans t2
          have hdrop : ps.drop j = p :: ps.drop (j + 1) := by
            have hl := (List.getElem?_eq_some_iff.1 hp)
            rw [List.drop_eq_getElem_cons hl.1, hl.2]
          have hnot : ∀ q ∈ ps.drop (j + 1), q.1 ≠ p.1 := by
            have hd2 := hd.out
            rw [← List.take_append_drop j ps, hdrop, List.map_append, List.map_cons] at hd2
            have h3 := (List.nodup_append.1 hd2).2.1
            rw [List.nodup_cons] at h3
            exact fun q hq e => h3.1 (by rw [← e]; exact List.mem_map_of_mem hq)
          have hc := u8_lt p.1
          have r0 : cells[p.1.toNat]? = some (.slice none 0 0) := (H.rep p.1).1 hnot
          have c0 : wr.cell? ⟨R, p.1.toNat, none⟩ = some (.slice none 0 0) := (blk_cell H.blk _).trans r0
          have c1 : wr.cell? ⟨R, 256, none⟩ = some tv := (blk_cell H.blk _).trans H.last
          have hc2 : (p.1.toNat : Int) < 256 := by omega
          have hby : ∀ h, (⟨#[p.1]⟩ : ByteArray)[0]'h = p.1 := fun _ => rfl
          have hnil : ∀ W, (binOp .eql 77 (.slice none 0 0) (.slice none 0 0)).run Tryz.prog W = .ok (.bool true) W := fun _ => by kernel_rfl
          have hcv := text_one p.1 wr
          replace hJ := hid hJ
          replace hdrop := hid hdrop
          replace hnot := hid hnot
          replace r0 := hid r0
          have HH := hid H
          clear H t1 t2 hJ2 hp
          obtain ⟨M, hM0⟩ : ∃ M, M = (ps.drop (j + 1)).length := ⟨_, rfl⟩
          obtain ⟨ys, hys0⟩ : ∃ ys, ys = strsR ((ps.drop (j + 1)).map fun p => [p.1]).reverse := ⟨_, rfl⟩
          have hown00 := HH.out.own
          rw [← hM0, ← hys0] at hown00
          have hown0 := hid hown00
          have hM := hid hM0
          have hys := hid hys0
          clear hown00 hM0 hys0
          have hm1 : M + 1 ≤ 1000 := by rw [hM.out, List.length_drop, ← hnE.out]; omega
          have hm2 : M + 1 ≤ maxLen := by unfold maxLen; omega
          have hm3 : (M + 1) * 16 ≤ 140737488355328 := by omega
          have hm4 : w.heap.size ≤ (wr.alloc (.cells #[.int .u8 p.1.toNat] 5)).heap.size := by have := HH.out.bel.size; simp; omega
          replace hm1 := hid hm1
          replace hm2 := hid hm2
          replace hm3 := hid hm3
          replace hm4 := hid hm4
          have hse : (wr.alloc (.cells #[.int .u8 p.1.toNat] 5)).heap.size = wr.heap.size + 1 := by simp
          go_wp2_with (at_builtin; go_loud (refine wpList_push_at strSliceR rfl _ _ rfl w.heap.size (hown0.out.alloc _) rfl (by rw [hse]; rfl) rfl hm2.out hm3.out hm4.out ?_; intro v' w3 hown3 hb3 hg3; obtain ⟨g3, cp3, rfl⟩ := own_some hown3 (Nat.le_add_left 1 _); obtain ⟨hR3, hrep3, hO3, hB3⟩ := HH.out.pushed hown3 hb3 hg3; have d1 : w3.cell? ⟨R, 256, none⟩ = some tv := (blk_cell hR3 _).trans HH.out.last; have z1 := blk_frozen hR3 256))
          clear c0 c1 d1 z1 hb3 hg3
          have hR4 : (w3.setCell ⟨R, 256, none⟩ (.slice (some ⟨g3, 0, none⟩) (M + 1) cp3)).heap[R]? = some (.cells (cells.setIfInBounds 256 (.slice (some ⟨g3, 0, none⟩) (M + 1) cp3)) 159 (0, 0)) := heap_setCell_same _ _ _ _ _ _ hR3
          have hrep4 := (hrep3.keep (set_keep hR3 256 (.slice (some ⟨g3, 0, none⟩) (M + 1) cp3) (by decide))).set256 (.slice (some ⟨g3, 0, none⟩) (M + 1) cp3)
          have hown4 := own_keep hown3 (set_keep hR3 256 (.slice (some ⟨g3, 0, none⟩) (M + 1) cp3) (by decide))
          have hB4 := hB3.setCell (p := ⟨R, 256, none⟩) HH.out.hB (.slice (some ⟨g3, 0, none⟩) (M + 1) cp3)
          generalize w3.setCell ⟨R, 256, none⟩ (.slice (some ⟨g3, 0, none⟩) (M + 1) cp3) = w4 at *
          generalize (Value.slice (some ⟨g3, 0, none⟩) (M + 1) cp3) = tv4 at *
          refine upon_bytesK Tryz.underlying9 Tryz.underlying77 Tryz.underlying5 _ ?_
          intro cap5 fr5 w5 hw5
          have hR5 : w5.heap[R]? = some (.cells (cells.setIfInBounds 256 tv4) 159 (0, 0)) := by
            rw [hw5, Lib.alloc_old w4.drew _ _ (blk_lt hR4)]
            exact hR4
          have k5 : ∀ k, k < w4.heap.size → w5.heap[k]? = w4.heap[k]? := fun k hk => by rw [hw5, Lib.alloc_old w4.drew _ _ hk]; rfl
          have hrep5 := hrep4.keep (w' := w5) fun k cs fr hk => k5 k (Array.getElem?_eq_some_iff.1 hk).1
          have hown5 := own_keep (w' := w5) hown4 fun k cs fr hk => k5 k (Array.getElem?_eq_some_iff.1 hk).1
          have hri5 : RowIn w5 w4.heap.size p.2 := ⟨_, _, by rw [hw5]; exact heap_alloc_new w4.drew _, fun j x hx => bytesRow_at _ _ _ _ hx⟩
          have hB5 : Below w.heap.size w w5 := by
            rw [hw5]
            exact hB4.drew.alloc (Nat.le_trans HH.out.hB (Nat.le_of_lt (blk_lt hR4))) _
          have q5 : w5.cell? ⟨R, p.1.toNat, none⟩ = some (.slice none 0 0) := by
            rw [blk_cell hR5, Array.getElem?_setIfInBounds_ne (by omega)]
            exact r0.out
          have z5 := blk_frozen hR5 p.1.toNat
          generalize w4.heap.size = K5 at *
          clear hw5 k5 hB4 hR4 hrep4 hown4 hB3 hrep3 hown3 hR3
          replace hR5 := hid hR5
          replace hrep5 := hid hrep5
          replace hown5 := hid hown5
          replace hri5 := hid hri5
          replace hB5 := hid hB5
          go_wp2_with fail
          go_roundw
          case rel =>
            have hs5 : (cells.setIfInBounds 256 tv4).size = 257 := by rw [Array.size_setIfInBounds]; exact HH.out.size
            have kp := fun (e : TypeId) => set_keep (e := e) hR5.out p.1.toNat (.slice (some ⟨K5, 0, none⟩) p.2.length cap5)
            obtain ⟨cs, fr, y1, y2⟩ := hri5.out
            refine ⟨j, by omega, by rw [hJ.out], _, tv4, hB5.out.setCell (p := ⟨R, p.1.toNat, none⟩) HH.out.hB _, HH.out.hB, heap_setCell_same _ _ _ _ _ _ hR5.out, by rw [Array.size_setIfInBounds, hs5], ?_, ?_, ?_⟩
            · rw [hdrop.out]
              exact (hrep5.out.keep (kp _ (by decide))).add hs5 p hnot.out K5 cap5 ⟨cs, fr, (kp _ (by decide) K5 cs fr y1).trans y1, y2⟩
            · rw [Array.getElem?_setIfInBounds_ne (by omega), Array.getElem?_setIfInBounds_self_of_lt (by rw [HH.out.size]; omega)]
            · have h8 := own_keep hown5.out (kp _ (by decide))
              rw [hdrop.out, List.length_cons, List.map_cons, List.reverse_cons, ← hM.out]
              rw [hys.out] at h8
              unfold strsR at h8 ⊢
              rw [List.map_append]
              exact h8
          case measure => simp [intOf]; omega

end Go.Proofs.YtldhebpkplglcaaGreatDoor

namespace Go.Proofs.YtldhebpkplglcaaGreatDoor
open Go.RowKit

theorem strings_Count1 (s : List UInt8) (c : UInt8) (w : World) :
    Calls Tryz.prog 75 #[.string ⟨s.toArray⟩, .string ⟨#[c]⟩] w fun e w' => e = .returned (.int .i64 ((s.count c : Nat) : Int)) ∧ w' = w :=
  Any.strings_Count_one Tryz.lays138 ⟨s.toArray⟩ c w
/-- A replacer that is made. -/
structure RW (B R : Nat) (w : World) (ps : List Pair) (cells : Array Value) (tv : Value) : Prop where
  blk : w.heap[R]? = some (.cells cells 159 (0, 0))
  size : cells.size = 257
  rep : RepC cells w ps
  last : cells[256]? = some tv
  own : w.ownsRow B 9 1 tv ps.length (strsR (ps.map fun p => [p.1]).reverse)
theorem RB.rw {B R : Nat} {w0 w : World} {ps : List Pair} {cells : Array Value} {tv : Value} (h : RB B R w0 w ps cells tv) : RW B R w ps cells tv := ⟨h.blk, h.size, h.rep, h.last, h.own⟩
theorem RW.below {B R : Nat} {w w' : World} {ps : List Pair} {cells : Array Value} {tv : Value} (h : RW B R w ps cells tv) (hb : Below w.heap.size w w') : RW B R w' ps cells tv :=
  ⟨(hb.block R (blk_lt h.blk)).trans h.blk, h.size, h.rep.keep fun k _ _ hk => hb.block k (blk_lt hk), h.last, owns_below h.own hb⟩
theorem own_cell {w : World} {B : Nat} {e : TypeId} {g n cap : Nat} {xs : List Value} (h : w.ownsRow B e 1 (.slice (some ⟨g, 0, none⟩) n cap) n xs) {i : Nat} {v : Value} (hi : xs[i]? = some v) : w.cell? ⟨g, i, none⟩ = some v := by
  rcases h.2 with ⟨h1, _⟩ | ⟨g', cap', cur, h1, _, hg, _, _, _, ht⟩
  · cases h1
  · injection h1 with h1 _ _
    injection h1 with h1
    injection h1 with h1 _ _
    subst h1
    rw [Lib.cell_of_heap hg]
    rw [← ht, List.getElem?_take] at hi
    split at hi
    · simpa using hi
    · cases hi

theorem u8SliceR : SliceOf Tryz.prog 77 5 (.int .u8 0) 1 := ⟨Tryz.underlying77, by kernel_rfl, rfl⟩
theorem own_blk {w : World} {B : Nat} {e : TypeId} {g n : Nat} {xs : List Value} (h : w.ownsRow B e 1 (.slice (some ⟨g, 0, none⟩) n n) n xs) : ∃ cur, w.heap[g]? = some (.cells cur e (0, 0)) ∧ cur.size = n := by
  rcases h.2 with ⟨h1, _⟩ | ⟨g', cap', cur, h1, _, hg, _, _, hc, _⟩
  · cases h1
  · injection h1 with h1 _ h3
    injection h1 with h1
    injection h1 with h1 _ _
    subst h1 h3
    exact ⟨cur, hg, by rw [hc, Nat.mul_one]⟩
theorem index_byteR {s : ByteArray} {i c : Nat} {x : Int} (hx : x = (i : Int)) (hlt : i < s.size) (hc : (s[i]'hlt).toNat = c) (W : World) :
    (Instr.index 9 (.string s) (.int .i64 x)).run Tryz.prog W = .ok (.int .u8 (c : Int)) W := by
  subst hx
  rw [run_index_string W 9 s .i64 (i : Int) Tryz.underlying9, dif_pos ⟨by omega, by omega⟩]
  simp [hc]

set_option maxRecDepth 100000 in
set_option maxHeartbeats 3200000 in
theorem rpl_Replace (B R : Nat) (ps : List Pair) (cells : Array Value) (tv : Value) (s : List UInt8) (w : World) (H : RW B R w ps cells tv) (hs : s.length ≤ 4294967296) (hn : ps.length ≤ 10) (hn1 : 1 ≤ ps.length)
    (hd : (ps.map (·.1)).Nodup) (hne : ∀ p ∈ ps, 1 ≤ p.2.length ∧ p.2.length ≤ 10) :
    Calls Tryz.prog 270 #[.pointer (some ⟨R, 0, none⟩), .string ⟨s.toArray⟩] w fun e w' => e = .returned (.string ⟨(swapL (substL ps) s).toArray⟩) ∧ Below w.heap.size w w' := by
  obtain ⟨g, cp, rfl⟩ := own_some H.own hn1
  have c256 : w.cell? ⟨R, 256, none⟩ = some (.slice (some ⟨g, 0, none⟩) ps.length cp) := (blk_cell H.blk _).trans H.last
  have hkey : ∀ (i : Nat) (p : Pair), ps.reverse[i]? = some p → w.cell? ⟨g, i, none⟩ = some (.string ⟨#[p.1]⟩) := by
    intro i p hp
    refine own_cell H.own ?_
    unfold strsR
    rw [← List.map_reverse, List.map_map, List.getElem?_map, hp]
    rfl
  have hyes : ∀ p ∈ ps, ∃ k cap, w.cell? ⟨R, p.1.toNat, none⟩ = some (.slice (some ⟨k, 0, none⟩) p.2.length cap) ∧ RowIn w k p.2 := by
    intro p hp
    obtain ⟨k, cap, h1, h2⟩ := (H.rep p.1).2 p hp rfl
    exact ⟨k, cap, (blk_cell H.blk _).trans h1, h2⟩
  have hno : ∀ c : UInt8, (∀ p ∈ ps, p.1 ≠ c) → w.cell? ⟨R, c.toNat, none⟩ = some (.slice none 0 0) := fun c hc => (blk_cell H.blk _).trans ((H.rep c).1 hc)
  obtain ⟨n, hnE⟩ : ∃ n, n = ps.length := ⟨_, rfl⟩
  rw [← hnE] at c256 hn hn1
  have hsz : (⟨s.toArray⟩ : ByteArray).size = s.length := rfl
  obtain ⟨sb, hsb⟩ : ∃ sb : ByteArray, sb = ⟨s.toArray⟩ := ⟨_, rfl⟩
  have CC := fun (c : UInt8) W => strings_Count1 s c W
  rw [← hsb] at hsz CC ⊢
  have hmore := more_le ps s 9 (fun p hp => (hne p hp).2)
  have hT := swapL_more hd (fun p hp => (hne p hp).1) s
  obtain ⟨T, hTT⟩ : ∃ T, T = swapL (substL ps) s := ⟨_, rfl⟩
  rw [← hTT] at hT ⊢
  have hTn : T.length ≤ 400000000000 := by
    rw [← hnE] at hmore
    have h1 : n * (s.length * 9) ≤ 10 * (4294967296 * 9) := Nat.mul_le_mul hn (Nat.mul_le_mul hs (Nat.le_refl _))
    omega
  replace hT := hid hT
  replace hTT := hid hTT
  replace hsb := hid hsb
  replace CC := hid CC
  replace hnE := hid hnE
  replace hkey := hid hkey
  replace hyes := hid hyes
  replace hno := hid hno
  replace hne := hid hne
  replace hd := hid hd
  have HH := hid H
  clear H hmore
  go_enter Tryz.func270, Tryz.ntmps270
  go_upto_if 26 with fail
  go_cut [5, 6] from 7 (fun v5 v6 w' => Below w.heap.size w w' ∧ ∃ any : Bool, v6 = .bool any ∧ v5 = .int .i64 (T.length : Nat) ∧ Hid (any = false → T = s))
  case first =>
    by_cases hA : (n : Int) * 8 ≤ (s.length : Int)
    · rw [show decide ((n : Int) * 8 ≤ (s.length : Int)) = true from decide_eq_true hA]
      clear hA
      go_wp2_with fail
      go_loopw [5, 6, 32] (fun v5 v6 v32 wr => Below w.heap.size w wr ∧ ∃ i : Nat, i ≤ n ∧ v32 = .int .i64 (i : Nat) ∧ v5 = .int .i64 ((s.length + moreL (ps.reverse.take i) s : Nat) : Int) ∧ v6 = .bool ((ps.reverse.take i).any fun p => decide (s.count p.1 ≠ 0))) (fun _ _ v32 _ => n - (intOf v32).toNat)
      case atStart => exact ⟨Below.refl _ _, 0, by omega, rfl, by simp [moreL], rfl⟩
      case round =>
        obtain ⟨hb, i, hi, rfl, rfl, rfl⟩ := hrel
        have HB := hid hb
        by_cases hlt : i < n
        · have hlt2 : (i : Int) < (n : Int) := by omega
          obtain ⟨p, hp⟩ : ∃ p, ps.reverse[i]? = some p := ⟨_, List.getElem?_eq_getElem (by rw [List.length_reverse, ← hnE.out]; exact hlt)⟩
          have k1 := (hb.cell (cell_lt (hkey.out i p hp))).trans (hkey.out i p hp)
          have hpm : p ∈ ps := List.mem_reverse.1 (List.mem_of_getElem? hp)
          obtain ⟨k, cap, r0, _⟩ := hyes.out p hpm
          have r1 := (hb.cell (cell_lt r0)).trans r0
          clear r0 hb
          have hml := hne.out p hpm
          have htk : ps.reverse.take (i + 1) = ps.reverse.take i ++ [p] := by
            have h := List.getElem?_eq_some_iff.1 hp
            rw [List.take_succ_eq_append_getElem h.1, h.2]
          have hmt : moreL (ps.reverse.take (i + 1)) s = moreL (ps.reverse.take i) s + s.count p.1 * (p.2.length - 1) := by
            rw [htk]; unfold moreL; simp
          have hat : ((ps.reverse.take (i + 1)).any fun p => decide (s.count p.1 ≠ 0)) = (((ps.reverse.take i).any fun p => decide (s.count p.1 ≠ 0)) || decide (s.count p.1 ≠ 0)) := by
            rw [htk]; simp
          have hbm : moreL (ps.reverse.take i) s ≤ 10 * (4294967296 * 9) := by
            refine Nat.le_trans (more_le _ s 9 fun q hq => (hne.out q (List.mem_reverse.1 (List.mem_of_mem_take hq))).2) ?_
            refine Nat.mul_le_mul ?_ (Nat.mul_le_mul hs (Nat.le_refl _))
            rw [List.length_take, List.length_reverse, ← hnE.out]; omega
          have hcb : s.count p.1 * (p.2.length - 1) ≤ 4294967296 * 9 := Nat.mul_le_mul (Nat.le_trans List.count_le_length hs) (by omega)
          have C1 := CC.out p.1
          have hcl : s.count p.1 ≤ s.length := List.count_le_length
          have hby : ∀ h, (⟨#[p.1]⟩ : ByteArray)[0]'h = p.1 := fun _ => rfl
          have hc2 : (p.1.toNat : Int) < 256 := by have := u8_lt p.1; omega
          obtain ⟨D, hD⟩ : ∃ D, D = s.count p.1 * (p.2.length - 1) := ⟨_, rfl⟩
          have hD2 : (s.count p.1 : Int) * ((p.2.length : Int) - 1) = (D : Int) := by
            rw [hD]; push_cast; rw [Int.natCast_sub hml.1]; rfl
          rw [← hD] at hmt hcb
          obtain ⟨S, hS⟩ : ∃ S, S = s.length + moreL (ps.reverse.take i) s := ⟨_, rfl⟩
          rw [← hS]
          generalize ((ps.reverse.take i).any fun p => decide (s.count p.1 ≠ 0)) = A at *
          have hmt2 := hid (show s.length + moreL (ps.reverse.take (i + 1)) s = S + D by rw [hmt, hS]; omega)
          have hSb : S ≤ 400000000000 := by omega
          replace hat := hid hat
          replace C1 := hid C1
          replace hD := hid hD
          clear htk hmt hS hbm hp
          go_wp2_with fail
          refine (C1.out _).mono ?_
          rintro e w1 ⟨rfl, hw1⟩
          rw [hw1]
          clear hw1 w1
          by_cases hc0 : s.count p.1 = 0
          · have hc1 : ((s.count p.1 : Int) != 0) = false := by rw [hc0]; rfl
            have hD0 : D = 0 := by rw [hD.out, hc0, Nat.zero_mul]
            have hat2 := hat.out
            rw [hc0] at hat2
            have HA := hid (show ((ps.reverse.take (i + 1)).any fun p => decide (s.count p.1 ≠ 0)) = A by rw [hat2]; simp)
            clear hat2 hcb hcl
            have hc0' := hid hc0
            have hD0' := hid hD0
            clear hc0 hD0 hD2 hat hD
            generalize s.count p.1 = c at *
            go_wp2_with fail
            go_roundw
            case rel => exact ⟨HB.out, i + 1, by omega, by go_num, by rw [hmt2.out, hD0'.out]; rfl, by rw [HA.out]⟩
            case measure => simp [intOf]; omega
          · have hc1 : ((s.count p.1 : Int) != 0) = true := by rw [bne_iff_ne]; omega
            generalize s.count p.1 = c at *
            generalize p.2.length = m at *
            have HA := hid (show ((ps.reverse.take (i + 1)).any fun p => decide (s.count p.1 ≠ 0)) = true by rw [hat.out]; simp [hc0])
            clear hat
            go_wp2_with fail
            go_quiet (fail)
            go_wp2_with fail
            go_roundw
            case rel => exact ⟨HB.out.trans ⟨rfl, rfl, rfl, Nat.le_refl _, fun _ _ => rfl⟩, i + 1, by omega, by go_num, by rw [hmt2.out]; go_num, by rw [HA.out]⟩
            case measure => simp [intOf]; omega
        · have hlt2 : ¬ (i : Int) < (n : Int) := by omega
          have hfull : ps.reverse.take i = ps.reverse := List.take_of_length_le (by rw [List.length_reverse, ← hnE.out]; omega)
          rw [hfull]
          have hrev : moreL ps.reverse s = moreL ps s := by unfold moreL; rw [List.map_reverse, List.sum_reverse]
          rw [hrev, ← hT.out]
          have hfin : (ps.reverse.any fun p => decide (s.count p.1 ≠ 0)) = false → T = s := by
            intro h
            rw [hTT.out]
            refine swapL_nothing fun p hp => ?_
            have := List.any_eq_false.1 h p (List.mem_reverse.2 hp)
            simpa using this
          generalize (ps.reverse.any fun p => decide (s.count p.1 ≠ 0)) = A at *
          have HF := hid hfin
          clear hfull hrev hb hfin
          go_wp2_with fail
          go_meet
          case rel => exact ⟨HB.out, A, rfl, rfl, HF⟩
    · rw [show decide ((n : Int) * 8 ≤ (s.length : Int)) = false from decide_eq_false hA]
      clear hA
      go_wp2_with fail
      go_loopw [5, 6, 10] (fun v5 v6 v10 wr => Below w.heap.size w wr ∧ ∃ i : Nat, i ≤ s.length ∧ v10 = .int .i64 (i : Nat) ∧ v5 = .int .i64 (((swapL (substL ps) (s.take i)).length + (s.length - i) : Nat) : Int) ∧ v6 = .bool ((s.take i).any fun c => ps.any fun p => p.1 == c)) (fun _ _ v10 _ => s.length - (intOf v10).toNat)
      case atStart => exact ⟨Below.refl _ _, 0, by omega, rfl, by simp [swapL], rfl⟩
      case round =>
        obtain ⟨hb, i, hi, rfl, rfl, rfl⟩ := hrel
        have HB := hid hb
        by_cases hlt : i < s.length
        · have hlt2 : (i : Int) < (s.length : Int) := by omega
          obtain ⟨c, hc⟩ : ∃ c, c = s[i] := ⟨_, rfl⟩
          have hix := index_byteR (s := sb) (i := i) (c := c.toNat) rfl (by rw [hsz]; exact hlt) (by
            have : ∀ h, sb[i]'h = s[i] := by rw [hsb.out]; intro h; rfl
            rw [this, hc]) wr
          have htk := swapL_take (substL ps) s i hlt
          have hat : ((s.take (i + 1)).any fun c => ps.any fun p => p.1 == c) = (((s.take i).any fun c => ps.any fun p => p.1 == c) || ps.any fun p => p.1 == c) := by
            rw [List.take_succ_eq_append_getElem hlt, List.any_append, ← hc]; simp
          rw [← hc] at htk
          have hle := swapL_le (substL ps) s (i + 1)
          rw [← hTT.out] at hle
          have hc2 : (c.toNat : Int) < 256 := by have := u8_lt c; omega
          obtain ⟨S, hS⟩ : ∃ S, S = (swapL (substL ps) (s.take i)).length + (s.length - i) := ⟨_, rfl⟩
          rw [← hS]
          generalize ((s.take i).any fun c => ps.any fun p => p.1 == c) = A at *
          cases hf : ps.find? (fun p => p.1 == c) with
          | none =>
            have hn0 := find_no hf
            have hsub : substL ps c = [c] := by unfold substL; rw [hf]
            have hany : (ps.any fun p => p.1 == c) = false := by rw [List.any_eq_false]; intro p hp; simpa using hn0 p hp
            have r1 := (hb.cell (cell_lt (hno.out c hn0))).trans (hno.out c hn0)
            have hnil : ∀ W, (binOp .neq 77 (.slice none 0 0) (.slice none 0 0)).run Tryz.prog W = .ok (.bool false) W := fun _ => by kernel_rfl
            rw [hsub] at htk
            have HS := hid (show (swapL (substL ps) (s.take (i + 1))).length + (s.length - (i + 1)) = S by rw [htk, hS, List.length_append, List.length_singleton]; omega)
            have HA := hid (show ((s.take (i + 1)).any fun c => ps.any fun p => p.1 == c) = A by rw [hat, hany, Bool.or_false])
            clear htk hat hle hS hb hf hn0 hsub hany hc
            go_wp2_with fail
            go_roundw
            case rel => exact ⟨HB.out, i + 1, by omega, by go_num, by rw [HS.out], by rw [HA.out]⟩
            case measure => simp [intOf]; omega
          | some p =>
            obtain ⟨hpc, hpm⟩ := find_key hf
            have hsub : substL ps c = p.2 := by unfold substL; rw [hf]
            have hany : (ps.any fun p => p.1 == c) = true := by rw [List.any_eq_true]; exact ⟨p, hpm, by simpa using hpc⟩
            obtain ⟨k, cap, r0, _⟩ := hyes.out p hpm
            rw [hpc] at r0
            have r1 := (hb.cell (cell_lt r0)).trans r0
            have hml := hne.out p hpm
            have hnn : ∀ W, (binOp .neq 77 (.slice (some ⟨k, 0, none⟩) p.2.length cap) (.slice none 0 0)).run Tryz.prog W = .ok (.bool true) W := fun _ => by kernel_rfl
            rw [hsub] at htk
            rw [htk, List.length_append] at hle
            have hS2 : S ≤ 404294967296 := by rw [hS]; omega
            have HS := hid (show (swapL (substL ps) (s.take (i + 1))).length + (s.length - (i + 1)) = S + (p.2.length - 1) by rw [htk, hS, List.length_append]; omega)
            have HA := hid (show ((s.take (i + 1)).any fun c => ps.any fun p => p.1 == c) = true by rw [hat, hany, Bool.or_true])
            clear htk hat hle hS hb hf hsub hany hc r0
            generalize p.2.length = m at *
            go_wp2_with fail
            go_roundw
            case rel => exact ⟨HB.out, i + 1, by omega, by go_num, by rw [HS.out]; go_num, by rw [HA.out]⟩
            case measure => simp [intOf]; omega
        · have hlt2 : ¬ (i : Int) < (s.length : Int) := by omega
          have hfull : s.take i = s := List.take_of_length_le (by omega)
          rw [hfull, ← hTT.out, show s.length - i = 0 by omega, Nat.add_zero]
          have hfin : (s.any fun c => ps.any fun p => p.1 == c) = false → T = s := by
            intro h
            rw [hTT.out]
            refine swapL_nothing fun p hp => ?_
            rw [List.count_eq_zero]
            intro hm
            have h1 := List.any_eq_false.1 h _ hm
            exact h1 (List.any_eq_true.2 ⟨p, hp, by simp⟩)
          generalize (s.any fun c => ps.any fun p => p.1 == c) = A at *
          have HF := hid hfin
          clear hfull hb hfin
          go_wp2_with fail
          go_meet
          case rel => exact ⟨HB.out, A, rfl, rfl, HF⟩
  case rest =>
    obtain ⟨hb, A, rfl, rfl, hF⟩ := hcut
    have HB := hid hb
    cases A with
    | false =>
      have hTs := hF.out rfl
      have hR : T = s := hTs
      go_wp2_with fail
      go_ret
      exact ⟨by rw [hsb.out]; rfl, HB.out⟩
    | true =>
      clear hF
      have hwc := hb.size
      go_wp2_with (at_make; (refine wpList_full u8SliceR rfl _ _ rfl T.length rfl rfl rfl rfl (by omega) (by unfold maxLen; omega) ?_; intro w1 hown hb1))
      obtain ⟨cur, hG, hcs⟩ : ∃ cur, w1.heap[wc.heap.size]? = some (.cells cur 5 (0, 0)) ∧ cur.size = T.length := own_blk hown
      have hB1 := hid (hb.trans (hb1.mono hwc))
      generalize wc.heap.size = G at *
      clear hown hb1 hb HB
      go_loopw [13, 14] (fun v13 v14 wr => Hid (Below w.heap.size w wr) ∧ ∃ i : Nat, i ≤ s.length ∧ v14 = .int .i64 (i : Nat) ∧ v13 = .int .i64 ((swapL (substL ps) (s.take i)).length : Nat) ∧ ∃ cur, Hid (wr.heap[G]? = some (.cells cur 5 (0, 0)) ∧ cur.size = T.length ∧ ∀ (j : Nat) (x : UInt8), (swapL (substL ps) (s.take i))[j]? = some x → cur[j]? = some (.int .u8 x.toNat))) (fun _ v14 _ => s.length - (intOf v14).toNat)
      case atStart => exact ⟨hB1, 0, by omega, rfl, rfl, cur, hid ⟨hG, hcs, fun j x hj => by simp [swapL] at hj⟩⟩
      case round =>
        obtain ⟨HB, i, hi, rfl, rfl, cr, HC⟩ := hrel
        clear hG hcs hB1
        by_cases hlt : i < s.length
        · have hlt2 : (i : Int) < (s.length : Int) := by omega
          obtain ⟨c, hc⟩ : ∃ c, c = s[i] := ⟨_, rfl⟩
          have hix := index_byteR (s := sb) (i := i) (c := c.toNat) rfl (by rw [hsz]; exact hlt) (by
            have : ∀ h, sb[i]'h = s[i] := by rw [hsb.out]; intro h; rfl
            rw [this, hc]) wr
          have htk := swapL_take (substL ps) s i hlt
          rw [← hc] at htk
          have hle := swapL_le (substL ps) s (i + 1)
          rw [← hTT.out, htk, List.length_append] at hle
          have hc2 : (c.toNat : Int) < 256 := by have := u8_lt c; omega
          obtain ⟨q1, q2, q3⟩ := HC.out
          obtain ⟨L, hL⟩ : ∃ L, L = swapL (substL ps) (s.take i) := ⟨_, rfl⟩
          rw [← hL] at htk hle q3 ⊢
          obtain ⟨J, hJ⟩ : ∃ J, J = L.length := ⟨_, rfl⟩
          rw [← hJ] at hle ⊢
          have hb := HB.out
          cases hf : ps.find? (fun p => p.1 == c) with
          | none =>
            have hn0 := find_no hf
            have hsub : substL ps c = [c] := by unfold substL; rw [hf]
            have r1 := (hb.cell (cell_lt (hno.out c hn0))).trans (hno.out c hn0)
            have hnil : ∀ W, (binOp .neq 77 (.slice none 0 0) (.slice none 0 0)).run Tryz.prog W = .ok (.bool false) W := fun _ => by kernel_rfl
            rw [hsub] at htk hle
            rw [List.length_singleton] at hle
            have hJ2 : (J : Int) < (T.length : Int) := by omega
            obtain ⟨x0, g1⟩ : ∃ x, wr.cell? ⟨G, J, none⟩ = some x := ⟨cr[J]'(by omega), by rw [blk_cell q1]; exact Array.getElem?_eq_getElem (by omega)⟩
            have g2 := blk_frozen q1 J
            have HT := hid htk
            have HJ := hid hJ
            have HL := hid hL
            have Q := hid (And.intro q1 (And.intro q2 q3))
            clear htk hf hn0 hsub hc hJ hL q1 q2 q3 hb HC
            go_wp2_with fail
            go_roundw
            case rel =>
              refine ⟨hid (HB.out.setCell (p := ⟨G, J, none⟩) hwc _), i + 1, by omega, by go_num, by rw [HT.out, List.length_append, ← HJ.out, List.length_singleton]; go_num, cr.setIfInBounds J (.int .u8 c.toNat), hid ⟨heap_setCell_same _ _ _ _ _ _ Q.out.1, by rw [Array.size_setIfInBounds, Q.out.2.1], fun j x hj => ?_⟩⟩
              rw [HT.out] at hj
              by_cases hjJ : j = J
              · subst hjJ
                rw [HJ.out, List.getElem?_append_right (Nat.le_refl _), Nat.sub_self] at hj
                simp at hj
                rw [← hj, Array.getElem?_setIfInBounds_self_of_lt (by rw [Q.out.2.1]; omega)]
              · have hjl := (List.getElem?_eq_some_iff.1 hj).1
                rw [List.length_append, List.length_singleton, ← HJ.out] at hjl
                rw [Array.getElem?_setIfInBounds_ne (fun e => hjJ e.symm)]
                rw [List.getElem?_append_left (by rw [← HJ.out]; omega)] at hj
                exact Q.out.2.2 j x hj
            case measure => simp [intOf]; omega
          | some p =>
            obtain ⟨hpc, hpm⟩ := find_key hf
            have hsub : substL ps c = p.2 := by unfold substL; rw [hf]
            obtain ⟨k, cap, r0, cs, fr, y1, y2⟩ := hyes.out p hpm
            rw [hpc] at r0
            have r1 := (hb.cell (cell_lt r0)).trans r0
            have y1' := (hb.block k (blk_lt y1)).trans y1
            have hml := hne.out p hpm
            have hnn : ∀ W, (binOp .neq 77 (.slice (some ⟨k, 0, none⟩) p.2.length cap) (.slice none 0 0)).run Tryz.prog W = .ok (.bool true) W := fun _ => by kernel_rfl
            rw [hsub] at htk hle
            have hcl : (Lib.byteCells p.2).length = p.2.length := by simp [Lib.byteCells]
            have hcp := fun (W : World) (hW : W.heap = wr.heap) => run_copy_rowS (P := Tryz.prog) W 77 77 3 5 1 G J (T.length - J) (T.length - J) ⟨k, 0, none⟩ p.2.length cap cr 5 (Lib.byteCells p.2) Tryz.underlying77 (by kernel_rfl) (by rw [hW]; exact q1) (by rw [hcl, Nat.mul_one]; exact (Nat.min_eq_left (by omega)).symm) (by
              intro j v hj
              rw [Addr.add_lit, Nat.zero_add]
              have hj2 := (List.getElem?_eq_some_iff.1 hj).1
              rw [hcl] at hj2
              have hx := y2 j p.2[j] (List.getElem?_eq_getElem hj2)
              have hv : v = .int .u8 (p.2[j].toNat : Int) := by
                unfold Lib.byteCells at hj
                rw [List.getElem?_map, List.getElem?_eq_getElem hj2] at hj
                exact (Option.some.inj hj).symm
              rw [hv]
              simp only [World.cell?, hW, y1']
              simpa using hx) (by rw [hcl, q2]; omega) (by
              intro v hv
              unfold Lib.byteCells at hv
              obtain ⟨x, _, rfl⟩ := List.mem_map.1 hv
              rfl)
            have hmin : p.2.length.min (T.length - J) = p.2.length := Nat.min_eq_left (by omega)
            rw [hmin] at hcp
            obtain ⟨X, hX⟩ : ∃ X, X = (cr.toList.take J ++ Lib.byteCells p.2 ++ cr.toList.drop (J + (Lib.byteCells p.2).length)).toArray := ⟨_, rfl⟩
            rw [← hX] at hcp
            have hJ2 : (J : Int) < (T.length : Int) := by omega
            have hJ3 : J + p.2.length ≤ T.length := hle
            have HT := hid htk
            have HJ := hid hJ
            have HL := hid hL
            have HX := hid hX
            have HCL := hid hcl
            have Q := hid (And.intro q1 (And.intro q2 q3))
            clear htk hf hsub hc hJ hL q1 q2 q3 hb HC hpc r0 hcl hmin hX y1 y2 y1' hle
            obtain ⟨m, hm⟩ : ∃ m, m = p.2.length := ⟨_, rfl⟩
            rw [← hm] at hcp hJ3 hml r1 hnn
            replace hm := hid hm
            replace hcp := fun W h => (hcp W h : _ = Result.ok (Value.int .i64 (m : Int)) _)
            have hcp1 := hcp wr rfl
            have hcp2 := hcp wr.drew rfl
            clear hcp
            go_wp2_with fail
            go_region
            go_wp2_with fail
            go_roundw
            case rel =>
              refine ⟨hid (below_setRow HB.out.drew hwc _), i + 1, by omega, by go_num, by rw [HT.out, List.length_append, ← HJ.out, ← hm.out]; go_num, X, hid ⟨setRow_heap wr.drew _ _ _ _ _ Q.out.1, ?_, fun j x hj => ?_⟩⟩
              · rw [HX.out, List.size_toArray, List.length_append, List.length_append, List.length_take, List.length_drop, HCL.out, ← hm.out, Array.length_toList, Q.out.2.1]; omega
              · rw [HT.out] at hj
                have hjl := (List.getElem?_eq_some_iff.1 hj).1
                rw [List.length_append, ← HJ.out] at hjl
                rw [HX.out, List.getElem?_toArray]
                have htl : (cr.toList.take J).length = J := by rw [List.length_take, Array.length_toList, Q.out.2.1]; omega
                rw [List.append_assoc]
                by_cases hjJ : j < J
                · rw [List.getElem?_append_left (by rw [htl]; exact hjJ), List.getElem?_take, if_pos hjJ, Array.getElem?_toList]
                  rw [List.getElem?_append_left (by rw [← HJ.out]; exact hjJ)] at hj
                  exact Q.out.2.2 j x hj
                · rw [List.getElem?_append_right (by rw [htl]; omega), htl, List.getElem?_append_left (by rw [HCL.out]; omega)]
                  rw [List.getElem?_append_right (by rw [← HJ.out]; omega), ← HJ.out] at hj
                  unfold Lib.byteCells
                  rw [List.getElem?_map, hj]
                  rfl
            case measure => simp [intOf]; omega
        · have hlt2 : ¬ (i : Int) < (s.length : Int) := by omega
          have hfull : s.take i = s := List.take_of_length_le (by omega)
          obtain ⟨q1, q2, q3⟩ := HC.out
          rw [hfull, ← hTT.out] at q3 ⊢
          have hcv := run_convert_bytes_back (P := Tryz.prog) wr 77 9 5 ⟨G, 0, none⟩ T.length T Tryz.underlying77 Tryz.underlying5 Tryz.underlying9 (fun j hj => by
            rw [Addr.add_lit, Nat.zero_add, blk_cell q1]
            exact q3 j T[j] (List.getElem?_eq_getElem hj))
          clear hfull q1 q2 q3 HC
          go_wp2_with fail
          go_ret
          exact ⟨rfl, HB.out⟩

end Go.Proofs.YtldhebpkplglcaaGreatDoor

namespace Go.Proofs.YtldhebpkplglcaaGreatDoor
open Go.RowKit

theorem race_disable (w : World) : (callFunc 195 #[]).run Tryz.prog w = .ok (.value (.tuple #[])) w := run_call_mark0 Tryz.func195 (by kernel_rfl) (by kernel_rfl) (by kernel_rfl) .disable (by kernel_rfl) w
theorem race_enable (w : World) : (callFunc 197 #[]).run Tryz.prog w = .ok (.value (.tuple #[])) w := run_call_mark0 Tryz.func197 (by kernel_rfl) (by kernel_rfl) (by kernel_rfl) .enable (by kernel_rfl) w
theorem race_acquire (a : Addr) (w : World) : (callFunc 198 #[.pointer (some a)]).run Tryz.prog w = .ok (.value (.tuple #[])) w := run_call_marked Tryz.func198 (by kernel_rfl) (by kernel_rfl) (by kernel_rfl) .acquire (by kernel_rfl) a w
theorem race_releaseMerge (a : Addr) (w : World) : (callFunc 200 #[.pointer (some a)]).run Tryz.prog w = .ok (.value (.tuple #[])) w := run_call_marked Tryz.func200 (by kernel_rfl) (by kernel_rfl) (by kernel_rfl) .releaseMerge (by kernel_rfl) a w

theorem store_deferred (a : Addr) (x : Value) (u : FrameMode) (w : World) (hc : w.cell? a = some x) (hz : w.frozen? a = false) :
    CallsD Tryz.prog 105 #[.pointer (some a), .bool true] u w fun e u' w' => u' = u ∧ (e = .returned (.tuple #[]) ∧ w' = w.drew.setCell a (.int .u32 1)) := by
  have hc' : w.drew.cell? a = some x := by go_simp
  have hz' : w.drew.frozen? a = false := by go_simp
  have hst := run_call_store (P := Tryz.prog) Tryz.func155 (by kernel_rfl) (by kernel_rfl) (by kernel_rfl) (by kernel_rfl) (k := .u32) (y := 1) hc' hz'
  go_enter_d Tryz.func105, Tryz.ntmps105
  go_wp2
  go_region_calls
  all_goals (go_end0; exact ⟨rfl, rfl⟩)

set_option maxRecDepth 100000 in
theorem unlock_deferred (a : Addr) (u : FrameMode) (w : World) (hc : w.cell? a = some (.int .i32 1)) (hz : w.frozen? a = false) :
    CallsD Tryz.prog 104 #[.pointer (some a)] u w fun e u' w' => u' = u ∧ (e = .returned (.tuple #[]) ∧ w' = w.setCell a (.int .i32 0)) := by
  have hd := race_disable
  have he := race_enable
  have hr := race_releaseMerge
  have hadd := run_call_add (P := Tryz.prog) Tryz.func201 (by kernel_rfl) (by kernel_rfl) (by kernel_rfl) .i32 (by kernel_rfl) (y := -1) (s := 0) hc hz (by simp [go_sem]; rfl)
  have hcv := run_convert_to_unsafe (P := Tryz.prog) (src := 240) (dst := 161) Tryz.underlying240 Tryz.underlying161 (by kernel_rfl) hc
  go_enter_d Tryz.func104, Tryz.ntmps104
  go_wp2
  go_end0
  go_wp2
  go_end0
  exact ⟨rfl, rfl⟩

set_option maxRecDepth 100000 in
theorem lock_free (a : Addr) (w : World) (hc : w.cell? a = some (.int .i32 0)) (hz : w.frozen? a = false) :
    Calls Tryz.prog 103 #[.pointer (some a)] w fun e w' => e = .returned (.tuple #[]) ∧ w' = w.setCell a (.int .i32 1) := by
  have hd := race_disable
  have he := race_enable
  have ha := race_acquire
  have hcas := run_call_cas_hit (P := Tryz.prog) Tryz.func196 (by kernel_rfl) (by kernel_rfl) (by kernel_rfl) .i32 (by kernel_rfl) (y := 1) hc hz
  have hc' : (w.setCell a (.int .i32 1)).cell? a = some (.int .i32 1) := World.cell?_setCell_same w a _ hc
  have hcv := run_convert_to_unsafe (P := Tryz.prog) (src := 240) (dst := 161) Tryz.underlying240 Tryz.underlying161 (by kernel_rfl) hc'
  go_enter Tryz.func103, Tryz.ntmps103
  go_wp2
  first | go_end0 | (simp only [Exit.inBlock, Exit.then]; refine bodyPost_ret (results_none rfl _ _ _) rfl ?_) | refine bodyPost_ret (results_none rfl _ _ _) rfl ?_
  go_wp2
  go_end0
  exact ⟨rfl, rfl⟩

set_option maxRecDepth 100000 in
set_option maxHeartbeats 1600000 in
/-- doSlow, not yet done and the lock free. -/
theorem once_slow (b g : Nat) (R : World → Prop) (w : World) (eg : ∀ args w, (callFunc g args).run Tryz.prog w = .ok (.enter g args) w)
    (h0 : w.cell? ⟨b, 0, none⟩ = some (.int .u32 0)) (h1 : w.cell? ⟨b, 1, none⟩ = some (.int .i32 0)) (_ : w.frozen? ⟨b, 0, none⟩ = false) (f1 : w.frozen? ⟨b, 1, none⟩ = false)
    (hF : Calls Tryz.prog g #[.pointer (some ⟨b, 0, none⟩)] (w.setCell ⟨b, 1, none⟩ (.int .i32 1)) fun e w' => e = .returned (.tuple #[]) ∧ R w')
    (hR : ∀ w', R w' → w'.cell? ⟨b, 0, none⟩ = some (.int .u32 0) ∧ w'.cell? ⟨b, 1, none⟩ = some (.int .i32 1) ∧ w'.frozen? ⟨b, 0, none⟩ = false ∧ w'.frozen? ⟨b, 1, none⟩ = false) :
    Calls Tryz.prog 63 #[.pointer (some ⟨b, 0, none⟩), .func (.func g) #[.pointer (some ⟨b, 0, none⟩)] #[]] w fun e w' => e = .returned (.tuple #[]) ∧
      ∃ w1, R w1 ∧ w' = ((w1.drew.setCell ⟨b, 0, none⟩ (.int .u32 1)).setCell ⟨b, 1, none⟩ (.int .i32 0)) := by
  have hl := run_call_load (P := Tryz.prog) Tryz.func102 (by kernel_rfl) (by kernel_rfl) (by kernel_rfl) .u32 (by kernel_rfl) (w := w.setCell ⟨b, 1, none⟩ (.int .i32 1)) (a := ⟨b, 0, none⟩) (x := 0) ((World.cell?_setCell_other _ ⟨b, 1, none⟩ ⟨b, 0, none⟩ _ (by simp)).trans h0)
  have hnot : ∀ (x : Bool) (w : World), (Op.unary .not (.bool x)).run Tryz.prog w = .ok (.bool (!x)) w := fun _ _ => rfl
  have HF := hid hF
  have HR := hid hR
  clear hF hR
  go_enter_defers Tryz.func63, Tryz.ntmps63
  go_wp2_with (go_at_call 103; refine (lock_free ⟨b, 1, none⟩ _ (by go_simp) (by go_simp)).mono ?_; rintro e w' ⟨rfl, rfl⟩)
  go_wp2
  refine HF.out.mono ?_
  rintro e w1 ⟨rfl, hR1⟩
  obtain ⟨c0, c1, z0, z1⟩ := HR.out w1 hR1
  have HR1 := hid hR1
  clear hR1
  go_wp2
  refine leaves_cons (f := 105) (args := #[.pointer (some ⟨b, 0, none⟩), .bool true]) (by simp) (by simp [go_sem]) ?_
  refine (store_deferred ⟨b, 0, none⟩ (.int .u32 0) .returning _ c0 z0).mono ?_
  rintro e u' w'' ⟨rfl, rfl, rfl⟩
  refine leaves_cons (f := 104) (args := #[.pointer (some ⟨b, 1, none⟩)]) (by simp [settle]) (by simp [go_sem]) ?_
  refine (unlock_deferred ⟨b, 1, none⟩ _ _ ?_ (by simp [z1])).mono ?_
  · refine (World.cell?_setCell_other _ ⟨b, 0, none⟩ ⟨b, 1, none⟩ _ (by simp)).trans ?_
    rw [World.cell?_drew]
    exact c1
  rintro e u' w'' ⟨rfl, rfl, rfl⟩
  simp [Leaves, settle, results, Tryz.results63]
  exact ⟨w1, HR1.out, rfl⟩

set_option maxRecDepth 100000 in
set_option maxHeartbeats 1600000 in
/-- Do, not yet done and the lock free. -/
theorem once_first (b g : Nat) (R : World → Prop) (w : World) (eg : ∀ args w, (callFunc g args).run Tryz.prog w = .ok (.enter g args) w)
    (h0 : w.cell? ⟨b, 0, none⟩ = some (.int .u32 0)) (h1 : w.cell? ⟨b, 1, none⟩ = some (.int .i32 0)) (f0 : w.frozen? ⟨b, 0, none⟩ = false) (f1 : w.frozen? ⟨b, 1, none⟩ = false)
    (hF : Calls Tryz.prog g #[.pointer (some ⟨b, 0, none⟩)] (w.setCell ⟨b, 1, none⟩ (.int .i32 1)) fun e w' => e = .returned (.tuple #[]) ∧ R w')
    (hR : ∀ w', R w' → w'.cell? ⟨b, 0, none⟩ = some (.int .u32 0) ∧ w'.cell? ⟨b, 1, none⟩ = some (.int .i32 1) ∧ w'.frozen? ⟨b, 0, none⟩ = false ∧ w'.frozen? ⟨b, 1, none⟩ = false) :
    Calls Tryz.prog 37 #[.pointer (some ⟨b, 0, none⟩), .func (.func g) #[.pointer (some ⟨b, 0, none⟩)] #[]] w fun e w' => e = .returned (.tuple #[]) ∧
      ∃ w1, R w1 ∧ w' = ((w1.drew.setCell ⟨b, 0, none⟩ (.int .u32 1)).setCell ⟨b, 1, none⟩ (.int .i32 0)) := by
  have hl := run_call_load (P := Tryz.prog) Tryz.func102 (by kernel_rfl) (by kernel_rfl) (by kernel_rfl) .u32 (by kernel_rfl) h0
  have hnot : ∀ (x : Bool) (w : World), (Op.unary .not (.bool x)).run Tryz.prog w = .ok (.bool (!x)) w := fun _ _ => rfl
  have CS := hid (once_slow b g R w eg h0 h1 f0 f1 hF hR)
  clear hF hR
  go_enter Tryz.func37, Tryz.ntmps37
  go_wp2_with (first | (go_at_call 63; refine CS.out.mono ?_; rintro e w' ⟨rfl, w1, hw1, rfl⟩) | (go_at_call 62; go_in))
  go_end0
  exact ⟨rfl, w1, hw1, rfl⟩

end Go.Proofs.YtldhebpkplglcaaGreatDoor

namespace Go.Proofs.YtldhebpkplglcaaGreatDoor
open Go.RowKit

theorem RW.other {B R : Nat} {w : World} {ps : List Pair} {cells : Array Value} {tv : Value} (h : RW B R w ps cells tv) {b : Nat} {cs : Array Value} {fr : Nat × Nat} (hb : w.heap[b]? = some (.cells cs 74 fr)) (j : Nat) (v : Value) : RW B R (w.setCell ⟨b, j, none⟩ v) ps cells tv := by
  have hne : R ≠ b := by
    rintro rfl
    have h1 := h.blk
    rw [hb] at h1
    injection h1 with h1
    injection h1 with _ h2 _
    exact absurd h2 (by decide)
  exact ⟨(heap_setCell_other _ _ _ _ hne).trans h.blk, h.size, h.rep.keep (set_keep hb j v (by decide)), h.last, own_keep h.own (set_keep hb j v (by decide))⟩
theorem RW.drew {B R : Nat} {w : World} {ps : List Pair} {cells : Array Value} {tv : Value} (h : RW B R w ps cells tv) : RW B R w.drew ps cells tv := ⟨h.blk, h.size, h.rep.keep fun _ _ _ _ => rfl, h.last, own_keep h.own fun _ _ _ _ => rfl⟩
theorem blk5_set {w : World} {b : Nat} {x0 x1 x2 x3 x4 : Value} {T : TypeId} (h : w.heap[b]? = some (.cells #[x0, x1, x2, x3, x4] T (0, 0))) (u : Value) :
    (w.setCell ⟨b, 0, none⟩ u).heap[b]? = some (.cells #[u, x1, x2, x3, x4] T (0, 0)) ∧ (w.setCell ⟨b, 1, none⟩ u).heap[b]? = some (.cells #[x0, u, x2, x3, x4] T (0, 0)) ∧
    (w.setCell ⟨b, 3, none⟩ u).heap[b]? = some (.cells #[x0, x1, x2, u, x4] T (0, 0)) ∧ (w.setCell ⟨b, 4, none⟩ u).heap[b]? = some (.cells #[x0, x1, x2, x3, u] T (0, 0)) :=
  ⟨heap_setCell_same _ _ _ _ _ _ h, heap_setCell_same _ _ _ _ _ _ h, heap_setCell_same _ _ _ _ _ _ h, heap_setCell_same _ _ _ _ _ _ h⟩
/-- What stands behind buildOnce. -/
def BuiltAt (B0 b : Nat) (w0 : World) (ps : List Pair) (w : World) : Prop := ∃ R B cells tv, w.heap[b]? = some (.cells #[.int .u32 0, .int .i32 1, .int .u32 0, .iface 160 (.pointer (some ⟨R, 0, none⟩)), .slice none 0 0] 74 (0, 0)) ∧ RW B R w ps cells tv ∧ Below B0 w0 w

set_option maxRecDepth 100000 in
set_option maxHeartbeats 1600000 in
theorem build_once (ps : List Pair) (B0 B b g N cp : Nat) (w0 w : World) (hB0 : B0 ≤ b) (hbel : Below B0 w0 w) (hblk : w.heap[b]? = some (.cells #[.int .u32 0, .int .i32 1, .int .u32 0, .nilIface, .slice (some ⟨g, 0, none⟩) N cp] 74 (0, 0))) (hN : N = 2 * ps.length)
    (hown : w.ownsRow B 9 1 (.slice (some ⟨g, 0, none⟩) N cp) N (strsR (oldnew ps))) (hn : ps.length ≤ 10) (hn2 : 2 ≤ ps.length)
    (hd : (ps.map (·.1)).Nodup) (hne : ∀ p ∈ ps, 1 ≤ p.2.length ∧ p.2.length ≤ 10) (hfst : ∀ p, ps[0]? = some p → 2 ≤ p.2.length) :
    Calls Tryz.prog 38 #[.pointer (some ⟨b, 0, none⟩)] w fun e w' => e = .returned (.tuple #[]) ∧ BuiltAt B0 b w0 ps w' := by
  have hRow : Row w (some ⟨g, 0, none⟩) (strsR (oldnew ps)) := fun j x hj => ⟨g, 0, rfl, by rw [Nat.zero_add]; exact own_cell hown hj⟩
  have C := hid (rpl_build ps b g N cp w ((blk_cell hblk 4).trans rfl) hN hRow (by omega) hn2 hd (fun p hp => ⟨(hne p hp).1, by have := (hne p hp).2; omega⟩) hfst)
  have HB := hid hblk
  have HL := hid hbel
  clear hRow hown hd hne hfst hblk hbel hN
  go_enter Tryz.func38, Tryz.ntmps38
  go_wp2_with fail
  refine C.out.mono ?_
  rintro e w1 ⟨R, rfl, cells, tv, H⟩
  have hb1 := (H.bel.block b (blk_lt HB.out)).trans HB.out
  have q3 : w1.cell? ⟨b, 3, none⟩ = some .nilIface := (blk_cell hb1 3).trans rfl
  have q4 : w1.cell? ⟨b, 4, none⟩ = some (.slice (some ⟨g, 0, none⟩) N cp) := (blk_cell hb1 4).trans rfl
  have z3 := blk_frozen hb1 3
  have z4 := blk_frozen hb1 4
  have HH := hid H
  have H1 := hid hb1
  clear H hb1 C
  go_wp2_with fail
  refine bodyPost_end (v := .tuple #[]) (by simp [results, Tryz.results38]) rfl ?_
  refine ⟨rfl, R, w.heap.size, cells, tv, ?_⟩
  have e1 := (blk5_set H1.out (.iface 160 (.pointer (some ⟨R, 0, none⟩)))).2.2.1
  have e2 := (blk5_set e1 (.slice none 0 0)).2.2.2
  exact ⟨e2, (HH.out.rw.other H1.out 3 _).other e1 4 _, ((HL.out.trans (HH.out.bel.mono (Nat.le_trans hB0 (Nat.le_of_lt (blk_lt HB.out))))).setCell (p := ⟨b, 3, none⟩) hB0 _).setCell (p := ⟨b, 4, none⟩) hB0 _⟩

set_option maxRecDepth 100000 in
set_option maxHeartbeats 1600000 in
theorem replacer_Replace (ps : List Pair) (s : List UInt8) (B0 B b g N cp : Nat) (w0 w : World) (hB0 : B0 ≤ b) (hbel : Below B0 w0 w) (hblk : w.heap[b]? = some (.cells #[.int .u32 0, .int .i32 0, .int .u32 0, .nilIface, .slice (some ⟨g, 0, none⟩) N cp] 74 (0, 0))) (hN : N = 2 * ps.length)
    (hown : w.ownsRow B 9 1 (.slice (some ⟨g, 0, none⟩) N cp) N (strsR (oldnew ps))) (hs : s.length ≤ 4294967296) (hn : ps.length ≤ 10) (hn2 : 2 ≤ ps.length)
    (hd : (ps.map (·.1)).Nodup) (hne : ∀ p ∈ ps, 1 ≤ p.2.length ∧ p.2.length ≤ 10) (hfst : ∀ p, ps[0]? = some p → 2 ≤ p.2.length) :
    Calls Tryz.prog 15 #[.pointer (some ⟨b, 0, none⟩), .string ⟨s.toArray⟩] w fun e w' => e = .returned (.string ⟨(swapL (substL ps) s).toArray⟩) ∧ Below B0 w0 w' := by
  have hb1 := (blk5_set hblk (.int .i32 1)).2.1
  have hown1 := own_keep hown (set_keep hblk 1 (.int .i32 1) (by decide))
  have hbel1 := hbel.setCell (p := ⟨b, 1, none⟩) hB0 (.int .i32 1)
  have hF := build_once ps B0 B b g N cp w0 (w.setCell ⟨b, 1, none⟩ (.int .i32 1)) hB0 hbel1 hb1 hN hown1 hn hn2 hd hne hfst
  have C := hid (once_first b 38 (BuiltAt B0 b w0 ps) w (run_callFunc Tryz.func38 (by kernel_rfl) (by kernel_rfl)) ((blk_cell hblk 0).trans rfl) ((blk_cell hblk 1).trans rfl) (blk_frozen hblk 0) (blk_frozen hblk 1) hF (fun w' h => by
    obtain ⟨R, B, cells, tv, h1, _, _⟩ := h
    exact ⟨(blk_cell h1 0).trans rfl, (blk_cell h1 1).trans rfl, blk_frozen h1 0, blk_frozen h1 1⟩))
  have CR := hid fun (B R : Nat) (cells : Array Value) (tv : Value) (W : World) (H : RW B R W ps cells tv) => rpl_Replace B R ps cells tv s W H hs hn (by omega) hd hne
  generalize swapL (substL ps) s = T at *
  generalize (⟨s.toArray⟩ : ByteArray) = sb at *
  clear hown hown1 hbel hbel1 hblk hb1 hF hd hne hfst hN
  have hm : ∀ (R : Nat) (w : World), (method 409 160 (.pointer (some ⟨R, 0, none⟩)) "Replace").run Tryz.prog w = .ok (270, .pointer (some ⟨R, 0, none⟩)) w := fun _ _ => by kernel_rfl
  have he : ∀ (args : Array Value) (w : World), (callFunc 270 args).run Tryz.prog w = .ok (.enter 270 args) w := run_callFunc Tryz.func270 (by kernel_rfl) (by kernel_rfl)
  go_enter Tryz.func15, Tryz.ntmps15
  go_wp2_with fail
  refine C.out.mono ?_
  rintro e w1 ⟨rfl, w2, ⟨R, B2, cells, tv, h1, H2, h3⟩, rfl⟩
  have e0 : w2.drew.heap[b]? = _ := h1
  have e1 := (blk5_set e0 (.int .u32 1)).1
  have e2 := (blk5_set e1 (.int .i32 0)).2.1
  have H3 := ((H2.drew).other e0 0 (.int .u32 1)).other e1 1 (.int .i32 0)
  have HB := hid ((h3.drew.setCell (p := ⟨b, 0, none⟩) hB0 (.int .u32 1)).setCell (p := ⟨b, 1, none⟩) hB0 (.int .i32 0))
  generalize (w2.drew.setCell ⟨b, 0, none⟩ (.int .u32 1)).setCell ⟨b, 1, none⟩ (.int .i32 0) = w3 at *
  have q3 : w3.cell? ⟨b, 3, none⟩ = some (.iface 160 (.pointer (some ⟨R, 0, none⟩))) := (blk_cell e2 3).trans rfl
  have C3 := hid (CR.out _ R _ _ w3 H3)
  have hlt := hid (Nat.le_trans hB0 (Nat.le_of_lt (blk_lt e2)))
  clear e0 e1 e2 h1 H2 H3 h3 C CR
  go_wp2_with fail
  refine (C3.out).mono ?_
  rintro e w4 ⟨rfl, hb4⟩
  have HB4 := hid (HB.out.trans (hb4.mono hlt.out))
  clear hb4
  go_wp2_with fail
  go_ret
  exact ⟨rfl, HB4.out⟩

end Go.Proofs.YtldhebpkplglcaaGreatDoor
