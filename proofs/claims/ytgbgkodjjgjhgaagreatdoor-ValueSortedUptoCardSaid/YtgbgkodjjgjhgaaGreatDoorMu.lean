/- Stable sorting: plain laws. Items bear the place where they stood first; there is one order by (order, place). Nothing is walked here. Putting an item into a row in order, from the row's end: plain laws. The document's answer: ints held against each other. append of a row that may be nil or empty to a row of the call's own, at any size of element; rows of texts. The document's answer: an object's keys in order. -/
import Derived.Test.YtgbgkodjjgjhgaaGreatDoorMj
import Derived.Test.YtgbgkodjjgjhgaaGreatDoorMe
import Derived.Test.YtgbgkodjjgjhgaaGreatDoorMa
import Derived.Test.YtgbgkodjjgjhgaaGreatDoorMq
import Derived.Test.YtgbgkodjjgjhgaaGreatDoorMp
import Derived.Test.YtgbgkodjjgjhgaaGreatDoorUtfJ
import Derived.Deep.RegionLaw
namespace Go.Proofs.YtgbgkodjjgjhgaaGreatDoor

section
variable {α : Type} {S : α → Prop} {c : α → α → Int}
/-- By the order, then by the place. -/
def Lt (c : α → α → Int) (p q : α × Nat) : Prop := c p.1 q.1 < 0 ∨ (c p.1 q.1 = 0 ∧ p.2 < q.2)
instance (c : α → α → Int) (p q : α × Nat) : Decidable (Lt c p q) := by unfold Lt; infer_instance
theorem Lt.asymm (h : OrdOn S c) {p q : α × Nat} (hp : S p.1) (hq : S q.1) (a : Lt c p q) : ¬ Lt c q p := by
  unfold Lt at a ⊢
  have e := h.anti p.1 q.1 hp hq
  omega
theorem Lt.trans (h : OrdOn S c) {p q r : α × Nat} (hp : S p.1) (hq : S q.1) (hr : S r.1) (a : Lt c p q) (b : Lt c q r) : Lt c p r := by
  unfold Lt at a b ⊢
  have t := h.trans p.1 q.1 r.1 hp hq hr (by omega) (by omega)
  by_cases e : c p.1 r.1 = 0
  · right
    refine ⟨e, ?_⟩
    have s := h.same hp hr hq e
    have a1 := h.anti q.1 r.1 hq hr
    have s2 : c p.1 q.1 = -c q.1 r.1 := by omega
    omega
  · left; omega
/-- In order, by the order and the place. -/
def Stab (c : α → α → Int) (l : List (α × Nat)) : Prop := l.Pairwise (Lt c)
theorem stab_uniq (h : OrdOn S c) : ∀ {l m : List (α × Nat)}, (∀ p ∈ l, S p.1) → (∀ p ∈ m, S p.1) → Stab c l → Stab c m → (∀ z, z ∈ l ↔ z ∈ m) → l = m
  | [], [], _, _, _, _, _ => rfl
  | [], y :: m, _, _, _, _, e => by have := (e y).2 (by simp); cases this
  | x :: l, [], _, _, _, _, e => by have := (e x).1 (by simp); cases this
  | x :: l, y :: m, hl, hm, sl, sm, e => by
    have h1 := List.pairwise_cons.1 sl
    have h2 := List.pairwise_cons.1 sm
    have hxy : x = y := by
      rcases List.mem_cons.1 ((e x).1 (by simp)) with e1 | e1
      · exact e1
      · rcases List.mem_cons.1 ((e y).2 (by simp)) with e2 | e2
        · exact e2.symm
        · exact absurd (h2.1 x e1) (Lt.asymm h (hl x (by simp)) (hm y (by simp)) (h1.1 y e2))
    subst hxy
    have irr : ∀ z : α × Nat, S z.1 → ¬ Lt c z z := fun z hz hh => Lt.asymm h hz hz hh hh
    congr 1
    refine stab_uniq h (fun p hp => hl p (by simp [hp])) (fun p hp => hm p (by simp [hp])) h1.2 h2.2 fun z => ⟨fun hz => ?_, fun hz => ?_⟩
    · rcases List.mem_cons.1 ((e z).1 (by simp [hz])) with e1 | e1
      · subst e1
        exact absurd (h1.1 z hz) (irr z (hl z (by simp)))
      · exact e1
    · rcases List.mem_cons.1 ((e z).2 (by simp [hz])) with e1 | e1
      · subst e1
        exact absurd (h2.1 z hz) (irr z (hl z (by simp)))
      · exact e1
/-- An item that comes in last. -/
def insS (c : α → α → Int) (x : α × Nat) : List (α × Nat) → List (α × Nat)
  | [] => [x]
  | y :: l => if Lt c x y then x :: y :: l else y :: insS c x l
theorem insS_perm (x : α × Nat) : ∀ l : List (α × Nat), (insS c x l).Perm (x :: l)
  | [] => List.Perm.refl _
  | y :: l => by
    simp only [insS]
    split
    · exact List.Perm.refl _
    · exact ((insS_perm x l).cons y).trans (List.Perm.swap x y l)
theorem insS_stab (h : OrdOn S c) {x : α × Nat} (hx : S x.1) : ∀ {l : List (α × Nat)}, (∀ p ∈ l, S p.1) → Stab c l → (∀ p ∈ l, p.2 ≠ x.2) → Stab c (insS c x l)
  | [], _, _, _ => List.pairwise_singleton _ _
  | y :: l, hl, hs, hn => by
    have h1 := List.pairwise_cons.1 hs
    have hy := hl y (by simp)
    simp only [insS]
    split
    · rename_i hlt
      refine List.pairwise_cons.2 ⟨fun z hz => ?_, hs⟩
      rcases List.mem_cons.1 hz with e | e
      · rw [e]; exact hlt
      · exact Lt.trans h hx hy (hl z hz) hlt (h1.1 z e)
    · rename_i hge
      have hlt : Lt c y x := by
        have a := h.anti x.1 y.1 hx hy
        have n := hn y (by simp)
        unfold Lt at hge ⊢
        omega
      refine List.pairwise_cons.2 ⟨fun z hz => ?_, insS_stab h hx (fun p hp => hl p (by simp [hp])) h1.2 (fun p hp => hn p (by simp [hp]))⟩
      rcases List.mem_cons.1 ((insS_perm x l).mem_iff.1 hz) with e | e
      · rw [e]; exact hlt
      · exact h1.1 z e
/-- Items with their places. -/
def withI (l : List α) : List (α × Nat) := l.zipIdx
def sortI (c : α → α → Int) (l : List (α × Nat)) : List (α × Nat) := l.foldl (fun acc x => insS c x acc) []
/-- The stable order of items. -/
def sortS (c : α → α → Int) (l : List α) : List α := (sortI c (withI l)).map (·.1)
theorem sortI_perm (l : List (α × Nat)) : (sortI c l).Perm l := by
  have key : ∀ (l acc : List (α × Nat)), (l.foldl (fun acc x => insS c x acc) acc).Perm (l ++ acc) := by
    intro l
    induction l with
    | nil => intro acc; exact List.Perm.refl _
    | cons y l ih =>
      intro acc
      rw [List.foldl_cons]
      exact (ih _).trans (((insS_perm y acc).append_left l).trans List.perm_middle)
  have := key l []
  rwa [List.append_nil] at this
theorem sortI_stab (h : OrdOn S c) {l : List (α × Nat)} (hl : ∀ p ∈ l, S p.1) (hn : (l.map (·.2)).Nodup) : Stab c (sortI c l) := by
  have key : ∀ (l acc : List (α × Nat)), (∀ p ∈ l ++ acc, S p.1) → Stab c acc → ((l ++ acc).map (·.2)).Nodup → Stab c (l.foldl (fun acc x => insS c x acc) acc) := by
    intro l
    induction l with
    | nil => intro acc _ ha _; exact ha
    | cons y l ih =>
      intro acc hs ha hn
      rw [List.foldl_cons]
      have hn2 := hn
      simp only [List.cons_append, List.map_cons, List.nodup_cons] at hn2
      have p : (l ++ insS c y acc).Perm (y :: (l ++ acc)) := ((insS_perm y acc).append_left l).trans List.perm_middle
      refine ih _ (fun q hq => ?_) (insS_stab h (hs y (by simp)) (fun q hq => hs q (by simp [hq])) ha fun q hq e => hn2.1 ?_) ?_
      · exact hs q (by have := p.mem_iff.1 hq; simpa using this)
      · rw [← e]
        exact List.mem_map.2 ⟨q, by simp [hq], rfl⟩
      · rw [(p.map (·.2)).nodup_iff]
        exact hn
  exact key l [] (by simpa using hl) List.Pairwise.nil (by simpa using hn)
theorem withI_nodup (l : List α) : ((withI l).map (·.2)).Nodup := by
  unfold withI
  rw [List.zipIdx_map_snd]
  exact List.nodup_range' ..
theorem withI_map (l : List α) : (withI l).map (·.1) = l := List.zipIdx_map_fst ..
/-- What is in order by order and place, and has the same items at the same places, is the stable order. -/
theorem sortS_of (h : OrdOn S c) {l : List α} {m : List (α × Nat)} (hl : ∀ x ∈ l, S x) (hm : Stab c m) (e : m.Perm (withI l)) : m.map (·.1) = sortS c l := by
  have hw : ∀ p ∈ withI l, S p.1 := fun p hp => hl p.1 (by
    have : p.1 ∈ (withI l).map (·.1) := List.mem_map_of_mem hp
    rwa [withI_map] at this)
  unfold sortS
  congr 1
  exact stab_uniq h (fun p hp => hw p (e.mem_iff.1 hp)) (fun p hp => hw p ((sortI_perm _).mem_iff.1 hp)) hm (sortI_stab h hw (withI_nodup l)) fun z => e.mem_iff.trans (sortI_perm _).mem_iff.symm
/-- Two runs in order whose parts are parted by the order are in order together. -/
theorem stab_join (h : OrdOn S c) {L1 L2 R1 R2 : List (α × Nat)} (hs : ∀ p ∈ L1 ++ L2 ++ (R1 ++ R2), S p.1) (hL : Stab c (L1 ++ L2)) (hR : Stab c (R1 ++ R2))
    (c1 : ∀ p ∈ R1.getLast?, ∀ q ∈ L2.head?, Lt c p q) (c2 : ∀ p ∈ L1.getLast?, ∀ q ∈ R2.head?, Lt c p q) : ∀ p ∈ L1 ++ R1, ∀ q ∈ L2 ++ R2, Lt c p q := by
  have pL := List.pairwise_append.1 hL
  have pR := List.pairwise_append.1 hR
  have S1 : ∀ p ∈ L1, S p.1 := fun p hp => hs p (by simp [hp])
  have S2 : ∀ p ∈ L2, S p.1 := fun p hp => hs p (by simp [hp])
  have S3 : ∀ p ∈ R1, S p.1 := fun p hp => hs p (by simp [hp])
  have S4 : ∀ p ∈ R2, S p.1 := fun p hp => hs p (by simp [hp])
  have last : ∀ {A : List (α × Nat)}, Stab c A → (∀ p ∈ A, S p.1) → ∀ p ∈ A, ∃ z, z ∈ A.getLast? ∧ (p = z ∨ Lt c p z) := by
    intro A hA _ p hp
    obtain ⟨B, z, rfl⟩ : ∃ B z, A = B ++ [z] := ⟨A.dropLast, A.getLast (by intro e; rw [e] at hp; cases hp), (List.dropLast_concat_getLast _).symm⟩
    refine ⟨z, by simp, ?_⟩
    rcases List.mem_append.1 hp with e | e
    · exact Or.inr ((List.pairwise_append.1 hA).2.2 p e z (by simp))
    · simp at e; exact Or.inl e
  have first : ∀ {A : List (α × Nat)}, Stab c A → ∀ p ∈ A, ∃ z, z ∈ A.head? ∧ (p = z ∨ Lt c z p) := by
    intro A hA p hp
    cases A with
    | nil => cases hp
    | cons z B =>
      refine ⟨z, by simp, ?_⟩
      rcases List.mem_cons.1 hp with e | e
      · exact Or.inl e
      · exact Or.inr ((List.pairwise_cons.1 hA).1 p e)
  intro p hp q hq
  rcases List.mem_append.1 hp with hp | hp <;> rcases List.mem_append.1 hq with hq | hq
  · exact pL.2.2 p hp q hq
  · obtain ⟨z, hz, ez⟩ := last pL.1 S1 p hp
    obtain ⟨y, hy, ey⟩ := first pR.2.1 q hq
    have zy := c2 z hz y hy
    have sz := S1 z (List.mem_of_getLast? hz)
    have sy := S4 y (List.mem_of_head? hy)
    have t1 : Lt c p y := by
      rcases ez with e | e
      · rw [e]; exact zy
      · exact Lt.trans h (S1 p hp) sz sy e zy
    rcases ey with e | e
    · rw [e]; exact t1
    · exact Lt.trans h (S1 p hp) sy (S4 q hq) t1 e
  · obtain ⟨z, hz, ez⟩ := last pR.1 S3 p hp
    obtain ⟨y, hy, ey⟩ := first pL.2.1 q hq
    have zy := c1 z hz y hy
    have sz := S3 z (List.mem_of_getLast? hz)
    have sy := S2 y (List.mem_of_head? hy)
    have t1 : Lt c p y := by
      rcases ez with e | e
      · rw [e]; exact zy
      · exact Lt.trans h (S3 p hp) sz sy e zy
    rcases ey with e | e
    · rw [e]; exact t1
    · exact Lt.trans h (S3 p hp) sy (S2 q hq) t1 e
  · exact pR.2.2 p hp q hq
theorem sortS_perm (l : List α) : (sortS c l).Perm l := by
  have := (sortI_perm (c := c) (withI l)).map (·.1)
  rwa [withI_map] at this
theorem stab_le {l : List (α × Nat)} (h : Stab c l) : (l.map (·.1)).Pairwise fun a b => c a b ≤ 0 := by
  rw [List.pairwise_map]
  exact h.imp fun hh => by unfold Lt at hh; omega
theorem sortS_le (h : OrdOn S c) {l : List α} (hl : ∀ x ∈ l, S x) : (sortS c l).Pairwise fun a b => c a b ≤ 0 := by
  have hw : ∀ p ∈ withI l, S p.1 := fun p hp => hl p.1 (by
    have : p.1 ∈ (withI l).map (·.1) := List.mem_map_of_mem hp
    rwa [withI_map] at this)
  exact stab_le (sortI_stab h hw (withI_nodup l))
theorem stab_with : ∀ {l : List α} (n : Nat), (l.Pairwise fun a b => c a b ≤ 0) → Stab c (l.zipIdx n)
  | [], _, _ => List.Pairwise.nil
  | x :: l, n, h => by
    have h1 := List.pairwise_cons.1 h
    rw [List.zipIdx_cons]
    refine List.pairwise_cons.2 ⟨fun p hp => ?_, stab_with (n + 1) h1.2⟩
    have hm := List.mem_zipIdx hp
    have hx : p.1 ∈ l := by
      have : p.1 ∈ (l.zipIdx (n + 1)).map (·.1) := List.mem_map_of_mem hp
      rwa [List.zipIdx_map_fst] at this
    have hc := h1.1 p.1 hx
    unfold Lt
    show c x p.1 < 0 ∨ (c x p.1 = 0 ∧ n < p.2)
    omega
/-- What is sorted stays. -/
theorem sortS_again (h : OrdOn S c) {l : List α} (hl : ∀ x ∈ l, S x) : sortS c (sortS c l) = sortS c l := by
  have hm : ∀ x ∈ sortS c l, S x := fun x hx => hl x ((sortS_perm l).mem_iff.1 hx)
  have := sortS_of h hm (m := withI (sortS c l)) (stab_with 0 (sortS_le h hl)) (List.Perm.refl _)
  rw [withI_map] at this
  exact this.symm
end

end Go.Proofs.YtgbgkodjjgjhgaaGreatDoor

namespace Go.Proofs.YtgbgkodjjgjhgaaGreatDoor

section
variable {α : Type} {S : α → Prop} {c : α → α → Int}
def insG (c : α → α → Int) (x : α) : List α → List α
  | [] => [x]
  | y :: l => if c x y < 0 then x :: y :: l else y :: insG c x l
theorem insG_len (x : α) : ∀ l : List α, (insG c x l).length = l.length + 1
  | [] => rfl
  | y :: l => by
    simp only [insG]
    split
    · rfl
    · rw [List.length_cons, insG_len x l, List.length_cons]
theorem insG_at (x : α) : ∀ (l : List α) (k : Nat), k ≤ l.length → (∀ (j : Nat) y, j < k → l[j]? = some y → ¬ c x y < 0) → (∀ y, l[k]? = some y → c x y < 0) → insG c x l = l.take k ++ x :: l.drop k
  | [], k, hk, _, _ => by
    obtain rfl : k = 0 := by simpa using hk
    rfl
  | y :: l, 0, _, _, h => by
    simp only [insG]
    rw [if_pos (h y rfl)]
    rfl
  | y :: l, k + 1, hk, h1, h2 => by
    simp only [insG]
    rw [if_neg (h1 0 y (by omega) rfl), insG_at x l k (by simpa using hk) (fun j z hj hz => h1 (j + 1) z (by omega) (by simpa using hz)) (fun z hz => h2 z (by simpa using hz))]
    rfl
/-- Where the walk from the end stops, there the item comes in. -/
theorem ins_done (h : OrdOn S c) {l : List α} {x : α} (hx : S x) (hl : ∀ y ∈ l, S y) (hp : l.Pairwise fun a b => c a b ≤ 0) {k : Nat} (hk : k ≤ l.length)
    (h1 : ∀ (j : Nat) y, k ≤ j → l[j]? = some y → c x y < 0) (h2 : k = 0 ∨ ∃ y, l[k - 1]? = some y ∧ ¬ c x y < 0) : insG c x l = l.take k ++ x :: l.drop k := by
  refine insG_at x l k hk (fun j y hj hy => ?_) (fun y hy => h1 k y (Nat.le_refl _) hy)
  rcases h2 with rfl | ⟨z, hz, hn⟩
  · omega
  · by_cases e : j = k - 1
    · rw [e, hz] at hy
      injection hy with hy
      rw [← hy]
      exact hn
    · obtain ⟨j1, e1⟩ := List.getElem?_eq_some_iff.1 hy
      obtain ⟨j2, e2⟩ := List.getElem?_eq_some_iff.1 hz
      have hy' : S y := hl y (by rw [← e1]; exact List.getElem_mem j1)
      have hz' : S z := hl z (by rw [← e2]; exact List.getElem_mem j2)
      have a := List.pairwise_iff_getElem.1 hp j (k - 1) j1 j2 (by omega)
      rw [e1, e2] at a
      have b := h.anti x z hx hz'
      have d := h.trans y z x hy' hz' hx a (by omega)
      have f := h.anti x y hx hy'
      omega
theorem insS_map (x : α) (n : Nat) : ∀ l : List (α × Nat), (∀ p ∈ l, p.2 < n) → (insS c (x, n) l).map (·.1) = insG c x (l.map (·.1))
  | [], _ => rfl
  | p :: l, h => by
    have hp := h p (by simp)
    have ih := insS_map x n l (fun q hq => h q (by simp [hq]))
    have e : Lt c (x, n) p ↔ c x p.1 < 0 := by
      unfold Lt
      show c x p.1 < 0 ∨ (c x p.1 = 0 ∧ n < p.2) ↔ _
      omega
    simp only [insS, List.map_cons, insG]
    by_cases hc : c x p.1 < 0
    · rw [if_pos (e.2 hc), if_pos hc]; rfl
    · rw [if_neg (fun hh => hc (e.1 hh)), if_neg hc, List.map_cons, ih]
theorem sortS_step (l : List α) (x : α) : sortS c (l ++ [x]) = insG c x (sortS c l) := by
  unfold sortS sortI withI
  rw [List.zipIdx_append, List.foldl_append]
  simp only [List.zipIdx_cons, List.zipIdx_nil, List.foldl_cons, List.foldl_nil, Nat.zero_add]
  refine insS_map x l.length _ fun p hp => ?_
  have := (sortI_perm (c := c) (withI l)).mem_iff.1 hp
  have := List.mem_zipIdx this
  omega
end

theorem insK_map (x : Fld) : ∀ l : List Fld, (insK x l).map (·.1) = insG keyC x.1 (l.map (·.1))
  | [] => rfl
  | y :: l => by
    simp only [insK, List.map_cons, insG]
    by_cases h : keyC x.1 y.1 < 0
    · rw [if_pos h, if_pos h]; rfl
    · rw [if_neg h, if_neg h, List.map_cons, insK_map x l]
theorem keysK_step (l : List Fld) (x : Fld) : keysK (l ++ [x]) = insG keyC x.1 (keysK l) := by
  unfold keysK sortK
  rw [List.foldl_append]
  exact insK_map x _
theorem keysK_len (l : List Fld) : (keysK l).length = l.length := by
  unfold keysK
  rw [List.length_map, (sortK_perm l).length_eq]
theorem ord_key : OrdOn (fun _ : List UInt8 => True) keyC := (ord_cmpL.by nats).mono (fun _ _ => trivial)
theorem keysK_le {l : List Fld} (h : (l.map (·.1)).Nodup) : (keysK l).Pairwise fun a b => keyC a b ≤ 0 := by
  unfold keysK
  rw [List.pairwise_map]
  exact (sortK_rising h).imp fun hh => by omega
theorem mem_keysK {l : List Fld} {k : List UInt8} (h : k ∈ keysK l) : ∃ p ∈ l, p.1 = k := by
  obtain ⟨p, hp, e⟩ := List.mem_map.1 h
  exact ⟨p, (mem_sortK l p).1 hp, e⟩

end Go.Proofs.YtgbgkodjjgjhgaaGreatDoor

namespace Go.Proofs.YtgbgkodjjgjhgaaGreatDoor
open Go.RowKit

theorem ref11_ints (x y : Int) (w : World) : Calls Tryz.prog 50 #[.int .i64 x, .int .i64 y] w fun e w' => e = .returned (.int .i64 (cmpI x y)) ∧ w' = w := by
  by_cases h1 : x < y
  · have e : cmpI x y = -1 := by unfold cmpI; rw [if_pos h1]
    rw [e]
    go_enter Tryz.func50, Tryz.ntmps50
    go_wp2
    go_ret
    exact ⟨rfl, rfl⟩
  · by_cases h2 : y < x
    · have e : cmpI x y = 1 := by unfold cmpI; rw [if_neg h1, if_pos h2]
      rw [e]
      go_enter Tryz.func50, Tryz.ntmps50
      go_wp2
      go_ret
      exact ⟨rfl, rfl⟩
    · have e : cmpI x y = 0 := by unfold cmpI; rw [if_neg h1, if_neg h2]
      rw [e]
      go_enter Tryz.func50, Tryz.ntmps50
      go_wp2
      go_ret
      exact ⟨rfl, rfl⟩

end Go.Proofs.YtgbgkodjjgjhgaaGreatDoor

namespace Go.Proofs.YtgbgkodjjgjhgaaGreatDoor
open Go.RowKit

theorem wpList_extendE {P : Program} {w : World} {ops : Array Oper} {rest : List Oper} {o : Oper} {a : Act} {Q : Exit → Act → World → Prop} (hgd : o.guard = none) (s x : Operand) (t : TypeId)
    (ho : o.op = .call { callee := .builtin .append, args := #[s, x], argTypes := #[t, t] })
    (base : Nat) (e : TypeId) (i : TypeInfo) (z : Value) (size bytes : Nat) (ht : P.underlying t = some (.slice e)) (hi : P.info? e = some i) (hz : i.zero = some z)
    (hsize : i.size = size) (hby : i.bytes = bytes) (hzs : z.cells.size = size) (hsz : 0 < size)
    (v : Value) (n : Nat) (xs : List Value) (hs : a.eval s = v) (hown : w.ownsRow base e size v n xs)
    (ao : Option Addr) (m c : Nat) (ys : List Value) (hx : a.eval x = .slice ao m c) (hl : ys.length = m * size) (hnone : ao = none → c = 0) (hnews : ∀ (j : Nat) u, ys[j]? = some u → ∃ ad, ao = some ad ∧ w.cell? (ad.add j) = some u) (h1 : ∀ u ∈ ys, u.oneCell' = true)
    (h63 : n + m ≤ maxLen) (hbytes : (n + m) * bytes ≤ 140737488355328) (hbase : base ≤ w.heap.size)
    (h : ∀ v' w', w'.ownsRow base e size v' (n + m) (xs ++ ys) → Below base w w' → wpList P ops Q rest (a.put o.dst v') w') : wpList P ops Q (o :: rest) a w := by
  cases ao with
  | some ad =>
    refine wpList_append_own w hgd s x t ho base e i z size bytes ht hi hz hsize hby hzs hsz v n xs hs hown ad m c ys hx hl (fun j u hj => ?_) h1 h63 hbytes hbase (fun v' w' hown' hgr _ => h v' w' hown' ((Below.refl base w).grown hgr hbase (fun k hk => (hown.lt k hk).1)))
    obtain ⟨ad', e1, hc⟩ := hnews j u hj
    injection e1 with e1
    subst e1
    exact hc
  | none =>
    obtain rfl := hnone rfl
    have hys : ys = [] := by
      cases ys with
      | nil => rfl
      | cons y ys => obtain ⟨ad, e1, _⟩ := hnews 0 y rfl; cases e1
    subst hys
    obtain rfl : m = 0 := by
      have : m * size = 0 := by simpa using hl.symm
      rcases Nat.mul_eq_zero.1 this with h | h
      · exact h
      · omega
    refine wpList_append_own_none hgd s x t ho base e i size ht hi v n xs hs hown hx (h v w (by simpa using hown) (Below.refl _ _))

/-- Texts in cells. -/
def strs (ks : List (List UInt8)) : List Value := ks.map strV
@[simp] theorem strs_len (ks : List (List UInt8)) : (strs ks).length = ks.length := by simp [strs]
theorem strs_app (a b : List (List UInt8)) : strs (a ++ b) = strs a ++ strs b := by simp [strs]
theorem strs_one (ks : List (List UInt8)) : ∀ u ∈ strs ks, u.oneCell' = true := by
  intro u hu
  obtain ⟨k, _, rfl⟩ := List.mem_map.1 hu
  rfl
theorem infoStr : ∃ i0, Tryz.prog.info? 9 = some i0 ∧ i0.size = 1 ∧ i0.bytes = 16 ∧ ∃ z, i0.zero = some z ∧ z.cells.size = 1 := by
  have h : (Tryz.prog.info? 9).map (fun i => (i.size, i.bytes, i.zero.map (·.cells.size))) = some (1, 16, some 1) := by kernel_rfl
  obtain ⟨i, h1, h2⟩ := Option.map_eq_some_iff.1 h
  simp only [Prod.mk.injEq] at h2
  obtain ⟨z, h3, h4⟩ := Option.map_eq_some_iff.1 h2.2.2
  exact ⟨i, h1, h2.1, h2.2.1, z, h3, h4⟩
/-- A row cut at its head. -/
theorem row_from {w : World} {g k s : Nat} {xs : List Value} (h : Row w (some ⟨g, 0, none⟩) xs) (hs : s = k) :
    ∀ (i : Nat) u, (xs.drop k)[i]? = some u → ∃ ad, some (⟨g, s, none⟩ : Addr) = some ad ∧ w.cell? (ad.add i) = some u := by
  intro i u hu
  subst hs
  refine ⟨_, rfl, ?_⟩
  rw [List.getElem?_drop] at hu
  obtain ⟨b, off, e, hcell⟩ := h (s + i) u hu
  injection e with e
  injection e with e1 e2
  rw [Addr.add_lit, e1]
  rw [← e2] at hcell
  simpa using hcell
theorem row_upto {w : World} {g k : Nat} {xs : List Value} (h : Row w (some ⟨g, 0, none⟩) xs) :
    ∀ (i : Nat) u, (xs.take k)[i]? = some u → ∃ ad, some (⟨g, 0, none⟩ : Addr) = some ad ∧ w.cell? (ad.add i) = some u := by
  intro i u hu
  obtain ⟨b, off, e, hcell⟩ := h.take k i u hu
  injection e with e
  injection e with e1 e2
  refine ⟨_, rfl, ?_⟩
  rw [Addr.add_lit, e1]
  rw [← e2] at hcell
  exact hcell

end Go.Proofs.YtgbgkodjjgjhgaaGreatDoor

namespace Go.Proofs.YtgbgkodjjgjhgaaGreatDoor
open Go.RowKit

theorem keepC3 {w W' w1 : World} {n0 o0 n1 o1 n2 o2 : Nat} {x0 x1 x2 : Value} (h : W'.cell? ⟨n0, o0, none⟩ = some x0 ∧ W'.cell? ⟨n1, o1, none⟩ = some x1 ∧ W'.cell? ⟨n2, o2, none⟩ = some x2 ∧ Below w.heap.size w W') (hb : Below W'.heap.size W' w1) : w1.cell? ⟨n0, o0, none⟩ = some x0 ∧ w1.cell? ⟨n1, o1, none⟩ = some x1 ∧ w1.cell? ⟨n2, o2, none⟩ = some x2 ∧ Below w.heap.size w w1 :=
  ⟨cell_stay h.1 hb, cell_stay h.2.1 hb, cell_stay h.2.2.1 hb, below_trans h.2.2.2 hb⟩
def OutK (w : World) (ks : List (List UInt8)) (en : Ending) (w' : World) : Prop := ∃ a cap, en = .returned (.slice a ks.length cap) ∧ w'.ownsRow w.heap.size 9 1 (.slice a ks.length cap) ks.length (strs ks) ∧ Below w.heap.size w w'

set_option maxRecDepth 100000 in
set_option maxHeartbeats 8000000 in
theorem keys_walk (k0 : Int) (g : Bool) (a : Option Addr) (l c : Nat) (e : Int) (s : List UInt8) (aa : Option Addr) (an ac : Nat) (oa : Option Addr) (oc : Nat) (w0 w : World) (hw : Below w0.heap.size w0 w) (obj : List Fld) (hO : RdO w0 oa obj) (hol : obj.length ≤ 1048576)
    (hso : ∀ p ∈ obj, soundB p.1 = true ∧ p.1.length ≤ 1048576) (hnd : (obj.map (·.1)).Nodup) :
    Calls Tryz.prog 74 #[valV k0 g a l c e s aa an ac oa obj.length oc] w (OutK w (keysK obj)) := by
  unfold valV strV
  generalize (⟨s.toArray⟩ : ByteArray) = sb at *
  generalize hon : obj.length = on at *
  replace hon := hid hon
  replace hso := hid hso
  replace hnd := hid hnd
  have hKe : (keysK obj).length = on := by rw [keysK_len]; exact hon.out
  unfold OutK
  rw [hKe]
  clear hKe
  obtain ⟨W, hW⟩ : ∃ W, W = w.alloc (.cells #[.int .i64 k0, .bool g, .slice a l c, .int .i64 e, .string sb, .slice aa an ac, .slice oa on oc] 28) := ⟨_, rfl⟩
  have hB := hid (show Below w.heap.size w W by rw [hW]; exact (Below.refl _ _).alloc (Nat.le_refl _) _)
  have hX := hid (show W.heap[w.heap.size]? = some (.cells #[.int .i64 k0, .bool g, .slice a l c, .int .i64 e, .string sb, .slice aa an ac, .slice oa on oc] 28) by rw [hW]; exact blk_new w _)
  have hOW := hid ((hO.below hw).below hB.out)
  have hBs : Hid (w.heap.size ≤ W.heap.size) := hB.out.size
  replace hW := hid hW.symm
  clear hO hw
  obtain ⟨i0, i1, i2, i3, zv, i4, i5⟩ := infoStr
  replace i1 := hid i1
  replace i2 := hid i2
  replace i3 := hid i3
  replace i4 := hid i4
  replace i5 := hid i5
  go_enter Tryz.func74, Tryz.ntmps74
  go_upto_region 3 with fail
  rw [hW.out]
  clear hW
  go_loopw [3, 4] (fun v3 v4 wr => ∃ (j : Nat) (a3 : Option Addr) (c3 : Nat), j ≤ on ∧ v3 = .slice a3 j c3 ∧ v4 = .int .i64 j ∧ Hid (wr.ownsRow W.heap.size 9 1 (.slice a3 j c3) j (strs (keysK (obj.take j)))) ∧ Hid (Below W.heap.size W wr)) (fun _ v4 _ => on - (intOf v4).toNat)
  case atStart => exact ⟨0, none, 0, Nat.zero_le _, rfl, rfl, hid (World.ownsRow_nil _ _ _ _), hid (Below.refl _ _)⟩
  case round =>
    obtain ⟨j, a3, c3, hj, rfl, rfl, hown, hb⟩ := hrel
    obtain ⟨⟨p0, p1, p2, p3, p4, p5, p6⟩, _⟩ := blk_seven (blk_below hX.out hb.out)
    clear p0 p1 p2 p3 p4 p5
    by_cases hlt : j < on
    · have hlt2 : (j : Int) < (on : Int) := by omega
      have hj1 : j < obj.length := by rw [hon.out]; exact hlt
      obtain ⟨b0, off0, a0, c0, aa0, ac0, oa0, oc0, rfl, hkl0, P0, C0⟩ := hOW.out.at hj1
      have hsk := hso.out _ (List.getElem_mem hj1)
      unfold Cells8f strV at C0
      obtain ⟨y, hyy⟩ : ∃ y, y = obj[j] := ⟨_, rfl⟩
      have htk : Hid (obj.take (j + 1) = obj.take j ++ [y]) := by show _ = _; rw [List.take_succ_eq_append_getElem hj1, hyy]
      rw [← hyy] at C0 hsk
      clear hyy P0 hkl0
      obtain ⟨kx, y⟩ := y
      simp only at C0 hsk
      have s0 := cell_stay C0.1 hb.out
      clear C0
      obtain ⟨K, hK⟩ : ∃ K, K = keysK (obj.take j) := ⟨_, rfl⟩
      have hKl : K.length = j := by rw [hK, keysK_len, List.length_take]; omega
      have hKn := hid (show keysK (obj.take (j + 1)) = insG keyC kx K by rw [htk.out, keysK_step, hK])
      have hnd2 : ((obj.take j).map (·.1)).Nodup := by
        have := hnd.out.sublist ((List.take_sublist j obj).map (·.1))
        exact this
      have hKp := hid (show K.Pairwise fun a b => keyC a b ≤ 0 by rw [hK]; exact keysK_le hnd2)
      have hKs : Hid (∀ y ∈ K, soundB y = true ∧ y.length ≤ 1048576) := by
        intro y hy
        rw [hK] at hy
        obtain ⟨p, hp, e⟩ := mem_keysK hy
        rw [← e]
        exact hso.out p (List.mem_of_mem_take hp)
      rw [← hK] at hown
      clear hnd2 hK htk
      obtain ⟨kb, hkb⟩ : ∃ kb : ByteArray, kb = ⟨kx.toArray⟩ := ⟨_, rfl⟩
      rw [← hkb] at s0
      replace hkb := hid hkb
      replace hsk := hid hsk
      replace hKl := hid hKl
      have hsz : Hid (W.heap.size ≤ wr.heap.size) := hb.out.size
      have hc3 := owns_cap hown.out
      have hrow : Hid (Row wr a3 (strs K)) := by
        obtain ⟨a', cap', e1, hr, _⟩ := owns_row hown.out
        injection e1 with e1 e2 e3; subst e1; exact hr
      go_upto_block 2 with fail
      go_cut [5] from 7 to 53 (fun v5 w' => ∃ k : Nat, k ≤ j ∧ v5 = .int .i64 k ∧ Hid (insG keyC kx K = K.take k ++ kx :: K.drop k) ∧ Hid (Below wr.heap.size wr w'))
      case first =>
        go_wp2_with fail
        go_loopw [5] (fun v5 w' => ∃ k : Nat, k ≤ j ∧ v5 = .int .i64 k ∧ Hid (∀ (i : Nat) y, k ≤ i → K[i]? = some y → keyC kx y < 0) ∧ Hid (Below wr.heap.size wr w')) (fun v5 _ => (intOf v5).toNat)
        case atStart => exact ⟨j, Nat.le_refl _, rfl, hid (fun i y hi hy => absurd (List.getElem?_eq_some_iff.1 hy).1 (by have := hKl.out; omega)), hid (Below.refl _ _)⟩
        case round =>
          obtain ⟨k, hk, rfl, hI, hb2⟩ := hrel
          have p6' := cell_stay p6 hb2.out
          have s0' := cell_stay s0 hb2.out
          by_cases hk0 : k = 0
          · subst hk0
            have h00 : ¬ (0 : Int) < ((0 : Nat) : Int) := by omega
            have hfin := hid (ins_done ord_key (l := K) (x := kx) (k := 0) trivial (fun _ _ => trivial) hKp.out (Nat.zero_le _) hI.out (Or.inl rfl))
            clear p6 s0
            go_wp2_with fail
            go_quiet (fail)
            all_goals
              go_wp2_with fail
              go_meet
              case rel => exact ⟨0, Nat.zero_le _, rfl, hfin, hid (by first | exact hb2.out | exact below_drewN hb2.out _)⟩
          · have hk1 : k - 1 < K.length := by have := hKl.out; omega
            have hpos : (0 : Int) < (k : Int) := by omega
            have hposN : 0 < k := by omega
            obtain ⟨y, hy⟩ : ∃ y, y = K[k - 1] := ⟨_, rfl⟩
            have hy2 := hid (show K[k - 1]? = some y by rw [hy]; exact List.getElem?_eq_getElem hk1)
            have hys := hKs.out y (by rw [hy]; exact List.getElem_mem hk1)
            obtain ⟨gb, goff, rfl, hcy⟩ := hrow.out (k - 1) (strV y) (by unfold strs; rw [List.getElem?_map, hy2.out]; rfl)
            unfold strV at hcy
            have hcy' := cell_stay hcy hb2.out
            have hCm := fun W' => ref4_Cmp kx y W' (by have := hsk.out.2; omega) (by omega) hsk.out.1 hys.1
            rw [← hkb.out] at hCm
            generalize (⟨y.toArray⟩ : ByteArray) = yb at *
            obtain ⟨R, hR⟩ : ∃ R, R = keyC kx y := ⟨_, rfl⟩
            rw [← hR] at hCm
            replace hR := hid hR
            replace hCm := hid hCm
            have hw1 : IntKind.i64.wrap ((k : Int) - 1) = ((k - 1 : Nat) : Int) := by rw [IntWalk.i64_in _ (by omega)]; omega
            have hk2 : ((k - 1 : Nat) : Int) < (j : Int) := by omega
            have hk3 : k - 1 < j := by omega
            clear p6 s0 hcy hy hk1 hys hrow
            by_cases hneg : R < 0
            · have hI2 : Hid (∀ (i : Nat) y, k - 1 ≤ i → K[i]? = some y → keyC kx y < 0) := by
                intro i z hi hz
                by_cases e : i = k - 1
                · rw [e, hy2.out] at hz
                  injection hz with hz
                  rw [← hz, ← hR.out]
                  exact hneg
                · exact hI.out i z (by omega) hz
              go_wp2_with fail
              first | go_region_held3 (fun W' => W'.cell? ⟨w.heap.size, 6, none⟩ = some (.slice (some ⟨b0, off0, none⟩) on oc) ∧ W'.cell? ⟨b0, off0 + j * 8, none⟩ = some (.string kb) ∧ W'.cell? ⟨gb, goff + (k - 1), none⟩ = some (.string yb) ∧ Below wr.heap.size wr W') (first | (exact ⟨p6', s0', hcy', (Below.refl _ _).drew⟩) | (exact keepC3 (by assumption) (by assumption)) | assumption) ((go_at_call 52; (with_reducible refine (hCm.out _).mono ?_); rintro e3 w3 ⟨rfl, hb3⟩)) | fail
              all_goals
                rename_i hHeld
                have hH := hid (below_trans hb2.out hHeld.2.2.2)
                clear hHeld
                go_wp2_with fail
                go_roundw
                case rel => exact ⟨k - 1, by omega, by go_num, hI2, hH⟩
                case measure => simp [intOf]; omega
            · have hfin := hid (ins_done ord_key (l := K) (x := kx) (k := k) trivial (fun _ _ => trivial) hKp.out (by have := hKl.out; omega) hI.out (Or.inr ⟨y, hy2.out, by rw [← hR.out]; exact hneg⟩))
              go_wp2_with fail
              first | go_region_held3 (fun W' => W'.cell? ⟨w.heap.size, 6, none⟩ = some (.slice (some ⟨b0, off0, none⟩) on oc) ∧ W'.cell? ⟨b0, off0 + j * 8, none⟩ = some (.string kb) ∧ W'.cell? ⟨gb, goff + (k - 1), none⟩ = some (.string yb) ∧ Below wr.heap.size wr W') (first | (exact ⟨p6', s0', hcy', (Below.refl _ _).drew⟩) | (exact keepC3 (by assumption) (by assumption)) | assumption) ((go_at_call 52; (with_reducible refine (hCm.out _).mono ?_); rintro e3 w3 ⟨rfl, hb3⟩)) | fail
              all_goals
                rename_i hHeld
                have hH := hid (below_trans hb2.out hHeld.2.2.2)
                clear hHeld
                go_wp2_with fail
                go_meet
                case rel => exact ⟨k, hk, rfl, hfin, hH⟩
      case rest =>
      obtain ⟨k, hk, rfl, hI, hbc⟩ := hcut
      have HI := hid (show keysK (obj.take (j + 1)) = K.take k ++ kx :: K.drop k by rw [hKn.out, hI.out])
      clear hI hKn hKp hKs
      replace p6 := cell_stay p6 hbc.out
      replace s0 := cell_stay s0 hbc.out
      replace hown := hid (owns_below hown.out hbc.out)
      replace hrow : Hid (Row wc a3 (strs K)) := hrow.out.below hbc.out
      replace hb := hid (hb.out.trans (hbc.out.mono hsz.out))
      replace hsz : Hid (W.heap.size ≤ wc.heap.size) := hb.out.size
      clear hbc
      generalize wc = wA at *
      have hshape : (a3 = none ∧ j = 0 ∧ c3 = 0) ∨ ∃ q, a3 = some ⟨q, 0, none⟩ := by
        rcases hown.out.2 with ⟨h, h0⟩ | ⟨q, cap, cur, h, _⟩
        · injection h with h1 h2 h3
          exact Or.inl ⟨h1, h0, h3⟩
        · injection h with h1 h2 h3
          exact Or.inr ⟨q, h1⟩
      go_upto_region 8 with fail
      go_cut [6] from 7 to 53 (fun v6 w' => ∃ (a6 : Option Addr) (c6 : Nat), v6 = .slice a6 k c6 ∧ Hid (w'.ownsRow wA.heap.size 9 1 (.slice a6 k c6) k (strs (K.take k))) ∧ Hid (Below wA.heap.size wA w'))
      case first =>
        have h0 := hid (World.ownsRow_made (base := wA.heap.size) (e := 9) (size := 1) wA #[] 0 (Nat.le_refl _) (by unfold maxLen; omega) rfl)
        have hw8 := hid ((Below.refl wA.heap.size wA).alloc (Nat.le_refl _) (.cells #[] 9))
        have hsz8 : Hid (wA.heap.size ≤ (wA.alloc (.cells #[] 9)).heap.size) := hw8.out.size
        have hkl : (strs (K.take k)).length = k * 1 := by have := hKl.out; simp; omega
        rcases hshape with ⟨rfl, rfl, rfl⟩ | ⟨q, rfl⟩
        · obtain rfl : k = 0 := by omega
          have h1 := hid (show (wA.alloc (.cells #[] 9)).ownsRow wA.heap.size 9 1 (.slice (some ⟨wA.heap.size, 0, none⟩) 0 0) 0 (strs (K.take 0)) by simpa [strs] using h0.out)
          go_wp2_with fail
          go_meet
          case rel => exact ⟨_, _, rfl, h1, hw8⟩
        · have hfin : Hid (∀ (v7 : Value) (w7 : World), w7.ownsRow wA.heap.size 9 1 v7 (0 + k) ([] ++ strs (K.take k)) → ∃ a6 c6, v7 = .slice a6 k c6 ∧ w7.ownsRow wA.heap.size 9 1 (.slice a6 k c6) k (strs (K.take k))) := by
            intro v7 w7 ho
            obtain ⟨a6, c6, rfl, _, _⟩ := owns_row ho
            rw [Nat.zero_add] at *
            exact ⟨a6, c6, rfl, by simpa using ho⟩
          have hrt := hid (row_upto (k := k) (hrow.out.below hw8.out))
          go_wp2_with (at_builtin; refine wpList_extendE rfl _ _ _ rfl wA.heap.size _ i0 zv 1 16 Tryz.underlying99 i1.out i4.out i2.out i3.out i5.out (by decide) _ 0 [] rfl h0.out (some ⟨q, 0, none⟩) k _ (strs (K.take k)) rfl hkl (fun h => by cases h) (fun i u h => hrt.out i u (by simpa [strs] using h)) (strs_one _) (by unfold maxLen; omega) (by omega) hsz8.out ?_; intro v7 w7 hown7 hb7)
          obtain ⟨a6, c6, rfl, ho⟩ := hfin.out _ _ hown7
          have ho2 := hid ho
          have hb8 := hid (hw8.out.trans hb7)
          go_meet
          case rel => exact ⟨a6, c6, rfl, ho2, hb8⟩
      case rest =>
      obtain ⟨a6, c6, rfl, ho6, hb8⟩ := hcut
      replace p6 := cell_stay p6 hb8.out
      replace s0 := cell_stay s0 hb8.out
      go_upto_region 9 with fail
      go_cut [6] from 7 to 53 (fun v6 w' => ∃ (g6 c6 : Nat), v6 = .slice (some ⟨g6, 0, none⟩) (k + 1) c6 ∧ Hid (w'.ownsRow wA.heap.size 9 1 (.slice (some ⟨g6, 0, none⟩) (k + 1) c6) (k + 1) (strs (K.take k ++ [kx]))) ∧ Hid (Below wA.heap.size wA w'))
      case first =>
        have hw8 := hid ((Below.refl wc.heap.size wc).alloc (Nat.le_refl _) (.cells #[.string kb] 9))
        have ho8 := hid (owns_below ho6.out hw8.out)
        have hsz8 : Hid (wA.heap.size ≤ (wc.alloc (.cells #[.string kb] 9)).heap.size) := Nat.le_trans hb8.out.size hw8.out.size
        have hnew : Hid (∀ (i : Nat) (u : Value), ([.string kb] : List Value)[i]? = some u → ∃ ad, some (⟨wc.heap.size, 0, none⟩ : Addr) = some ad ∧ (wc.alloc (.cells #[.string kb] 9)).cell? (ad.add i) = some u) := by
          intro i u hu
          refine ⟨_, rfl, ?_⟩
          rw [Addr.add_lit]
          have h := blk_new wc (.cells #[.string kb] 9)
          simp only [World.cell?, h, Nat.zero_add]
          simpa using hu
        have hfin : Hid (∀ (v7 : Value) (w7 : World), w7.ownsRow wA.heap.size 9 1 v7 (k + 1) (strs (K.take k) ++ [.string kb]) → ∃ g6 c6, v7 = .slice (some ⟨g6, 0, none⟩) (k + 1) c6 ∧ w7.ownsRow wA.heap.size 9 1 (.slice (some ⟨g6, 0, none⟩) (k + 1) c6) (k + 1) (strs (K.take k ++ [kx]))) := by
          intro v7 w7 ho
          obtain ⟨a6, c6, rfl⟩ := owns_succ ho
          refine ⟨a6, c6, rfl, ?_⟩
          rw [strs_app, show strs [kx] = [.string kb] by rw [hkb.out]; rfl]
          exact ho
        go_wp2_with (at_builtin; refine wpList_extendE rfl _ _ _ rfl wA.heap.size _ i0 zv 1 16 Tryz.underlying99 i1.out i4.out i2.out i3.out i5.out (by decide) _ k (strs (K.take k)) rfl ho8.out (some ⟨wc.heap.size, 0, none⟩) 1 1 [.string kb] rfl rfl (fun h => by cases h) hnew.out (fun u hu => by rw [List.mem_singleton.1 hu]; rfl) (by unfold maxLen; omega) (by omega) hsz8.out ?_; intro v7 w7 hown7 hb7)
        obtain ⟨a7, c7, rfl, ho⟩ := hfin.out _ _ hown7
        have ho2 := hid ho
        have hb9 := hid ((below_trans hb8.out hw8.out).trans hb7)
        go_meet
        case rel => exact ⟨a7, c7, rfl, ho2, hb9⟩
      case rest =>
      obtain ⟨g7, c7, rfl, ho7, hb10⟩ := hcut
      clear ho6 s0 p6 hb8
      have hown' := hid (owns_below hown.out hb10.out)
      have hrow' : Hid (Row wc a3 (strs K)) := hrow.out.below hb10.out
      have hb9 : Hid (Below W.heap.size W wc) := hb.out.trans (hb10.out.mono hsz.out)
      have hsz9 : Hid (wA.heap.size ≤ wc.heap.size) := hb10.out.size
      go_upto_region 10 with fail
      have hfin : Hid (∀ (v7 : Value) (w7 : World), w7.ownsRow wA.heap.size 9 1 v7 (k + 1 + (j - k)) (strs (K.take k ++ [kx]) ++ strs (K.drop k)) → ∃ a6 c6, v7 = .slice a6 (j + 1) c6 ∧ w7.ownsRow W.heap.size 9 1 (.slice a6 (j + 1) c6) (j + 1) (strs (keysK (obj.take (j + 1))))) := by
        intro v7 w7 ho
        rw [show k + 1 + (j - k) = j + 1 by omega] at ho
        obtain ⟨a6, c6, rfl, _, _⟩ := owns_row ho
        refine ⟨a6, c6, rfl, ?_⟩
        rw [← strs_app] at ho
        rw [HI.out]
        have ho2 := owns_mono ho hsz.out
        simpa using ho2
      have hkl : (strs (K.drop k)).length = (j - k) * 1 := by have := hKl.out; simp; omega
      rcases hshape with ⟨rfl, rfl, rfl⟩ | ⟨q, rfl⟩
      · obtain rfl : k = 0 := by omega
        have hK0 : K = [] := List.length_eq_zero_iff.1 hKl.out
        subst hK0
        go_wp2_with (at_builtin; refine wpList_extendE rfl _ _ _ rfl wA.heap.size _ i0 zv 1 16 Tryz.underlying99 i1.out i4.out i2.out i3.out i5.out (by decide) _ (0 + 1) _ rfl ho7.out none 0 0 [] rfl rfl (fun _ => rfl) (fun j u h => by simp at h) (fun u hu => by cases hu) (by unfold maxLen; omega) (by omega) hsz9.out ?_; intro v7 w7 hown7 hb7)
        obtain ⟨a8, c8, rfl, ho⟩ := hfin.out _ _ (by simpa [strs] using hown7)
        have ho2 := hid ho
        have hb11 := hid (hb9.out.trans (hb7.mono hsz.out))
        go_wp2_with fail
        go_roundw
        case rel => exact ⟨0 + 1, a8, c8, by omega, rfl, by go_num, ho2, hb11⟩
        case measure => simp [intOf]; omega
      · by_cases hck : c3 = k
        · have hvac : Hid (∀ (i : Nat) (u : Value), (strs (K.drop k))[i]? = some u → False) := by
            intro i u h
            have := (List.getElem?_eq_some_iff.1 h).1
            rw [hkl] at this
            omega
          go_wp2_with (at_builtin; refine wpList_extendE rfl _ _ _ rfl wA.heap.size _ i0 zv 1 16 Tryz.underlying99 i1.out i4.out i2.out i3.out i5.out (by decide) _ (k + 1) _ rfl ho7.out _ (j - k) _ (strs (K.drop k)) rfl hkl (fun h => by cases h) (fun i u h => (hvac.out i u h).elim) (strs_one _) (by unfold maxLen; omega) (by omega) hsz9.out ?_; intro v7 w7 hown7 hb7)
          obtain ⟨a8, c8, rfl, ho⟩ := hfin.out _ _ hown7
          have ho2 := hid ho
          have hb11 := hid (hb9.out.trans (hb7.mono hsz.out))
          go_wp2_with fail
          go_roundw
          case rel => exact ⟨j + 1, a8, c8, by omega, rfl, by go_num, ho2, hb11⟩
          case measure => simp [intOf]; omega
        · have hrt := hid (fun s (hs : s = k) => row_from (k := k) (s := s) hrow'.out hs)
          go_wp2_with (at_builtin; refine wpList_extendE rfl _ _ _ rfl wA.heap.size _ i0 zv 1 16 Tryz.underlying99 i1.out i4.out i2.out i3.out i5.out (by decide) _ (k + 1) _ rfl ho7.out _ (j - k) _ (strs (K.drop k)) rfl hkl (fun h => by cases h) (fun i u h => hrt.out _ (by omega) i u (by simpa [strs] using h)) (strs_one _) (by unfold maxLen; omega) (by omega) hsz9.out ?_; intro v7 w7 hown7 hb7)
          obtain ⟨a8, c8, rfl, ho⟩ := hfin.out _ _ hown7
          have ho2 := hid ho
          have hb11 := hid (hb9.out.trans (hb7.mono hsz.out))
          go_wp2_with fail
          go_roundw
          case rel => exact ⟨j + 1, a8, c8, by omega, rfl, by go_num, ho2, hb11⟩
          case measure => simp [intOf]; omega
    · obtain rfl : j = on := by omega
      have hlt2 : ¬ ((j : Nat) : Int) < (j : Int) := by omega
      have hfin : Hid (wr.ownsRow w.heap.size 9 1 (.slice a3 j c3) j (strs (keysK obj))) := by
        have := hown.out
        rw [List.take_of_length_le (by rw [hon.out]; exact Nat.le_refl _)] at this
        exact owns_mono this hBs.out
      have hbf : Hid (Below w.heap.size w wr) := hB.out.trans (hb.out.mono hBs.out)
      go_wp2_with fail
      go_ret
      exact ⟨a3, c3, rfl, hfin.out, hbf.out⟩

theorem ref11_Keys (v : JV) (cs : List Value) (w0 w : World) (hw : Below w0.heap.size w0 w) (h : RdV w0 cs v) (hol : v.obj.length ≤ 1048576) (hso : ∀ p ∈ v.obj, soundB p.1 = true ∧ p.1.length ≤ 1048576) (hnd : (v.obj.map (·.1)).Nodup) :
    Calls Tryz.prog 74 #[.agg cs.toArray] w (OutK w (keysK v.obj)) := by
  obtain ⟨a, c, aa, ac, oa, oc, P⟩ := h.parts
  have e := P.cells
  subst e
  exact keys_walk v.kind v.g a v.ls.length c v.e v.s aa v.arr.length ac oa oc w0 w hw v.obj P.obj hol hso hnd

end Go.Proofs.YtgbgkodjjgjhgaaGreatDoor
