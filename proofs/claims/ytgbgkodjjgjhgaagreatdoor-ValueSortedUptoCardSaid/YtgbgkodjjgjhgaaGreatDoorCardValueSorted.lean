/- Proved: the card of ValueSorted in its second form: for every input of bulk at most 1048576 the law returns true, and its arguments read as before. Conditions: those of the given row alone (the bulk; the listed package-level variables hold what the row lists). -/
import Derived.Test.YtgbgkodjjgjhgaaGreatDoorMo
import Derived.Test.YtgbgkodjjgjhgaaGreatDoorOpenL
import Derived.Test.YtgbgkodjjgjhgaaGreatDoorLawValueSorted
namespace Go.Proofs.YtgbgkodjjgjhgaaGreatDoor
open Go.RowKit Go.ChangeShapes Go.WideShapes Go.ChangeAt Go.Joins
open Go.ChangeMaps (open_string)

theorem valuesorted_laid (os : Os) (args : Array Value) : laidMetH Tryz.prog Rows.valueSortedUptoRow.laid ((laidWorldV os).forCall (fun _ _ => 0) ⟨#[], args, []⟩).memory :=
  (LaidIn.of_run (l := Rows.valueSortedUptoRow.laid) [4, 5, 2, 1, 0] 8 (by kernel_rfl) (by kernel_rfl) (by kernel_rfl) (by kernel_rfl)).met

theorem valuesorted_witness (os : Os) {H : Type} (enc : TypeId × Value → H) :
    (Rows.OpenSpec.upto Rows.valueSortedSpec).preRow enc Tryz.prog Tryz.f9 Rows.valueSortedUptoRow.domain false Rows.valueSortedUptoRow.laid ((laidWorldV os).forCall (fun _ _ => 0) ⟨#[], #[.slice none 0 0], []⟩).memory #[.slice none 0 0] := by
  have hw : (DataW.whole enc Tryz.prog ((laidWorldV os).forCall (fun _ _ => 0) ⟨#[], #[.slice none 0 0], []⟩).memory Tryz.f9.params.toList Rows.valueSortedSpec.vars false #[Value.slice none 0 0].toList 8).map (fun x => (x.1, x.2.1)) =
      some ([.nil], []) := by kernel_rfl
  obtain ⟨⟨x1, x2, x3⟩, hx, hx1⟩ := Option.map_eq_some_iff.1 hw
  simp only [Prod.mk.injEq] at hx1
  obtain ⟨rfl, rfl⟩ := hx1
  exact OpenSpec.preRow_of_cond 8 hx (by kernel_rfl) (fun k hk => by cases hk; kernel_rfl) (by kernel_rfl) (valuesorted_laid os _)

set_option maxRecDepth 100000 in
set_option maxHeartbeats 2000000 in
theorem valuesorted_lifted (os : Os) (started : os.Started) (H : Type) (enc : TypeId × Value → H) (F : Stop.Interp) :
    ReturnsInHanded {} Tryz.checked os 9 .any ((Rows.OpenSpec.upto Rows.valueSortedSpec).preRow enc Tryz.prog Tryz.f9 Rows.valueSortedUptoRow.domain false Rows.valueSortedUptoRow.laid) (((Rows.OpenSpec.upto Rows.valueSortedSpec).at F).post enc Tryz.prog Tryz.f9 false true false false) := by
  refine returnsInHanded_of_row (C := Tryz.checked) (s := (Rows.OpenSpec.upto Rows.valueSortedSpec)) own started (by kernel_rfl) Tryz.func9
    (witness_row_atRef (enc := enc) (C := Tryz.checked) false (laidWorldV os) #[.slice none 0 0] rfl (by kernel_rfl) (by kernel_rfl) (by kernel_rfl) (valuesorted_witness os enc)) ?_
  intro W base args ds gs before hval0 hW _ hcond _ hL _ _
  have hval : ∀ (j : Nat) t v, Tryz.f9.params[j]? = some t → args[j]? = some v → Value.okWide Tryz.prog W .any base t v := hval0
  have hW' := hW
  obtain ⟨p, q, hA0, hV, rfl, _, _⟩ := hW
  have hA : DataW.TrodAll enc Tryz.prog W 0 (fun _ => true) true Tryz.f9.params.toList args.toList ds p := hA0
  obtain ⟨rfl, rfl⟩ := trodVars_none hV
  have hlt : ∀ x ∈ p, x.block < W.heap.size := fun x hx => by simpa using hW'.lt x (by simpa using hx)
  have hA1 := hA
  have hbulk : Rows.uptoSmall H (ds ++ []) = true := hcond _ rfl
  rw [List.append_nil] at hbulk
  replace hbulk : Rows.uptoBulkAll ds ≤ 1048576 := of_decide_eq_true hbulk
  rw [Tryz.params9] at hA hval
  obtain ⟨v0, d0, hargs, hds, h0⟩ := trodAll_one hA
  subst hargs
  have hdsb := hds
  subst hds
  obtain ⟨a0, x0, c0, hv0, r0, q0, _, n0, s0⟩ := open_valsArg (hval 0 _ v0 rfl rfl) h0
  have s0' := s0 (Nat.le_trans (bulk_part (by simp)) hbulk)
  subst hv0
  have hT := tabs_of hL (by kernel_rfl) (by kernel_rfl) (by kernel_rfl)
  have walk := law_ValueSorted x0 a0 c0 W s0' r0 q0 n0 hT
  refine walk.mono ?_
  rintro en W' ⟨rfl, bel⟩
  refine ⟨_, rfl, _, _, _, [], p, [], hW', ?_, ?_, ?_, bel.frame _, fun h => by cases h⟩
  · exact trodAll_mk1 (shut_bool Tryz.underlying4 _)
  · exact trodAll_stays bel (by rw [Tryz.params9]; intro t ht; simp at ht; first | (subst ht; exact ⟨by kernel_rfl, of_decide_eq_true (by kernel_rfl)⟩) | (rcases ht with rfl | rfl <;> exact ⟨by kernel_rfl, of_decide_eq_true (by kernel_rfl)⟩) | (rcases ht with rfl | rfl | rfl <;> exact ⟨by kernel_rfl, of_decide_eq_true (by kernel_rfl)⟩) | (rcases ht with rfl | rfl | rfl | rfl <;> exact ⟨by kernel_rfl, of_decide_eq_true (by kernel_rfl)⟩)) hA1 hlt
  · exact hV

theorem valuesorted_andT {a b : Bool} (h : a = true) (k : b = true) : (a && b) = true := by rw [h, k]; rfl
set_option maxHeartbeats 20000000 in
theorem valuesorted_closed : joinedFacts Tryz.prog 9 Tryz.f9 (Rows.OpenSpec.upto Rows.valueSortedSpec).bare Rows.valueSortedUptoRow = true := by
  unfold joinedFacts
  refine valuesorted_andT (valuesorted_andT (valuesorted_andT (valuesorted_andT (valuesorted_andT (valuesorted_andT (valuesorted_andT (valuesorted_andT (valuesorted_andT (valuesorted_andT (valuesorted_andT (valuesorted_andT (valuesorted_andT (valuesorted_andT (valuesorted_andT (valuesorted_andT (valuesorted_andT (valuesorted_andT (valuesorted_andT (valuesorted_andT (valuesorted_andT (valuesorted_andT (valuesorted_andT (valuesorted_andT (valuesorted_andT (valuesorted_andT (valuesorted_andT (valuesorted_andT (valuesorted_andT (valuesorted_andT (valuesorted_andT ?_ ?_) ?_) ?_) ?_) ?_) ?_) ?_) ?_) ?_) ?_) ?_) ?_) ?_) ?_) ?_) ?_) ?_) ?_) ?_) ?_) ?_) ?_) ?_) ?_) ?_) ?_) ?_) ?_) ?_) ?_) ?_
  all_goals (as_aux_lemma => kernel_rfl)

theorem valuesorted_said : Rows.ValueSortedUptoSaid :=
  OpenClaim.holds_of_cond 9 Tryz.f9 rfl rfl rfl rfl rfl rfl rfl ⟨rfl, rfl, rfl, rfl, rfl⟩ rfl rfl rfl rfl rfl (by kernel_rfl) Tryz.func9 valuesorted_closed
    (of_decide_eq_true (by kernel_rfl)) (by unfold Func.isWrapper; first | (rw [if_pos (by decide +kernel)]; kernel_rfl) | (rw [if_neg (by decide +kernel)]; exact ⟨rfl, rfl⟩))
    (fun os started H enc _ F => by rw [OpenClaim.pre_eq_preRow]; exact valuesorted_lifted os started H enc F)

theorem valuesorted_plain (f : FuncId) (fn : Func) (hf : Tryz.pinned.checked.prog.funcNamed "lorgnette/lorgnettelaw11.ValueSorted" = some f) (hfn : Tryz.pinned.checked.prog.funcs[f]? = some fn) :
    false = Tryz.pinned.checked.prog.looks [] ∧ ∀ (j : Nat) t, fn.params[j]? = some t → Tryz.pinned.checked.prog.wantsStandIn t = false := by
  obtain rfl : f = 9 := Option.some.inj ((show Tryz.prog.funcNamed "lorgnette/lorgnettelaw11.ValueSorted" = some 9 by kernel_rfl).symm.trans hf) |>.symm
  obtain rfl : fn = Tryz.f9 := (Option.some.inj (Tryz.func9.symm.trans hfn)).symm
  refine ⟨by kernel_rfl, fun j t ht => ?_⟩
  have hm : t ∈ Tryz.f9.params := Array.mem_of_getElem? ht
  rw [Tryz.params9] at hm
  simp at hm
  first
    | (subst hm; show Tryz.prog.wantsStandIn _ = false; kernel_rfl)
    | (rcases hm with rfl | rfl <;> (show Tryz.prog.wantsStandIn _ = false; kernel_rfl))
    | (rcases hm with rfl | rfl | rfl <;> (show Tryz.prog.wantsStandIn _ = false; kernel_rfl))
    | (rcases hm with rfl | rfl | rfl | rfl <;> (show Tryz.prog.wantsStandIn _ = false; kernel_rfl))

theorem ValueSorted_card : Rows.ValueSortedUptoCardSaid :=
  Claim7.holds_tied_plain_at .later [] _ _ _ _ valuesorted_said (fun _ h => by cases h) (by as_aux_lemma => kernel_rfl) (fun _ h => by cases h) valueSortedUpto_row_tie rfl ⟨rfl, rfl⟩ (by as_aux_lemma => kernel_rfl) rfl valuesorted_plain (by as_aux_lemma => kernel_rfl)

end Go.Proofs.YtgbgkodjjgjhgaaGreatDoor
