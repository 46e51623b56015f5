/- Proved: the card of FormatApplies in its second form: for every input of bulk at most 1048576 the law returns true, and its arguments read as before. Conditions: those of the given row alone (the bulk; the listed package-level variables hold what the row lists). -/
import Derived.Test.YtldhebpkplglcaaGreatDoorCloseF
import Derived.Test.YtldhebpkplglcaaGreatDoorOpenS
import Derived.Test.YtldhebpkplglcaaGreatDoorHe
namespace Go.Proofs.YtldhebpkplglcaaGreatDoor
open Go.RowKit Go.ChangeShapes Go.WideShapes Go.ChangeAt Go.Joins
open Go.ChangeMaps (open_string)

theorem formatapplies_laid (os : Os) (args : Array Value) : laidMetH Tryz.prog Rows.formatAppliesUptoRow.laid ((laidWorldF os).forCall (fun _ _ => 0) ⟨#[], args, []⟩).memory :=
  (LaidIn.of_run (l := Rows.formatAppliesUptoRow.laid) [5, 6, 4, 2, 3, 1, (World.settled Tryz.prog default).heap.size] 8 (by kernel_rfl) (by kernel_rfl) (by kernel_rfl) (by kernel_rfl)).met

theorem formatapplies_witness (os : Os) {H : Type} (enc : TypeId × Value → H) :
    (Rows.OpenSpec.upto Rows.formatAppliesSpec).preRow enc Tryz.prog Tryz.f3 Rows.formatAppliesUptoRow.domain false Rows.formatAppliesUptoRow.laid ((laidWorldF os).forCall (fun _ _ => 0) ⟨#[], #[.string ⟨#[]⟩, .agg #[.int .i64 0, .bool false, .slice none 0 0, .int .i64 0, .string ⟨#[]⟩, .slice none 0 0, .slice none 0 0]], []⟩).memory #[.string ⟨#[]⟩, .agg #[.int .i64 0, .bool false, .slice none 0 0, .int .i64 0, .string ⟨#[]⟩, .slice none 0 0, .slice none 0 0]] := by
  have hw : (DataW.whole enc Tryz.prog ((laidWorldF os).forCall (fun _ _ => 0) ⟨#[], #[.string ⟨#[]⟩, .agg #[.int .i64 0, .bool false, .slice none 0 0, .int .i64 0, .string ⟨#[]⟩, .slice none 0 0, .slice none 0 0]], []⟩).memory Tryz.f3.params.toList Rows.formatAppliesSpec.vars false #[Value.string ⟨#[]⟩, .agg #[.int .i64 0, .bool false, .slice none 0 0, .int .i64 0, .string ⟨#[]⟩, .slice none 0 0, .slice none 0 0]].toList 8).map (fun x => (x.1, x.2.1)) =
      some ([.lit (.string []), .agg [.lit (.int .i64 0), .agg [.lit (.bool false), .nil, .lit (.int .i64 0)], .lit (.string []), .nil, .nil]], []) := by kernel_rfl
  obtain ⟨⟨x1, x2, x3⟩, hx, hx1⟩ := Option.map_eq_some_iff.1 hw
  simp only [Prod.mk.injEq] at hx1
  obtain ⟨rfl, rfl⟩ := hx1
  exact OpenSpec.preRow_of_cond 8 hx (by kernel_rfl) (fun k hk => by cases hk; kernel_rfl) (by kernel_rfl) (formatapplies_laid os _)

set_option maxRecDepth 100000 in
set_option maxHeartbeats 2000000 in
theorem formatapplies_lifted (os : Os) (started : os.Started) (H : Type) (enc : TypeId × Value → H) (F : Stop.Interp) :
    ReturnsInHanded {} Tryz.checked os 3 .any ((Rows.OpenSpec.upto Rows.formatAppliesSpec).preRow enc Tryz.prog Tryz.f3 Rows.formatAppliesUptoRow.domain false Rows.formatAppliesUptoRow.laid) (((Rows.OpenSpec.upto Rows.formatAppliesSpec).at F).post enc Tryz.prog Tryz.f3 false true false false) := by
  refine returnsInHanded_of_row (C := Tryz.checked) (s := (Rows.OpenSpec.upto Rows.formatAppliesSpec)) own started (by kernel_rfl) Tryz.func3
    (witness_row_atRef (enc := enc) (C := Tryz.checked) false (laidWorldF os) #[.string ⟨#[]⟩, .agg #[.int .i64 0, .bool false, .slice none 0 0, .int .i64 0, .string ⟨#[]⟩, .slice none 0 0, .slice none 0 0]] rfl (by kernel_rfl) (by kernel_rfl) (by kernel_rfl) (formatapplies_witness os enc)) ?_
  intro W base args ds gs before hval0 hW _ hcond _ hL hsh _
  have hval : ∀ (j : Nat) t v, Tryz.f3.params[j]? = some t → args[j]? = some v → Value.okWide Tryz.prog W .any base t v := hval0
  have hW' := hW
  obtain ⟨p, q, hA0, hV, rfl, _, _⟩ := hW
  have hA : DataW.TrodAll enc Tryz.prog W 0 (fun _ => true) true Tryz.f3.params.toList args.toList ds p := hA0
  obtain ⟨rfl, rfl⟩ := trodVars_none hV
  have hlt : ∀ x ∈ p, x.block < W.heap.size := fun x hx => by simpa using hW'.lt x (by simpa using hx)
  have hA1 := hA
  have hbulk : Rows.uptoSmall H (ds ++ []) = true := hcond _ rfl
  rw [List.append_nil] at hbulk
  replace hbulk : Rows.uptoBulkAll ds ≤ 1048576 := of_decide_eq_true hbulk
  rw [Tryz.params3] at hA hval
  obtain ⟨v0, v1, d0, d1, p0, p1, hargs, hds, hp, h0, h1⟩ := trodAll_two hA
  subst hargs
  have hdsb := hds
  subst hds
  obtain ⟨c0, hv0, s0⟩ := open_strF (hval 0 _ v0 rfl rfl) h0
  have s0' := s0 (Nat.le_trans (bulkF_part (by simp)) hbulk)
  obtain ⟨c1, x1, hv1, r1, s1⟩ := open_valueArgS (hval 1 _ v1 rfl rfl) h1
  have s1' := s1 (Nat.le_trans (bulk_part (by simp)) hbulk)
  subst hv0 hv1
  have hT := tabs_ofF hL (by kernel_rfl) (by kernel_rfl) (by kernel_rfl)
  have hM := mx_of hsh
  have walk := law_FormatApplies c0 x1 c1 W r1 hT hM s1'.1 (fun hm => Nat.le_trans (json_len 200 x1 hm) (by have := s1'.2; omega))
  refine walk.mono ?_
  rintro en W' ⟨rfl, bel⟩
  refine ⟨_, rfl, _, _, _, [], p, [], hW', ?_, ?_, ?_, bel.frame _, fun h => by cases h⟩
  · exact trodAll_mk1 (shut_bool Tryz.underlying4 _)
  · exact trodAll_stays bel (by rw [Tryz.params3]; intro t ht; simp at ht; first | (subst ht; exact ⟨by kernel_rfl, of_decide_eq_true (by kernel_rfl)⟩) | (rcases ht with rfl | rfl <;> exact ⟨by kernel_rfl, of_decide_eq_true (by kernel_rfl)⟩) | (rcases ht with rfl | rfl | rfl <;> exact ⟨by kernel_rfl, of_decide_eq_true (by kernel_rfl)⟩) | (rcases ht with rfl | rfl | rfl | rfl <;> exact ⟨by kernel_rfl, of_decide_eq_true (by kernel_rfl)⟩)) hA1 hlt
  · exact hV

theorem formatapplies_andT {a b : Bool} (h : a = true) (k : b = true) : (a && b) = true := by rw [h, k]; rfl
set_option maxHeartbeats 20000000 in
theorem formatapplies_closed : joinedFacts Tryz.prog 3 Tryz.f3 (Rows.OpenSpec.upto Rows.formatAppliesSpec).bare Rows.formatAppliesUptoRow = true := by
  unfold joinedFacts
  refine formatapplies_andT (formatapplies_andT (formatapplies_andT (formatapplies_andT (formatapplies_andT (formatapplies_andT (formatapplies_andT (formatapplies_andT (formatapplies_andT (formatapplies_andT (formatapplies_andT (formatapplies_andT (formatapplies_andT (formatapplies_andT (formatapplies_andT (formatapplies_andT (formatapplies_andT (formatapplies_andT (formatapplies_andT (formatapplies_andT (formatapplies_andT (formatapplies_andT (formatapplies_andT (formatapplies_andT (formatapplies_andT (formatapplies_andT (formatapplies_andT (formatapplies_andT (formatapplies_andT (formatapplies_andT (formatapplies_andT ?_ ?_) ?_) ?_) ?_) ?_) ?_) ?_) ?_) ?_) ?_) ?_) ?_) ?_) ?_) ?_) ?_) ?_) ?_) ?_) ?_) ?_) ?_) ?_) ?_) ?_) ?_) ?_) ?_) ?_) ?_) ?_
  all_goals (as_aux_lemma => kernel_rfl)

theorem formatapplies_said : Rows.FormatAppliesUptoSaid :=
  OpenClaim.holds_of_cond 3 Tryz.f3 rfl rfl rfl rfl rfl rfl rfl ⟨rfl, rfl, rfl, rfl, rfl⟩ rfl rfl rfl rfl rfl (by kernel_rfl) Tryz.func3 formatapplies_closed
    (of_decide_eq_true (by kernel_rfl)) (by unfold Func.isWrapper; first | (rw [if_pos (by decide +kernel)]; kernel_rfl) | (rw [if_neg (by decide +kernel)]; exact ⟨rfl, rfl⟩))
    (fun os started H enc _ F => by rw [OpenClaim.pre_eq_preRow]; exact formatapplies_lifted os started H enc F)

theorem formatapplies_plain (f : FuncId) (fn : Func) (hf : Tryz.pinned.checked.prog.funcNamed "lorgnette/lorgnettelaw20.FormatApplies" = some f) (hfn : Tryz.pinned.checked.prog.funcs[f]? = some fn) :
    true = Tryz.pinned.checked.prog.looks [] ∧ ∀ (j : Nat) t, fn.params[j]? = some t → Tryz.pinned.checked.prog.wantsStandIn t = false := by
  obtain rfl : f = 3 := Option.some.inj ((show Tryz.prog.funcNamed "lorgnette/lorgnettelaw20.FormatApplies" = some 3 by kernel_rfl).symm.trans hf) |>.symm
  obtain rfl : fn = Tryz.f3 := (Option.some.inj (Tryz.func3.symm.trans hfn)).symm
  refine ⟨by kernel_rfl, fun j t ht => ?_⟩
  have hm : t ∈ Tryz.f3.params := Array.mem_of_getElem? ht
  rw [Tryz.params3] at hm
  simp at hm
  first
    | (subst hm; show Tryz.prog.wantsStandIn _ = false; kernel_rfl)
    | (rcases hm with rfl | rfl <;> (show Tryz.prog.wantsStandIn _ = false; kernel_rfl))
    | (rcases hm with rfl | rfl | rfl <;> (show Tryz.prog.wantsStandIn _ = false; kernel_rfl))
    | (rcases hm with rfl | rfl | rfl | rfl <;> (show Tryz.prog.wantsStandIn _ = false; kernel_rfl))

theorem FormatApplies_card : Rows.FormatAppliesUptoCardSaid :=
  Claim7.holds_tied_plain_at .later [] _ _ _ _ formatapplies_said (fun _ h => by cases h) (by as_aux_lemma => kernel_rfl) (fun _ h => by cases h) formatAppliesUpto_row_tie rfl ⟨rfl, rfl⟩ (by as_aux_lemma => kernel_rfl) rfl formatapplies_plain (by as_aux_lemma => kernel_rfl)

end Go.Proofs.YtldhebpkplglcaaGreatDoor
