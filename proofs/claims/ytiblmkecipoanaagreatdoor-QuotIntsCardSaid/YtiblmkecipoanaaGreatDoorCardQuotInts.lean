/- Proved: the card of QuotInts: for every input the law returns true, and its arguments read as before. Conditions: those of the given row alone (the listed package-level variables hold what the row lists). -/
import Derived.Test.YtiblmkecipoanaaGreatDoorClose
import Derived.Test.YtiblmkecipoanaaGreatDoorLawQuotInts
namespace Go.Proofs.YtiblmkecipoanaaGreatDoor
open Go.RowKit Go.ChangeShapes Go.WideShapes Go.ChangeAt Go.Joins
open Go.ChangeMaps (open_string)

theorem quotints_laid (os : Os) (args : Array Value) : laidMetH Tryz.prog Rows.quotIntsRow.laid ((laidWorld os).forCall (fun _ _ => 0) ⟨#[], args, []⟩).memory :=
  (LaidIn.of_run (l := Rows.quotIntsRow.laid) [0, 1, 2, 6, 7, 4, 5, (World.settled Tryz.prog default).heap.size, (World.settled Tryz.prog default).heap.size + 1] 8 (by kernel_rfl) (by kernel_rfl) (by kernel_rfl) (by kernel_rfl)).met

theorem quotints_witness (os : Os) {H : Type} (enc : TypeId × Value → H) :
    (OpenSpec.ofChange Rows.quotIntsSpec).preRow enc Tryz.prog Tryz.f5 Rows.quotIntsRow.domain false Rows.quotIntsRow.laid ((laidWorld os).forCall (fun _ _ => 0) ⟨#[], #[.agg #[.bool false, .slice none 0 0, .int .i64 0]], []⟩).memory #[.agg #[.bool false, .slice none 0 0, .int .i64 0]] := by
  have hw : (DataW.whole enc Tryz.prog ((laidWorld os).forCall (fun _ _ => 0) ⟨#[], #[.agg #[.bool false, .slice none 0 0, .int .i64 0]], []⟩).memory Tryz.f5.params.toList Rows.quotIntsSpec.vars false #[Value.agg #[.bool false, .slice none 0 0, .int .i64 0]].toList 8).map (fun x => (x.1, x.2.1)) =
      some ([.agg [.lit (.bool false), .nil, .lit (.int .i64 0)]], []) := by kernel_rfl
  obtain ⟨⟨x1, x2, x3⟩, hx, hx1⟩ := Option.map_eq_some_iff.1 hw
  simp only [Prod.mk.injEq] at hx1
  obtain ⟨rfl, rfl⟩ := hx1
  exact OpenSpec.preRow_of_cond 8 hx (by kernel_rfl) (fun k hk => by cases hk) (by kernel_rfl) (quotints_laid os _)

set_option maxRecDepth 100000 in
set_option maxHeartbeats 2000000 in
theorem quotints_lifted (os : Os) (started : os.Started) (H : Type) (enc : TypeId × Value → H) (F : Stop.Interp) :
    ReturnsInHanded {} Tryz.checked os 5 .any ((OpenSpec.ofChange Rows.quotIntsSpec).preRow enc Tryz.prog Tryz.f5 Rows.quotIntsRow.domain false Rows.quotIntsRow.laid) (((OpenSpec.ofChange Rows.quotIntsSpec).at F).post enc Tryz.prog Tryz.f5 false true false false) := by
  refine returnsInHanded_of_row (C := Tryz.checked) (s := OpenSpec.ofChange Rows.quotIntsSpec) own started (by kernel_rfl) Tryz.func5
    (witness_row_atRef (enc := enc) (C := Tryz.checked) false (laidWorld os) #[.agg #[.bool false, .slice none 0 0, .int .i64 0]] rfl (by kernel_rfl) (by kernel_rfl) (by kernel_rfl) (quotints_witness os enc)) ?_
  intro W base args ds gs before hval0 hW _ _ _ hL _ _
  have hval : ∀ (j : Nat) t v, Tryz.f5.params[j]? = some t → args[j]? = some v → Value.okWide Tryz.prog W .any base t v := hval0
  have hW' := hW
  obtain ⟨p, q, hA0, hV, rfl, _, _⟩ := hW
  have hA : DataW.TrodAll enc Tryz.prog W 0 (fun _ => true) true Tryz.f5.params.toList args.toList ds p := hA0
  obtain ⟨rfl, rfl⟩ := trodVars_none hV
  have hlt : ∀ x ∈ p, x.block < W.heap.size := fun x hx => by simpa using hW'.lt x (by simpa using hx)
  have hA1 := hA
  rw [Tryz.params5] at hA hval
  obtain ⟨v0, d0, hargs, hds, h0⟩ := trodAll_one hA
  subst hargs
  obtain ⟨g0, a0, cap0, e0, xs0, hv0, hu0, _, _, _⟩ := open_dec (hval 0 _ v0 rfl rfl) h0
  subst hv0
  have hpow := pow_of hL (by kernel_rfl)
  have walk := law_QuotInts g0 a0 cap0 e0 xs0 W hu0 hpow
  refine walk.mono ?_
  rintro en W' ⟨rfl, bel⟩
  subst hds
  refine ⟨_, rfl, _, _, _, [], p, [], hW', ?_, ?_, ?_, bel.frame _, fun h => by cases h⟩
  · exact trodAll_mk1 (shut_bool Tryz.underlying4 _)
  · exact trodAll_stays bel (by rw [Tryz.params5]; intro t ht; simp at ht; subst ht <;> exact ⟨by kernel_rfl, of_decide_eq_true (by kernel_rfl)⟩) hA1 hlt
  · exact hV

theorem quotints_andT {a b : Bool} (h : a = true) (k : b = true) : (a && b) = true := by rw [h, k]; rfl
set_option maxHeartbeats 20000000 in
theorem quotints_closed : joinedFacts Tryz.prog 5 Tryz.f5 (OpenSpec.ofChange Rows.quotIntsSpec).bare Rows.quotIntsRow = true := by
  unfold joinedFacts
  refine quotints_andT (quotints_andT (quotints_andT (quotints_andT (quotints_andT (quotints_andT (quotints_andT (quotints_andT (quotints_andT (quotints_andT (quotints_andT (quotints_andT (quotints_andT (quotints_andT (quotints_andT (quotints_andT (quotints_andT (quotints_andT (quotints_andT (quotints_andT (quotints_andT (quotints_andT (quotints_andT (quotints_andT (quotints_andT (quotints_andT (quotints_andT (quotints_andT (quotints_andT (quotints_andT (quotints_andT ?_ ?_) ?_) ?_) ?_) ?_) ?_) ?_) ?_) ?_) ?_) ?_) ?_) ?_) ?_) ?_) ?_) ?_) ?_) ?_) ?_) ?_) ?_) ?_) ?_) ?_) ?_) ?_) ?_) ?_) ?_) ?_
  all_goals (as_aux_lemma => kernel_rfl)

theorem quotints_said : Rows.QuotIntsSaid :=
  OpenClaim.holds_of_cond 5 Tryz.f5 rfl rfl rfl rfl rfl rfl rfl ⟨rfl, rfl, rfl, rfl, rfl⟩ rfl rfl rfl rfl rfl (by kernel_rfl) Tryz.func5 quotints_closed
    (of_decide_eq_true (by kernel_rfl)) (by unfold Func.isWrapper; first | (rw [if_pos (by decide +kernel)]; kernel_rfl) | (rw [if_neg (by decide +kernel)]; exact ⟨rfl, rfl⟩))
    (fun os started H enc _ F => by rw [OpenClaim.pre_eq_preRow]; exact quotints_lifted os started H enc F)

theorem quotints_plain (f : FuncId) (fn : Func) (hf : Tryz.pinned.checked.prog.funcNamed "lorgnette/lorgnettelaw03.QuotInts" = some f) (hfn : Tryz.pinned.checked.prog.funcs[f]? = some fn) :
    true = Tryz.pinned.checked.prog.looks [] ∧ ∀ (j : Nat) t, fn.params[j]? = some t → Tryz.pinned.checked.prog.wantsStandIn t = false := by
  obtain rfl : f = 5 := Option.some.inj ((show Tryz.prog.funcNamed "lorgnette/lorgnettelaw03.QuotInts" = some 5 by kernel_rfl).symm.trans hf) |>.symm
  obtain rfl : fn = Tryz.f5 := (Option.some.inj (Tryz.func5.symm.trans hfn)).symm
  refine ⟨by kernel_rfl, fun j t ht => ?_⟩
  have hm : t ∈ Tryz.f5.params := Array.mem_of_getElem? ht
  rw [Tryz.params5] at hm
  simp at hm
  subst hm
  all_goals (show Tryz.prog.wantsStandIn _ = false; kernel_rfl)

theorem QuotInts_card : Rows.QuotIntsCardSaid :=
  Claim7.holds_tied_plain_at .later [] _ _ _ _ quotints_said (fun _ h => by cases h) (by as_aux_lemma => kernel_rfl) (fun _ h => by cases h) quotInts_row_tie rfl ⟨rfl, rfl⟩ (by as_aux_lemma => kernel_rfl) rfl quotints_plain (by as_aux_lemma => kernel_rfl)

end Go.Proofs.YtiblmkecipoanaaGreatDoor
