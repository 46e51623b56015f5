/- Proved: the card of DecOfs: for every input the law returns true, and its arguments read as before. Conditions: those of the given row alone (the listed package-level variables hold what the row lists). -/
import Derived.Test.YtphdncifcljmpaaGreatDoorClose
import Derived.Test.YtphdncifcljmpaaGreatDoorLawOfs
namespace Go.Proofs.YtphdncifcljmpaaGreatDoor
open Go.RowKit Go.ChangeShapes Go.WideShapes Go.ChangeAt Go.Joins
open Go.ChangeMaps (open_string)

theorem wf_i64 {n : Int} (hw : (Lit.int .i64 n).wf = true) : -9223372036854775808 ≤ n ∧ n ≤ 9223372036854775807 := by
  simp only [Lit.wf, Bool.and_eq_true, decide_eq_true_eq] at hw
  rw [show IntKind.i64.min = -9223372036854775808 by decide, show IntKind.i64.max = 9223372036854775807 by decide] at hw
  exact hw

theorem ofs_laid (os : Os) (args : Array Value) : laidMetH Tryz.prog Rows.decOfsRow.laid ((laidWorld os).forCall (fun _ _ => 0) ⟨#[], args, []⟩).memory :=
  (LaidIn.of_run (l := Rows.decOfsRow.laid) [1, 2, 0, 4, 5, 6, 7, (World.settled Tryz.prog default).heap.size, (World.settled Tryz.prog default).heap.size + 1] 8 (by kernel_rfl) (by kernel_rfl) (by kernel_rfl) (by kernel_rfl)).met

theorem ofs_witness (os : Os) {H : Type} (enc : TypeId × Value → H) :
    (OpenSpec.ofChange Rows.decOfsSpec).preRow enc Tryz.prog Tryz.f5 Rows.decOfsRow.domain false Rows.decOfsRow.laid ((laidWorld os).forCall (fun _ _ => 0) ⟨#[], #[.int .i64 0], []⟩).memory #[.int .i64 0] := by
  have hw : (DataW.whole enc Tryz.prog ((laidWorld os).forCall (fun _ _ => 0) ⟨#[], #[.int .i64 0], []⟩).memory Tryz.f5.params.toList Rows.decOfsSpec.vars false #[Value.int .i64 0].toList 8).map (fun x => (x.1, x.2.1)) =
      some ([.lit (.int .i64 0)], []) := by kernel_rfl
  obtain ⟨⟨x1, x2, x3⟩, hx, hx1⟩ := Option.map_eq_some_iff.1 hw
  simp only [Prod.mk.injEq] at hx1
  obtain ⟨rfl, rfl⟩ := hx1
  exact OpenSpec.preRow_of_cond 8 hx (by kernel_rfl) (fun k hk => by cases hk) (by kernel_rfl) (ofs_laid os _)

set_option maxRecDepth 100000 in
set_option maxHeartbeats 2000000 in
theorem ofs_lifted (os : Os) (started : os.Started) (H : Type) (enc : TypeId × Value → H) (F : Stop.Interp) :
    ReturnsInHanded {} Tryz.checked os 5 .any ((OpenSpec.ofChange Rows.decOfsSpec).preRow enc Tryz.prog Tryz.f5 Rows.decOfsRow.domain false Rows.decOfsRow.laid) (((OpenSpec.ofChange Rows.decOfsSpec).at F).post enc Tryz.prog Tryz.f5 false true false false) := by
  refine returnsInHanded_of_row (C := Tryz.checked) (s := OpenSpec.ofChange Rows.decOfsSpec) own started (by kernel_rfl) Tryz.func5
    (witness_row_atRef (enc := enc) (C := Tryz.checked) false (laidWorld os) #[.int .i64 0] rfl (by kernel_rfl) (by kernel_rfl) (by kernel_rfl) (ofs_witness os enc)) ?_
  intro W base args ds gs before hval0 hW _ _ _ hL _ _
  have hval : ∀ (j : Nat) t v, Tryz.f5.params[j]? = some t → args[j]? = some v → Value.okWide Tryz.prog W .any base t v := hval0
  have hW' := hW
  obtain ⟨p, q, hA0, hV, rfl, _, _⟩ := hW
  have hA : DataW.TrodAll enc Tryz.prog W 0 (fun _ => true) true Tryz.f5.params.toList args.toList ds p := hA0
  obtain ⟨rfl, rfl⟩ := trodVars_none hV
  have hlt : ∀ x ∈ p, x.block < W.heap.size := fun x hx => by simpa using hW'.lt x (by simpa using hx)
  have hA1 := hA
  rw [Tryz.params5] at hA hval
  obtain ⟨v0, d0, hargs, hds, h0⟩ := trodAll_one hA
  subst hargs
  obtain ⟨n0, hv0, _, _, wf0⟩ := open_int Tryz.underlying3 (hval 0 _ v0 rfl rfl) h0
  have ws0 := wf_i64 wf0
  subst hv0
  have hpow := pow_of hL (by kernel_rfl)
  have walk := law_DecOfs n0 W ws0.1 ws0.2 hpow
  refine walk.mono ?_
  rintro en W' ⟨rfl, bel⟩
  subst hds
  refine ⟨_, rfl, _, _, _, [], p, [], hW', ?_, ?_, ?_, bel.frame _, fun h => by cases h⟩
  · exact trodAll_mk1 (shut_bool Tryz.underlying4 _)
  · exact trodAll_stays bel (by rw [Tryz.params5]; intro t ht; simp at ht; subst ht <;> exact ⟨by kernel_rfl, of_decide_eq_true (by kernel_rfl)⟩) hA1 hlt
  · exact hV

theorem ofs_said : Rows.DecOfsSaid :=
  OpenClaim.holds_of_cond 5 Tryz.f5 rfl rfl rfl rfl rfl rfl rfl ⟨rfl, rfl, rfl, rfl, rfl⟩ rfl rfl rfl rfl rfl (by kernel_rfl) Tryz.func5 (by kernel_rfl)
    (of_decide_eq_true (by kernel_rfl)) (by unfold Func.isWrapper; first | (rw [if_pos (by decide +kernel)]; kernel_rfl) | (rw [if_neg (by decide +kernel)]; exact ⟨rfl, rfl⟩))
    (fun os started H enc _ F => by rw [OpenClaim.pre_eq_preRow]; exact ofs_lifted os started H enc F)

theorem ofs_plain (f : FuncId) (fn : Func) (hf : Tryz.pinned.checked.prog.funcNamed "lorgnette/lorgnettelaw02.DecOfs" = some f) (hfn : Tryz.pinned.checked.prog.funcs[f]? = some fn) :
    true = Tryz.pinned.checked.prog.looks [] ∧ ∀ (j : Nat) t, fn.params[j]? = some t → Tryz.pinned.checked.prog.wantsStandIn t = false := by
  obtain rfl : f = 5 := Option.some.inj ((show Tryz.prog.funcNamed "lorgnette/lorgnettelaw02.DecOfs" = some 5 by kernel_rfl).symm.trans hf) |>.symm
  obtain rfl : fn = Tryz.f5 := (Option.some.inj (Tryz.func5.symm.trans hfn)).symm
  refine ⟨by kernel_rfl, fun j t ht => ?_⟩
  have hm : t ∈ Tryz.f5.params := Array.mem_of_getElem? ht
  rw [Tryz.params5] at hm
  simp at hm
  subst hm
  all_goals (show Tryz.prog.wantsStandIn _ = false; kernel_rfl)

theorem DecOfs_card : Rows.DecOfsCardSaid :=
  Claim7.holds_tied_plain_at .later [] _ _ _ _ ofs_said (fun _ h => by cases h) (by kernel_rfl) (fun _ h => by cases h) decOfs_row_tie rfl ⟨rfl, rfl⟩ (by kernel_rfl) rfl ofs_plain (by kernel_rfl)

end Go.Proofs.YtphdncifcljmpaaGreatDoor
