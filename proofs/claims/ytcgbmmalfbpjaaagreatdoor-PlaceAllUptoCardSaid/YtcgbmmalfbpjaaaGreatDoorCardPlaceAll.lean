/-  -/
import Derived.Test.YtcgbmmalfbpjaaaGreatDoorMo
import Derived.Test.YtcgbmmalfbpjaaaGreatDoorOpenN
import Derived.Test.YtcgbmmalfbpjaaaGreatDoorLawPlaceAll
set_option maxRecDepth 100000
set_option maxHeartbeats 16000000
namespace Go.Proofs.YtcgbmmalfbpjaaaGreatDoor
open Go.RowKit Go.ChangeShapes Go.WideShapes Go.ChangeAt Go.Joins
open Go.ChangeMaps (open_string)
theorem placeall_laid (os:Os)(args:Array Value):laidMetH Tryz.prog Rows.placeAllUptoRow.laid ((laidWorld os).forCall (fun _ _=>0) ⟨#[],args,[]⟩).memory :=
 (LaidIn.of_run (l:=Rows.placeAllUptoRow.laid) [6,7,2,1,4,3,0,(World.settled Tryz.prog default).heap.size,(World.settled Tryz.prog default).heap.size+1] 8 (by kernel_rfl) (by kernel_rfl) (by kernel_rfl) (by kernel_rfl)).met
theorem placeall_witness (os:Os){H:Type}(enc:TypeId × Value→H) :
  (Rows.OpenSpec.upto Rows.placeAllSpec).preRow enc Tryz.prog Tryz.f9 Rows.placeAllUptoRow.domain false Rows.placeAllUptoRow.laid ((laidWorld os).forCall (fun _ _=>0) ⟨#[],#[.agg #[.int .i64 0,.bool false,.slice none 0 0,.int .i64 0,.string ⟨#[]⟩,.slice none 0 0,.slice none 0 0]],[]⟩).memory #[.agg #[.int .i64 0,.bool false,.slice none 0 0,.int .i64 0,.string ⟨#[]⟩,.slice none 0 0,.slice none 0 0]]:=by
 have hw:(DataW.whole enc Tryz.prog ((laidWorld os).forCall (fun _ _=>0) ⟨#[],#[.agg #[.int .i64 0,.bool false,.slice none 0 0,.int .i64 0,.string ⟨#[]⟩,.slice none 0 0,.slice none 0 0]],[]⟩).memory Tryz.f9.params.toList Rows.placeAllSpec.vars false #[Value.agg #[.int .i64 0,.bool false,.slice none 0 0,.int .i64 0,.string ⟨#[]⟩,.slice none 0 0,.slice none 0 0]].toList 8).map (fun x=>(x.1,x.2.1)) =
   some ([.agg [.lit (.int .i64 0),.agg [.lit (.bool false),.nil,.lit (.int .i64 0)],.lit (.string []),.nil,.nil]],[]):=by kernel_rfl
 obtain⟨⟨x1,x2,x3⟩,hx,hx1⟩:=Option.map_eq_some_iff.1 hw
 simp only[Prod.mk.injEq] at hx1
 obtain⟨rfl,rfl⟩:=hx1
 exact OpenSpec.preRow_of_cond 8 hx (by kernel_rfl) (fun k hk=>by cases hk;kernel_rfl) (by kernel_rfl) (placeall_laid os _)
theorem placeall_lifted (os:Os)(started:os.Started)(H:Type)(enc:TypeId × Value→H)(F:Stop.Interp) :
  ReturnsInHanded {} Tryz.checked os 9 .any ((Rows.OpenSpec.upto Rows.placeAllSpec).preRow enc Tryz.prog Tryz.f9 Rows.placeAllUptoRow.domain false Rows.placeAllUptoRow.laid) (((Rows.OpenSpec.upto Rows.placeAllSpec).at F).post enc Tryz.prog Tryz.f9 false true false false):=by
 refine returnsInHanded_of_row (C:=Tryz.checked) (s:=(Rows.OpenSpec.upto Rows.placeAllSpec)) own started (by kernel_rfl) Tryz.func9
  (witness_row_atRef (enc:=enc) (C:=Tryz.checked) false (laidWorld os) #[.agg #[.int .i64 0,.bool false,.slice none 0 0,.int .i64 0,.string ⟨#[]⟩,.slice none 0 0,.slice none 0 0]] rfl (by kernel_rfl) (by kernel_rfl) (by kernel_rfl) (placeall_witness os enc)) ?_
 intro W base args ds gs before hval0 hW _ hcond _ hL _ _
 have hval:∀(j:Nat) t v,Tryz.f9.params[j]? = some t→args[j]? = some v→Value.okWide Tryz.prog W .any base t v:=hval0
 have hW':=hW
 obtain⟨p,q,hA0,hV,rfl,_,_⟩:=hW
 have hA:DataW.TrodAll enc Tryz.prog W 0 (fun _=>true) true Tryz.f9.params.toList args.toList ds p:=hA0
 obtain⟨rfl,rfl⟩:=trodVars_none hV
 have hlt:∀x ∈ p,x.block<W.heap.size:=fun x hx=>by simpa using hW'.lt x (by simpa using hx)
 have hA1:=hA
 have hbulk:Rows.uptoSmall H (ds ++ [])=true:=hcond _ rfl
 rw[List.append_nil] at hbulk
 replace hbulk:Rows.uptoBulkAll ds≤1048576:=of_decide_eq_true hbulk
 rw[Tryz.params9] at hA hval
 obtain⟨v0,d0,hargs,hds,h0⟩:=trodAll_one hA
 subst hargs
 have hdsb:=hds
 subst hds
 obtain⟨c0,x0,hv0,r0,s0⟩:=mf (hval 0 _ v0 rfl rfl) h0
 have s0':=s0 (Nat.le_trans (iC (by simp)) hbulk)
 subst hv0
 have hT:=DW hL (by kernel_rfl) (by kernel_rfl) (by kernel_rfl)
 have walk:=Gj x0 c0 W s0'.1 s0'.2 r0 hT
 refine walk.mono ?_
 rintro en W' ⟨rfl,bel⟩
 refine⟨_,rfl,_,_,_,[],p,[],hW',?_,?_,?_,bel.frame _,fun h=>by cases h⟩
 ·exact trodAll_mk1 (shut_bool Tryz.underlying4 _)
 ·exact iO bel (by rw[Tryz.params9];intro t ht;simp at ht;first | (subst ht;exact⟨by kernel_rfl,of_decide_eq_true (by kernel_rfl)⟩) | (rcases ht with rfl | rfl<;>exact⟨by kernel_rfl,of_decide_eq_true (by kernel_rfl)⟩) | (rcases ht with rfl | rfl | rfl<;>exact⟨by kernel_rfl,of_decide_eq_true (by kernel_rfl)⟩) | (rcases ht with rfl | rfl | rfl | rfl<;>exact⟨by kernel_rfl,of_decide_eq_true (by kernel_rfl)⟩)) hA1 hlt
 ·exact hV
theorem placeall_andT {a b:Bool}(h:a=true)(k:b=true):(a && b)=true:=by rw[h,k];rfl
theorem placeall_closed:joinedFacts Tryz.prog 9 Tryz.f9 (Rows.OpenSpec.upto Rows.placeAllSpec).bare Rows.placeAllUptoRow=true:=by
 unfold joinedFacts
 refine placeall_andT (placeall_andT (placeall_andT (placeall_andT (placeall_andT (placeall_andT (placeall_andT (placeall_andT (placeall_andT (placeall_andT (placeall_andT (placeall_andT (placeall_andT (placeall_andT (placeall_andT (placeall_andT (placeall_andT (placeall_andT (placeall_andT (placeall_andT (placeall_andT (placeall_andT (placeall_andT (placeall_andT (placeall_andT (placeall_andT (placeall_andT (placeall_andT (placeall_andT (placeall_andT (placeall_andT ?_ ?_) ?_) ?_) ?_) ?_) ?_) ?_) ?_) ?_) ?_) ?_) ?_) ?_) ?_) ?_) ?_) ?_) ?_) ?_) ?_) ?_) ?_) ?_) ?_) ?_) ?_) ?_) ?_) ?_) ?_) ?_
 all_goals (as_aux_lemma=>kernel_rfl)
theorem placeall_said:Rows.PlaceAllUptoSaid :=
 OpenClaim.holds_of_cond 9 Tryz.f9 rfl rfl rfl rfl rfl rfl rfl ⟨rfl,rfl,rfl,rfl,rfl⟩ rfl rfl rfl rfl rfl (by kernel_rfl) Tryz.func9 placeall_closed
  (of_decide_eq_true (by kernel_rfl)) (by unfold Func.isWrapper;first | (rw[if_pos (by decide +kernel)];kernel_rfl) | (rw[if_neg (by decide +kernel)];exact⟨rfl,rfl⟩))
  (fun os started H enc _ F=>by rw[OpenClaim.pre_eq_preRow];exact placeall_lifted os started H enc F)
theorem placeall_plain (f:FuncId)(fn:Func)(hf:Tryz.pinned.checked.prog.funcNamed "lorgnette/lorgnettelaw12.PlaceAll"=some f)(hfn:Tryz.pinned.checked.prog.funcs[f]? = some fn) :
  true=Tryz.pinned.checked.prog.looks []∧∀(j:Nat) t,fn.params[j]? = some t→Tryz.pinned.checked.prog.wantsStandIn t=false:=by
 obtain rfl:f=9:=Option.some.inj ((show Tryz.prog.funcNamed "lorgnette/lorgnettelaw12.PlaceAll"=some 9 by kernel_rfl).symm.trans hf) |>.symm
 obtain rfl:fn=Tryz.f9:=(Option.some.inj (Tryz.func9.symm.trans hfn)).symm
 refine⟨by kernel_rfl,fun j t ht=>?_⟩
 have hm:t ∈ Tryz.f9.params:=Array.mem_of_getElem? ht
 rw[Tryz.params9] at hm
 simp at hm
 first
  | (subst hm;show Tryz.prog.wantsStandIn _=false;kernel_rfl)
  | (rcases hm with rfl | rfl<;>(show Tryz.prog.wantsStandIn _=false;kernel_rfl))
  | (rcases hm with rfl | rfl | rfl<;>(show Tryz.prog.wantsStandIn _=false;kernel_rfl))
  | (rcases hm with rfl | rfl | rfl | rfl<;>(show Tryz.prog.wantsStandIn _=false;kernel_rfl))
theorem PlaceAll_card:Rows.PlaceAllUptoCardSaid :=
 Claim7.holds_tied_plain_at .later [] _ _ _ _ placeall_said (fun _ h=>by cases h) (by as_aux_lemma=>kernel_rfl) (fun _ h=>by cases h) placeAllUpto_row_tie rfl ⟨rfl,rfl⟩ (by as_aux_lemma=>kernel_rfl) rfl placeall_plain (by as_aux_lemma=>kernel_rfl)
end Go.Proofs.YtcgbmmalfbpjaaaGreatDoor
