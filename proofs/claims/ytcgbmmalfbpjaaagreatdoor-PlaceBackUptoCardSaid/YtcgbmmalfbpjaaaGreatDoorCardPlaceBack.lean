/-  -/
import Derived.Test.YtcgbmmalfbpjaaaGreatDoorMo
import Derived.Test.YtcgbmmalfbpjaaaGreatDoorOpenL
import Derived.Test.YtcgbmmalfbpjaaaGreatDoorOpenB
import Derived.Test.YtcgbmmalfbpjaaaGreatDoorLawPlaceBack
import Derived.Carry
set_option maxRecDepth 100000
set_option maxHeartbeats 16000000
namespace Go.Proofs.YtcgbmmalfbpjaaaGreatDoor
open Go.RowKit Go.ChangeShapes Go.WideShapes Go.ChangeAt Go.Joins
open Go.ChangeMaps (open_string)
theorem placeback_laid (os:Os)(args:Array Value):laidMetH Tryz.prog Rows.placeBackUptoRow.laid ((laidWorld os).forCall (fun _ _=>0) ⟨#[],args,[]⟩).memory :=
 (LaidIn.of_run (l:=Rows.placeBackUptoRow.laid) [6,7,2,1,4,3,0,(World.settled Tryz.prog default).heap.size,(World.settled Tryz.prog default).heap.size+1] 8 (by kernel_rfl) (by kernel_rfl) (by kernel_rfl) (by kernel_rfl)).met
theorem placeback_witness (os:Os){H:Type}(enc:TypeId × Value→H) :
  (Rows.OpenSpec.upto Rows.placeBackSpec).preRow enc Tryz.prog Tryz.f7 Rows.placeBackUptoRow.domain false Rows.placeBackUptoRow.laid ((laidWorld os).forCall (fun _ _=>0) ⟨#[],#[.agg #[.int .i64 0,.bool false,.slice none 0 0,.int .i64 0,.string ⟨#[]⟩,.slice none 0 0,.slice none 0 0],.slice none 0 0,.agg #[.int .i64 0,.bool false,.slice none 0 0,.int .i64 0,.string ⟨#[]⟩,.slice none 0 0,.slice none 0 0],.agg #[.int .i64 0,.bool false,.slice none 0 0,.int .i64 0,.string ⟨#[]⟩,.slice none 0 0,.slice none 0 0]],[]⟩).memory #[.agg #[.int .i64 0,.bool false,.slice none 0 0,.int .i64 0,.string ⟨#[]⟩,.slice none 0 0,.slice none 0 0],.slice none 0 0,.agg #[.int .i64 0,.bool false,.slice none 0 0,.int .i64 0,.string ⟨#[]⟩,.slice none 0 0,.slice none 0 0],.agg #[.int .i64 0,.bool false,.slice none 0 0,.int .i64 0,.string ⟨#[]⟩,.slice none 0 0,.slice none 0 0]]:=by
 have hw:(DataW.whole enc Tryz.prog ((laidWorld os).forCall (fun _ _=>0) ⟨#[],#[.agg #[.int .i64 0,.bool false,.slice none 0 0,.int .i64 0,.string ⟨#[]⟩,.slice none 0 0,.slice none 0 0],.slice none 0 0,.agg #[.int .i64 0,.bool false,.slice none 0 0,.int .i64 0,.string ⟨#[]⟩,.slice none 0 0,.slice none 0 0],.agg #[.int .i64 0,.bool false,.slice none 0 0,.int .i64 0,.string ⟨#[]⟩,.slice none 0 0,.slice none 0 0]],[]⟩).memory Tryz.f7.params.toList Rows.placeBackSpec.vars false #[Value.agg #[.int .i64 0,.bool false,.slice none 0 0,.int .i64 0,.string ⟨#[]⟩,.slice none 0 0,.slice none 0 0],.slice none 0 0,.agg #[.int .i64 0,.bool false,.slice none 0 0,.int .i64 0,.string ⟨#[]⟩,.slice none 0 0,.slice none 0 0],.agg #[.int .i64 0,.bool false,.slice none 0 0,.int .i64 0,.string ⟨#[]⟩,.slice none 0 0,.slice none 0 0]].toList 8).map (fun x=>(x.1,x.2.1)) =
   some ([.agg [.lit (.int .i64 0),.agg [.lit (.bool false),.nil,.lit (.int .i64 0)],.lit (.string []),.nil,.nil],.nil,.agg [.lit (.int .i64 0),.agg [.lit (.bool false),.nil,.lit (.int .i64 0)],.lit (.string []),.nil,.nil],.agg [.lit (.int .i64 0),.agg [.lit (.bool false),.nil,.lit (.int .i64 0)],.lit (.string []),.nil,.nil]],[]):=by kernel_rfl
 obtain⟨⟨x1,x2,x3⟩,hx,hx1⟩:=Option.map_eq_some_iff.1 hw
 simp only[Prod.mk.injEq] at hx1
 obtain⟨rfl,rfl⟩:=hx1
 exact OpenSpec.preRow_of_cond 8 hx (by kernel_rfl) (fun k hk=>by cases hk;kernel_rfl) (by kernel_rfl) (placeback_laid os _)
theorem placeback_lifted (os:Os)(started:os.Started)(H:Type)(enc:TypeId × Value→H)(F:Stop.Interp) :
  ReturnsInHanded {} Tryz.checked os 7 .any ((Rows.OpenSpec.upto Rows.placeBackSpec).preRow enc Tryz.prog Tryz.f7 Rows.placeBackUptoRow.domain false Rows.placeBackUptoRow.laid) (((Rows.OpenSpec.upto Rows.placeBackSpec).at F).post enc Tryz.prog Tryz.f7 false true false false):=by
 refine returnsInHanded_of_row (C:=Tryz.checked) (s:=(Rows.OpenSpec.upto Rows.placeBackSpec)) own started (by kernel_rfl) Tryz.func7
  (witness_row_atRef (enc:=enc) (C:=Tryz.checked) false (laidWorld os) #[.agg #[.int .i64 0,.bool false,.slice none 0 0,.int .i64 0,.string ⟨#[]⟩,.slice none 0 0,.slice none 0 0],.slice none 0 0,.agg #[.int .i64 0,.bool false,.slice none 0 0,.int .i64 0,.string ⟨#[]⟩,.slice none 0 0,.slice none 0 0],.agg #[.int .i64 0,.bool false,.slice none 0 0,.int .i64 0,.string ⟨#[]⟩,.slice none 0 0,.slice none 0 0]] rfl (by kernel_rfl) (by kernel_rfl) (by kernel_rfl) (placeback_witness os enc)) ?_
 intro W base args ds gs before hval0 hW _ hcond _ hL _ _
 have hval:∀(j:Nat) t v,Tryz.f7.params[j]? = some t→args[j]? = some v→Value.okWide Tryz.prog W .any base t v:=hval0
 have hW':=hW
 obtain⟨p,q,hA0,hV,rfl,_,_⟩:=hW
 have hA:DataW.TrodAll enc Tryz.prog W 0 (fun _=>true) true Tryz.f7.params.toList args.toList ds p:=hA0
 obtain⟨rfl,rfl⟩:=trodVars_none hV
 have hlt:∀x ∈ p,x.block<W.heap.size:=fun x hx=>by simpa using hW'.lt x (by simpa using hx)
 have hA1:=hA
 have hbulk:Rows.uptoSmall H (ds ++ [])=true:=hcond _ rfl
 rw[List.append_nil] at hbulk
 replace hbulk:Rows.uptoBulkAll ds≤1048576:=of_decide_eq_true hbulk
 rw[Tryz.params7] at hA hval
 obtain⟨v0,v1,v2,v3,d0,d1,d2,d3,p0,p1,p2,p3,hargs,hds,hp,h0,h1,h2,h3⟩:=trodAll_four hA
 subst hargs
 have hdsb:=hds
 subst hds
 obtain⟨c0,x0,hv0,r0,s0⟩:=Jd (hval 0 _ v0 rfl rfl) h0
 have s0':=s0 (Nat.le_trans (fH (by simp)) hbulk)
 obtain⟨a1,x1,c1,hv1,r1,q1,m1,n1,s1⟩:=IL (hval 1 _ v1 rfl rfl) h1
 have s1':=s1 (Nat.le_trans (fH (by simp)) hbulk)
 obtain⟨c2,x2,hv2,r2,s2⟩:=iV (hval 2 _ v2 rfl rfl) h2
 have s2':=s2 (Nat.le_trans (fH (by simp)) hbulk)
 obtain⟨c3,x3,hv3,r3,s3⟩:=iV (hval 3 _ v3 rfl rfl) h3
 have s3':=s3 (Nat.le_trans (fH (by simp)) hbulk)
 subst hv0 hv1 hv2 hv3
 have hT:=FD hL (by kernel_rfl) (by kernel_rfl) (by kernel_rfl)
 have walk:=Je x0 c0 x1 a1 c1 x2 c2 x3 c3 W s0'.1 s0'.2 r0 s1'.1 ⟨q1,m1⟩ (fun x hx=>(s1'.2 x hx).1) r1 s2' r2 s3' r3 hT
 refine walk.mono ?_
 rintro en W' ⟨rfl,bel⟩
 refine⟨_,rfl,_,_,_,[],p,[],hW',?_,?_,?_,bel.frame _,fun h=>by cases h⟩
 ·exact trodAll_mk1 (shut_bool Tryz.underlying4 _)
 ·exact iY bel (by rw[Tryz.params7];intro t ht;simp at ht;first | (subst ht;exact⟨by kernel_rfl,of_decide_eq_true (by kernel_rfl)⟩) | (rcases ht with rfl | rfl<;>exact⟨by kernel_rfl,of_decide_eq_true (by kernel_rfl)⟩) | (rcases ht with rfl | rfl | rfl<;>exact⟨by kernel_rfl,of_decide_eq_true (by kernel_rfl)⟩) | (rcases ht with rfl | rfl | rfl | rfl<;>exact⟨by kernel_rfl,of_decide_eq_true (by kernel_rfl)⟩)) hA1 hlt
 ·exact hV
theorem placeback_andT {a b:Bool}(h:a=true)(k:b=true):(a && b)=true:=by rw[h,k];rfl
theorem placeback_closed:joinedFacts Tryz.prog 7 Tryz.f7 (Rows.OpenSpec.upto Rows.placeBackSpec).bare Rows.placeBackUptoRow=true:=by
 unfold joinedFacts
 refine placeback_andT (placeback_andT (placeback_andT (placeback_andT (placeback_andT (placeback_andT (placeback_andT (placeback_andT (placeback_andT (placeback_andT (placeback_andT (placeback_andT (placeback_andT (placeback_andT (placeback_andT (placeback_andT (placeback_andT (placeback_andT (placeback_andT (placeback_andT (placeback_andT (placeback_andT (placeback_andT (placeback_andT (placeback_andT (placeback_andT (placeback_andT (placeback_andT (placeback_andT (placeback_andT (placeback_andT ?_ ?_) ?_) ?_) ?_) ?_) ?_) ?_) ?_) ?_) ?_) ?_) ?_) ?_) ?_) ?_) ?_) ?_) ?_) ?_) ?_) ?_) ?_) ?_) ?_) ?_) ?_) ?_) ?_) ?_) ?_) ?_
 all_goals (as_aux_lemma=>kernel_rfl)
theorem placeback_said:Rows.PlaceBackUptoSaid :=
 OpenClaim.holds_of_cond 7 Tryz.f7 rfl rfl rfl rfl rfl rfl rfl ⟨rfl,rfl,rfl,rfl,rfl⟩ rfl rfl rfl rfl rfl (by kernel_rfl) Tryz.func7 placeback_closed
  (of_decide_eq_true (by kernel_rfl)) (by unfold Func.isWrapper;first | (rw[if_pos (by decide +kernel)];kernel_rfl) | (rw[if_neg (by decide +kernel)];exact⟨rfl,rfl⟩))
  (fun os started H enc _ F=>by rw[OpenClaim.pre_eq_preRow];exact placeback_lifted os started H enc F)
theorem placeback_plain (f:FuncId)(fn:Func)(hf:Tryz.pinned.checked.prog.funcNamed "lorgnette/lorgnettelaw12.PlaceBack"=some f)(hfn:Tryz.pinned.checked.prog.funcs[f]? = some fn) :
  true=Tryz.pinned.checked.prog.looks []∧∀(j:Nat) t,fn.params[j]? = some t→Tryz.pinned.checked.prog.wantsStandIn t=false:=by
 obtain rfl:f=7:=Option.some.inj ((show Tryz.prog.funcNamed "lorgnette/lorgnettelaw12.PlaceBack"=some 7 by kernel_rfl).symm.trans hf) |>.symm
 obtain rfl:fn=Tryz.f7:=(Option.some.inj (Tryz.func7.symm.trans hfn)).symm
 refine⟨by kernel_rfl,fun j t ht=>?_⟩
 have hm:t ∈ Tryz.f7.params:=Array.mem_of_getElem? ht
 rw[Tryz.params7] at hm
 simp at hm
 first
  | (subst hm;show Tryz.prog.wantsStandIn _=false;kernel_rfl)
  | (rcases hm with rfl | rfl<;>(show Tryz.prog.wantsStandIn _=false;kernel_rfl))
  | (rcases hm with rfl | rfl | rfl<;>(show Tryz.prog.wantsStandIn _=false;kernel_rfl))
  | (rcases hm with rfl | rfl | rfl | rfl<;>(show Tryz.prog.wantsStandIn _=false;kernel_rfl))
theorem PlaceBack_card:Rows.PlaceBackUptoCardSaid :=
 Claim7.holds_tied_plain_at .later [] _ _ _ _ placeback_said (fun _ h=>by cases h) (by as_aux_lemma=>kernel_rfl) (fun _ h=>by cases h) placeBackUpto_row_tie rfl ⟨rfl,rfl⟩ (by as_aux_lemma=>kernel_rfl) rfl placeback_plain (by as_aux_lemma=>kernel_rfl)
end Go.Proofs.YtcgbmmalfbpjaaaGreatDoor
