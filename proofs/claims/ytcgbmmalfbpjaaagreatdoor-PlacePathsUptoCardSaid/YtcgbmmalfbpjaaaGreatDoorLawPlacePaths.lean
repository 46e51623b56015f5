/-  -/
import Derived.Test.YtcgbmmalfbpjaaaGreatDoorPathM
import Derived.Test.YtcgbmmalfbpjaaaGreatDoorPathR
import Derived.Test.YtcgbmmalfbpjaaaGreatDoorPg
set_option maxRecDepth 100000
set_option maxHeartbeats 16000000
namespace Go.Proofs.YtcgbmmalfbpjaaaGreatDoor
open Go.RowKit
theorem Ed {w:World}{a:Option Addr}{ps:List (List JV)}{A:Nat→Prop}(h:RdQ (hideW A w) a ps):RdQ w a ps:=fun i p hp=>by
 obtain⟨pb,po,q,c,e1,e2,e3,e4⟩:=h i p hp
 exact⟨pb,po,q,c,e1,(aI.1 e2).2,e3.sub (aC _ _),e4⟩
theorem iF {w w':World}{a:Option Addr}{ps:List (List JV)}(h:RdQ w a ps)(hb:Below w.heap.size w w'):RdQ w' a ps:=fun i p hp=>by
 obtain⟨pb,po,q,c,e1,e2,e3,e4⟩:=h i p hp
 exact⟨pb,po,q,c,e1,SubW.below hb _ _ e2,e3.below hb,e4⟩
theorem tq (xk:Int)(xg:Bool)(xa:Option Addr)(xl xc:Nat)(xe:Int)(xs:ByteArray)(xaa:Option Addr)(xan xac:Nat)(xoa:Option Addr)(xon xoc:Nat)(m:Bool)(ps:List (List JV))(n:Nat)(w:World)(hn:n=ps.length)(hnB:n≤1048576)
  (hS:∀W,Below w.heap.size w W→Calls Tryz.prog 10 #[] W fun e w'=>e=.returned (.bool true)∧Below W.heap.size W w')
  (hP:∀W,Below w.heap.size w W→Calls Tryz.prog 21 #[.agg #[.int .i64 xk,.bool xg,.slice xa xl xc,.int .i64 xe,.string xs,.slice xaa xan xac,.slice xoa xon xoc]] W (OutPaths W m ps))
  (hM:∀W,Below w.heap.size w W→Calls Tryz.prog 20 #[.agg #[.int .i64 xk,.bool xg,.slice xa xl xc,.int .i64 xe,.string xs,.slice xaa xan xac,.slice xoa xon xoc]] W fun e w'=>e=.returned (.bool m)∧Below W.heap.size W w')
  (hR:m=true→∀W,Below w.heap.size w W→Calls Tryz.prog 22 #[.agg #[.int .i64 xk,.bool xg,.slice xa xl xc,.int .i64 xe,.string xs,.slice xaa xan xac,.slice xoa xon xoc],.slice none 0 0] W (OutRP NoA W ps)) :
  Calls Tryz.prog 8 #[.agg #[.int .i64 xk,.bool xg,.slice xa xl xc,.int .i64 xe,.string xs,.slice xaa xan xac,.slice xoa xon xoc]] w fun en w'=>en=.returned (.bool true)∧Below w.heap.size w w':=by
 have hB0:=(Below.refl w.heap.size w).alloc (Nat.le_refl _) (.cells #[.int .i64 xk,.bool xg,.slice xa xl xc,.int .i64 xe,.string xs,.slice xaa xan xac,.slice xoa xon xoc] 28)
 have hX:=hid (aj w (.cells #[.int .i64 xk,.bool xg,.slice xa xl xc,.int .i64 xe,.string xs,.slice xaa xan xac,.slice xoa xon xoc] 28))
 obtain⟨W,hW⟩:∃W,W=w.alloc (.cells #[.int .i64 xk,.bool xg,.slice xa xl xc,.int .i64 xe,.string xs,.slice xaa xan xac,.slice xoa xon xoc] 28):=⟨_,rfl⟩
 rw[←hW] at hB0 hX
 have b0:=hid hB0
 have CS:=hid (hS W hB0)
 replace hW:=hid hW.symm
 replace hP:=hid hP
 replace hM:=hid hM
 replace hR:=hid hR
 have hn':=hid hn
 clear hB0 hS hn
 go_enter Tryz.func8,Tryz.ntmps8
 go_upto_region 1 with fail
 rw[hW.out]
 go_wp2_with fail
 refine CS.out.mono ?_
 rintro en w1 ⟨rfl,hb⟩
 have b1:=hid (ae b0.out hb)
 have x1:=hid (af hX.out hb)
 clear hb CS hX hW b0
 obtain⟨⟨p0,p1,p2,p3,p4,p5,p6⟩,_⟩:=ag x1.out
 have CP:=hid (hP.out w1 b1.out)
 clear hP
 go_wp2_with fail
 refine CP.out.mono ?_
 rintro en w2 ⟨hb,hcase⟩
 have b2:=hid (ae b1.out hb)
 have x2:=hid (af x1.out hb)
 clear hb CP b1 x1 p0 p1 p2 p3 p4 p5 p6
 obtain⟨⟨p0,p1,p2,p3,p4,p5,p6⟩,_⟩:=ag x2.out
 have CM:=hid (hM.out w2 b2.out)
 clear hM
 rcases hcase with ⟨rfl,rfl⟩ | ⟨rfl,a,c,rfl,hq,hc⟩
 ·clear hR
  go_wp2_with fail
  refine CM.out.mono ?_
  rintro en w3 ⟨rfl,hb⟩
  have b3:=hid (ae b2.out hb)
  clear hb CM p0 p1 p2 p3 p4 p5 p6
  go_wp2_with fail
  go_ret
  exact⟨by simp,b3.out⟩
 ·have hq':=hid (show RdQ w2 a ps from hq)
  rw[←hn'.out]
  clear hq hc
  go_wp2_with fail
  refine CM.out.mono ?_
  rintro en w3 ⟨rfl,hb⟩
  have b3:=hid (ae b2.out hb)
  have x3:=hid (af x2.out hb)
  have q3:=hid (iF hq'.out hb)
  have CR:=hid (hR.out (by simp) w3 b3.out)
  clear hb CM p0 p1 p2 p3 p4 p5 p6 hq' b2 x2 hR
  obtain⟨⟨p0,p1,p2,p3,p4,p5,p6⟩,_⟩:=ag x3.out
  go_wp2_with fail
  refine CR.out.mono ?_
  rintro en w4 ⟨a2,c2,rfl,r2,_,_,hb⟩
  have b4:=hid (ae b3.out hb)
  have q4:=hid (iF q3.out hb)
  have r4:=hid (Ed r2)
  clear r2 hb q3 x3 b3 p0 p1 p2 p3 p4 p5 p6 CR
  rw[←hn'.out]
  go_upto_region 9 with fail
  go_loopw [7] (fun v7 wr=>∃i:Nat,i≤n∧v7=.int .i64 i∧Hid (Below w4.heap.size w4 wr)) (fun v7 _=>n-(intOf v7).toNat)
  case atStart=>exact⟨0,Nat.zero_le _,rfl,hid (Below.refl _ _)⟩
  case round =>
   obtain⟨i,hi,rfl,hb⟩:=hrel
   by_cases hlt:i<n
   ·have hlt2:(i:Int)<(n:Int):=by omega
    have hi1:i<ps.length:=by rw[←hn'.out];exact hlt
    obtain⟨p,hp⟩:∃p,p=ps[i]:=⟨_,rfl⟩
    obtain⟨pb,po,q,cq,rfl,u0,ra,hc1,hc2⟩:=(iF q4.out hb.out) i p (by rw[hp];exact List.getElem?_eq_getElem hi1)
    obtain⟨pb2,po2,qq,cq2,rfl,u1,ra2,hc3,hc4⟩:=(iF r4.out hb.out) i p (by rw[hp];exact List.getElem?_eq_getElem hi1)
    have CC:=hid fun W' (hb':Below wr.heap.size wr W')=>by
     have h:=wB (arrJ p) (arrJ p) _ _ W' (vV rfl (ra.below hb') ⟨hc1,hc2⟩) (vV rfl (ra2.below hb') ⟨hc3,hc4⟩)
     rw[jH rfl] at h
     exact (h:Calls Tryz.prog 13 _ W' fun en w'=>en=.returned (.bool true)∧Below W'.heap.size W' w')
    obtain⟨pl,hpl⟩:∃pl,pl=p.length:=⟨_,rfl⟩
    rw[←hpl] at CC u0 u1
    clear hp hpl ra ra2 hc1 hc2 hc3 hc4 hi1
    go_upto_region 11 with fail
    go_cut [55] from 44 to 55 (fun v55 w'=>v55=.bool false∧Hid (Below wr.heap.size wr w'))
    case first =>
     go_region_law (go_simp;go_at_call 13;refine (CC.out _ ((Below.refl _ _).drew)).mono ?_;rintro en w5 ⟨rfl,hb5⟩;have q5:=hid (show Below wr.heap.size wr w5 from ae ((Below.refl wr.heap.size wr).drew) hb5);clear hb5)
     all_goals
      go_wp2_with fail
      go_meet
      case rel=>exact⟨rfl,q5.out⟩
    case rest =>
     obtain⟨rfl,g0⟩:=hcut
     have b5:=hid (ae hb.out g0.out)
     clear g0 hb CC u0 u1
     go_wp2_with fail
     go_roundw
     case rel=>exact⟨i+1,by omega,by go_num,b5⟩
     case measure=>simp[intOf];omega
   ·obtain rfl:i=n:=by omega
    have hlt2:¬ ((i:Nat):Int)<(i:Int):=by omega
    have hF:=hid (ae b4.out hb.out)
    clear hb
    go_wp2_with fail
    go_ret
    exact⟨rfl,hF.out⟩
theorem mg (v:JV)(cv:List Value)(w:World)(sv:SmallV v)(hc:cntJ 200 v≤1048576)(rv:RdV w cv v)(hT:Tabs w) :
  Calls Tryz.prog 8 #[.agg cv.toArray] w fun en w'=>en=.returned (.bool true)∧Below w.heap.size w w':=by
 have rv':=rv
 obtain⟨xk,xg,xa,xl,xc,xe,xs,xaa,xan,xac,xoa,xon,xoc,rfl⟩:=rv.sevenB
 exact tq xk xg xa xl xc xe xs xaa xan xac xoa xon xoc (mayJ 200 v) (pathsJ 200 v []) _ w rfl (by rw[fD];exact hc) (fun W hb=>tu W (hT.below hb)) (fun W hb=>tC v _ W sv hc (rv'.stay hb) (hT.below hb)) (fun W hb=>bQ v _ W (rv'.stay hb) (hT.below hb)) (fun h W hb=>tH v _ W NoA BX h sv hc (rv'.stay hb))
end Go.Proofs.YtcgbmmalfbpjaaaGreatDoor
