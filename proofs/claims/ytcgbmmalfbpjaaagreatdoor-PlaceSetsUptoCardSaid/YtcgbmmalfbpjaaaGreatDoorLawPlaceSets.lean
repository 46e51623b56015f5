/-  -/
import Derived.Test.YtcgbmmalfbpjaaaGreatDoorPe
import Derived.Test.YtcgbmmalfbpjaaaGreatDoorPl
import Derived.Test.YtcgbmmalfbpjaaaGreatDoorPg
set_option maxRecDepth 100000
set_option maxHeartbeats 16000000
namespace Go.Proofs.YtcgbmmalfbpjaaaGreatDoor
open Go.RowKit
theorem Jg (v:JV)(cv:List Value)(path:List JV)(pa:Option Addr)(pc:Nat)(x:JV)(cx:List Value)(w:World)(sv:SmallV v)(rv:RdV w cv v)(hp:path.length≤1048576)(hc:path.length≤pc∧pc≤9223372036854775807)(rp:RdA w pa path)(sx:x.arr.length≤1048576)(rx:RdV w cx x)(hT:Tabs w) :
  Calls Tryz.prog 5 #[.agg cv.toArray,.slice pa path.length pc,.agg cx.toArray] w fun en w'=>en=.returned (.bool true)∧Below w.heap.size w w':=by
 have hS:=hid fun W (hb:Below w.heap.size w W)=>uG W (hT.below hb)
 obtain⟨V1,e1',hV1⟩:∃V e,setPJ v path x=(V,e):=⟨_,_,rfl⟩
 obtain⟨k1,g1,a1,l1,c1,e1,s1,aa1,an1,ac1,oa1,on1,oc1,rfl⟩:=rv.seven
 obtain⟨k2,g2,a2,l2,c2,e2,s2,aa2,an2,ac2,oa2,on2,oc2,rfl⟩:=rx.seven
 obtain⟨W,hW⟩:∃W,W=(w.alloc (.cells #[.int .i64 k1,.bool g1,.slice a1 l1 c1,.int .i64 e1,.string ⟨s1.toArray⟩,.slice aa1 an1 ac1,.slice oa1 on1 oc1] 28)).alloc (.cells #[.int .i64 k2,.bool g2,.slice a2 l2 c2,.int .i64 e2,.string ⟨s2.toArray⟩,.slice aa2 an2 ac2,.slice oa2 on2 oc2] 28):=⟨_,rfl⟩
 have hst0:St w W [(w.heap.size+1,x),(w.heap.size,v)]:=by
  have h1:=St.add (l:=[]) (⟨Below.refl _ _,fun p hp=>by cases hp⟩:St w w []) (Below.refl _ _) rv
  have h2:=St.add h1 (Below.refl _ _) (rx.stay ((Below.refl w.heap.size w).alloc (Nat.le_refl _) _))
  rw[hW]
  simpa using h2
 have HT:=hid hT
 have hst:=hid hst0
 replace hW:=hid hW.symm
 replace hV1:=hid hV1
 clear hst0 rv rx hT
 show Calls _ _ #[valV k1 g1 a1 l1 c1 e1 s1 aa1 an1 ac1 oa1 on1 oc1,.slice pa path.length pc,valV k2 g2 a2 l2 c2 e2 s2 aa2 an2 ac2 oa2 on2 oc2] w _
 unfold valV strV
 replace rp:=hid rp
 replace hp:=hid hp
 replace hc:=hid hc
 generalize hpl:path.length=pl at *
 replace hpl:=hid hpl
 go_enter Tryz.func5,Tryz.ntmps5
 go_upto_region 1 with fail
 go_cut [7] from 13 (fun v9 w'=>v9=.bool true∧St w w' [(w.heap.size+1,x),(w.heap.size,v)])
 case first =>
  rw[hW.out]
  go_wp2_with fail
  refine (hS.out _ hst.out.1).mono ?_
  rintro en w1 ⟨rfl,hb⟩
  have q:=hid (hst.out.stay hb)
  clear hb
  go_wp2_with fail
  go_meet
  case rel=>exact⟨rfl,q.out⟩
 case rest =>
 obtain⟨rfl,g0⟩:=hcut
 replace hst:=hid g0
 clear g0 hS hW
 obtain⟨B1,hB1⟩:∃B1,B1=w.heap.size+1:=⟨_,rfl⟩
 rw[←hB1] at hst ⊢
 clear hB1
 go_upto_region 2 with fail
 go_cut [8,9] from 13 (fun v1 v2 w'=>NewJ w w' v1 v2 V1 e1' [(B1,x),(w.heap.size,v)])
 case first =>
  obtain⟨k1,g1,a1,l1,c1,e1,s1,aa1,an1,ac1,oa1,on1,oc1,⟨y10,y11,y12,y13,y14,y15,y16⟩,r1⟩:=hst.out.2 (w.heap.size,v) (by simp)
  obtain⟨k2,g2,a2,l2,c2,e2,s2,aa2,an2,ac2,oa2,on2,oc2,⟨y20,y21,y22,y23,y24,y25,y26⟩,r2⟩:=hst.out.2 (B1,x) (by simp)
  have C:=hid (by have h:=zI (BA NoA v path x _ _ pa pc wc xA sv sx (by rw[hpl.out];exact hp.out) (by rw[hpl.out];exact hc.out) (jR r1) (jR r2) (rp.out.below hst.out.1) (HT.out.below hst.out.1));rw[hV1.out] at h;rw[hpl.out] at h;exact h:Calls Tryz.prog 16 _ wc (OutV wc V1 e1'))
  go_wp2_with fail
  refine C.out.mono ?_
  rintro en w1 ⟨cs1,rfl,rr,hb⟩
  obtain⟨k9,g9,a9,l9,c9,e9,s9,aa9,an9,ac9,oa9,on9,oc9,rfl⟩:=rr.seven
  have hN:Hid (NewJ w _ (.pointer (some ⟨w1.heap.size,0,none⟩)) (.int .i64 e1') V1 e1' [(B1,x),(w.heap.size,v)]):=⟨w1.heap.size,rfl,rfl,hst.out.add hb rr⟩
  unfold valCs at hN
  clear hb rr C
  unfold valCs strV
  go_wp2_with fail
  go_meet
  case rel=>exact hN.out
 case rest =>
 obtain⟨b1,rfl,rfl,g0⟩:=hcut
 replace hst:=hid g0
 clear g0
 go_upto_region 3 with fail
 go_cut [10,11] from 13 (fun v1 v2 w'=>NewJ w w' v1 v2 V1 e1' [(b1,V1),(B1,x),(w.heap.size,v)])
 case first =>
  obtain⟨k1,g1,a1,l1,c1,e1,s1,aa1,an1,ac1,oa1,on1,oc1,⟨y10,y11,y12,y13,y14,y15,y16⟩,r1⟩:=hst.out.2 (w.heap.size,v) (by simp)
  obtain⟨k2,g2,a2,l2,c2,e2,s2,aa2,an2,ac2,oa2,on2,oc2,⟨y20,y21,y22,y23,y24,y25,y26⟩,r2⟩:=hst.out.2 (B1,x) (by simp)
  have C:=hid (by have h:=zI (JY NoA v path x _ _ pa pc wc xA sv sx (by rw[hpl.out];exact hp.out) (by rw[hpl.out];exact hc.out) (jR r1) (jR r2) (rp.out.below hst.out.1));rw[hV1.out] at h;rw[hpl.out] at h;exact h:Calls Tryz.prog 17 _ wc (OutV wc V1 e1'))
  go_wp2_with fail
  refine C.out.mono ?_
  rintro en w1 ⟨cs1,rfl,rr,hb⟩
  obtain⟨k9,g9,a9,l9,c9,e9,s9,aa9,an9,ac9,oa9,on9,oc9,rfl⟩:=rr.seven
  have hN:Hid (NewJ w _ (.pointer (some ⟨w1.heap.size,0,none⟩)) (.int .i64 e1') V1 e1' [(b1,V1),(B1,x),(w.heap.size,v)]):=⟨w1.heap.size,rfl,rfl,hst.out.add hb rr⟩
  unfold valCs at hN
  clear hb rr C
  unfold valCs strV
  go_wp2_with fail
  go_meet
  case rel=>exact hN.out
 case rest =>
 obtain⟨b2,rfl,rfl,g0⟩:=hcut
 replace hst:=hid g0
 clear g0
 go_upto_region 4 with fail
 go_cut [12] from 13 (fun v1 w'=>v1=.bool true∧St w w' [(b2,V1),(b1,V1),(B1,x),(w.heap.size,v)])
 case first =>
  obtain⟨k1,g1,a1,l1,c1,e1,s1,aa1,an1,ac1,oa1,on1,oc1,⟨y10,y11,y12,y13,y14,y15,y16⟩,r1⟩:=hst.out.2 (b1,V1) (by simp)
  obtain⟨k2,g2,a2,l2,c2,e2,s2,aa2,an2,ac2,oa2,on2,oc2,⟨y20,y21,y22,y23,y24,y25,y26⟩,r2⟩:=hst.out.2 (b2,V1) (by simp)
  have C1:=hid (by have h:=xC V1 V1 _ _ wc r1 r2;rw[jS rfl] at h;exact h:Calls Tryz.prog 13 _ wc fun en w'=>en=.returned (.bool true)∧Below wc.heap.size wc w')
  go_wp2_with fail
  refine C1.out.mono ?_
  rintro en w1 ⟨rfl,hb⟩
  replace hst:=hid (hst.out.stay hb)
  clear hb
  go_wp2_with fail
  go_meet
  case rel=>exact⟨rfl,hst.out⟩
 case rest =>
 obtain⟨rfl,g0⟩:=hcut
 replace hst:=hid g0
 clear g0
 have f1:((e1':Int) == (e1':Int))=true:=by rw[beq_iff_eq]
 go_wp2_with fail
 go_ret
 exact⟨by simp,hst.out.1⟩
end Go.Proofs.YtcgbmmalfbpjaaaGreatDoor
