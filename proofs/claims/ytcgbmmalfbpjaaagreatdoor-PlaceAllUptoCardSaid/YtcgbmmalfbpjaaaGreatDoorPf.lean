/-  -/
import Derived.Test.YtcgbmmalfbpjaaaGreatDoorPd
import Derived.Test.YtcgbmmalfbpjaaaGreatDoorPe
set_option maxRecDepth 100000
set_option maxHeartbeats 16000000
namespace Go.Proofs.YtcgbmmalfbpjaaaGreatDoor
open Go.RowKit
theorem kN (xk:Int)(xg:Bool)(xa:Option Addr)(xl xc:Nat)(xe:Int)(xs:ByteArray)(xaa:Option Addr)(xan xac:Nat)(xoa:Option Addr)(xon xoc:Nat)(u:Value)(w:World)(Q:Ending→World→Prop)(h0:xk=0)
  (hn:∀W,Below w.heap.size w W→Q (.returned (.tuple #[.agg #[.int .i64 xk,.bool xg,.slice xa xl xc,.int .i64 xe,.string xs,.slice xaa xan xac,.slice xoa xon xoc],.int .i64 0])) (W.setCells (w.heap.size+1) 0 [.int .i64 xk,.bool xg,.slice xa xl xc,.int .i64 xe,.string xs,.slice xaa xan xac,.slice xoa xon xoc])) :
  Calls Tryz.prog 63 #[.agg #[.int .i64 xk,.bool xg,.slice xa xl xc,.int .i64 xe,.string xs,.slice xaa xan xac,.slice xoa xon xoc],.iface 73 u] w Q:=by
 subst h0
 replace hn:=hid hn
 obtain⟨W,hW⟩:∃W,W=(w.alloc (.cells #[.int .i64 0,.bool xg,.slice xa xl xc,.int .i64 xe,.string xs,.slice xaa xan xac,.slice xoa xon xoc] 28)).alloc (.cells #[.int .i64 0,.bool false,.slice none 0 0,.int .i64 0,.string ⟨#[]⟩,.slice none 0 0,.slice none 0 0] 28):=⟨_,rfl⟩
 obtain⟨b0,b1,b2⟩:=bG w #[.int .i64 0,.bool xg,.slice xa xl xc,.int .i64 xe,.string xs,.slice xaa xan xac,.slice xoa xon xoc] #[.int .i64 0,.bool false,.slice none 0 0,.int .i64 0,.string ⟨#[]⟩,.slice none 0 0,.slice none 0 0] 28 28
 rw[←hW] at b0 b1 b2
 have HB:=hid b0
 have HX:=hid b1
 have HZ:=hid b2
 replace hW:=hid hW.symm
 clear b0 b1 b2
 obtain⟨⟨p0,p1,p2,p3,p4,p5,p6⟩,_⟩:=ag HX.out
 obtain⟨⟨r0,r1,r2,r3,r4,r5,r6⟩,s0,s1,s2,s3,s4,s5,s6⟩:=ag HZ.out
 go_enter Tryz.func63,Tryz.ntmps63
 go_upto_region 1 with fail
 rw[hW.out]
 have hq:=hid (hn.out _ HB.out)
 clear hn
 go_wp2_with fail
 refine bodyPost_ret (v:=.tuple #[.agg #[.int .i64 0,.bool xg,.slice xa xl xc,.int .i64 xe,.string xs,.slice xaa xan xac,.slice xoa xon xoc],.int .i64 0]) (by simp[results,Tryz.results63,go_sem,r0,r1,r2,r3,r4,r5,r6]) rfl ?_
 exact hq.out
theorem kP (xk:Int)(xg:Bool)(xa:Option Addr)(xl xc:Nat)(xe:Int)(xs:ByteArray)(xaa:Option Addr)(xan xac:Nat)(xoa:Option Addr)(xon xoc:Nat)(u:Value)(w:World)(Q:Ending→World→Prop)(h0:xk=0)
  (hn:∀W,Below w.heap.size w W→Q (.returned (.tuple #[.agg #[.int .i64 xk,.bool xg,.slice xa xl xc,.int .i64 xe,.string xs,.slice xaa xan xac,.slice xoa xon xoc],.int .i64 0])) (W.setCells (w.heap.size+1) 0 [.int .i64 xk,.bool xg,.slice xa xl xc,.int .i64 xe,.string xs,.slice xaa xan xac,.slice xoa xon xoc])) :
  Calls Tryz.prog 63 #[.agg #[.int .i64 xk,.bool xg,.slice xa xl xc,.int .i64 xe,.string xs,.slice xaa xan xac,.slice xoa xon xoc],.iface 76 u] w Q:=by
 subst h0
 replace hn:=hid hn
 obtain⟨W,hW⟩:∃W,W=(w.alloc (.cells #[.int .i64 0,.bool xg,.slice xa xl xc,.int .i64 xe,.string xs,.slice xaa xan xac,.slice xoa xon xoc] 28)).alloc (.cells #[.int .i64 0,.bool false,.slice none 0 0,.int .i64 0,.string ⟨#[]⟩,.slice none 0 0,.slice none 0 0] 28):=⟨_,rfl⟩
 obtain⟨b0,b1,b2⟩:=bG w #[.int .i64 0,.bool xg,.slice xa xl xc,.int .i64 xe,.string xs,.slice xaa xan xac,.slice xoa xon xoc] #[.int .i64 0,.bool false,.slice none 0 0,.int .i64 0,.string ⟨#[]⟩,.slice none 0 0,.slice none 0 0] 28 28
 rw[←hW] at b0 b1 b2
 have HB:=hid b0
 have HX:=hid b1
 have HZ:=hid b2
 replace hW:=hid hW.symm
 clear b0 b1 b2
 obtain⟨⟨p0,p1,p2,p3,p4,p5,p6⟩,_⟩:=ag HX.out
 obtain⟨⟨r0,r1,r2,r3,r4,r5,r6⟩,s0,s1,s2,s3,s4,s5,s6⟩:=ag HZ.out
 go_enter Tryz.func63,Tryz.ntmps63
 go_upto_region 1 with fail
 rw[hW.out]
 have hq:=hid (hn.out _ HB.out)
 clear hn
 go_wp2_with fail
 refine bodyPost_ret (v:=.tuple #[.agg #[.int .i64 0,.bool xg,.slice xa xl xc,.int .i64 xe,.string xs,.slice xaa xan xac,.slice xoa xon xoc],.int .i64 0]) (by simp[results,Tryz.results63,go_sem,r0,r1,r2,r3,r4,r5,r6]) rfl ?_
 exact hq.out
theorem kQ (xk:Int)(xg:Bool)(xa:Option Addr)(xl xc:Nat)(xe:Int)(xs:ByteArray)(xaa:Option Addr)(xan xac:Nat)(xoa:Option Addr)(xon xoc:Nat)(u:Value)(w:World)(Q:Ending→World→Prop)(h0:xk=0)
  (hn:∀W,Below w.heap.size w W→Q (.returned (.tuple #[.agg #[.int .i64 xk,.bool xg,.slice xa xl xc,.int .i64 xe,.string xs,.slice xaa xan xac,.slice xoa xon xoc],.int .i64 0])) (W.setCells (w.heap.size+1) 0 [.int .i64 xk,.bool xg,.slice xa xl xc,.int .i64 xe,.string xs,.slice xaa xan xac,.slice xoa xon xoc])) :
  Calls Tryz.prog 63 #[.agg #[.int .i64 xk,.bool xg,.slice xa xl xc,.int .i64 xe,.string xs,.slice xaa xan xac,.slice xoa xon xoc],.iface 79 u] w Q:=by
 subst h0
 replace hn:=hid hn
 obtain⟨W,hW⟩:∃W,W=(w.alloc (.cells #[.int .i64 0,.bool xg,.slice xa xl xc,.int .i64 xe,.string xs,.slice xaa xan xac,.slice xoa xon xoc] 28)).alloc (.cells #[.int .i64 0,.bool false,.slice none 0 0,.int .i64 0,.string ⟨#[]⟩,.slice none 0 0,.slice none 0 0] 28):=⟨_,rfl⟩
 obtain⟨b0,b1,b2⟩:=bG w #[.int .i64 0,.bool xg,.slice xa xl xc,.int .i64 xe,.string xs,.slice xaa xan xac,.slice xoa xon xoc] #[.int .i64 0,.bool false,.slice none 0 0,.int .i64 0,.string ⟨#[]⟩,.slice none 0 0,.slice none 0 0] 28 28
 rw[←hW] at b0 b1 b2
 have HB:=hid b0
 have HX:=hid b1
 have HZ:=hid b2
 replace hW:=hid hW.symm
 clear b0 b1 b2
 obtain⟨⟨p0,p1,p2,p3,p4,p5,p6⟩,_⟩:=ag HX.out
 obtain⟨⟨r0,r1,r2,r3,r4,r5,r6⟩,s0,s1,s2,s3,s4,s5,s6⟩:=ag HZ.out
 go_enter Tryz.func63,Tryz.ntmps63
 go_upto_region 1 with fail
 rw[hW.out]
 have hq:=hid (hn.out _ HB.out)
 clear hn
 go_wp2_with fail
 refine bodyPost_ret (v:=.tuple #[.agg #[.int .i64 0,.bool xg,.slice xa xl xc,.int .i64 xe,.string xs,.slice xaa xan xac,.slice xoa xon xoc],.int .i64 0]) (by simp[results,Tryz.results63,go_sem,r0,r1,r2,r3,r4,r5,r6]) rfl ?_
 exact hq.out
theorem rF (xk:Int)(xg:Bool)(xa:Option Addr)(xl xc:Nat)(xe:Int)(xs:ByteArray)(xaa:Option Addr)(xan xac:Nat)(xoa:Option Addr)(xon xoc:Nat)(w:World)(Q:Ending→World→Prop)(h0:xk=0)
  (hn:∀W,Below w.heap.size w W→Q (.returned (.tuple #[.agg #[.int .i64 0,.bool false,.slice none 0 0,.int .i64 0,.string ⟨#[]⟩,.slice none 0 0,.slice none 0 0],.int .i64 9])) (W.setCells (w.heap.size+1) 0 [.int .i64 0,.bool false,.slice none 0 0,.int .i64 0,.string ⟨#[]⟩,.slice none 0 0,.slice none 0 0])) :
  Calls Tryz.prog 63 #[.agg #[.int .i64 xk,.bool xg,.slice xa xl xc,.int .i64 xe,.string xs,.slice xaa xan xac,.slice xoa xon xoc],.nilIface] w Q:=by
 subst h0
 replace hn:=hid hn
 obtain⟨W,hW⟩:∃W,W=(w.alloc (.cells #[.int .i64 0,.bool xg,.slice xa xl xc,.int .i64 xe,.string xs,.slice xaa xan xac,.slice xoa xon xoc] 28)).alloc (.cells #[.int .i64 0,.bool false,.slice none 0 0,.int .i64 0,.string ⟨#[]⟩,.slice none 0 0,.slice none 0 0] 28):=⟨_,rfl⟩
 obtain⟨b0,b1,b2⟩:=bG w #[.int .i64 0,.bool xg,.slice xa xl xc,.int .i64 xe,.string xs,.slice xaa xan xac,.slice xoa xon xoc] #[.int .i64 0,.bool false,.slice none 0 0,.int .i64 0,.string ⟨#[]⟩,.slice none 0 0,.slice none 0 0] 28 28
 rw[←hW] at b0 b1 b2
 have HB:=hid b0
 have HX:=hid b1
 have HZ:=hid b2
 replace hW:=hid hW.symm
 clear b0 b1 b2
 obtain⟨⟨p0,p1,p2,p3,p4,p5,p6⟩,_⟩:=ag HX.out
 obtain⟨⟨r0,r1,r2,r3,r4,r5,r6⟩,s0,s1,s2,s3,s4,s5,s6⟩:=ag HZ.out
 go_enter Tryz.func63,Tryz.ntmps63
 go_upto_region 1 with fail
 rw[hW.out]
 go_upto_region 4 with fail
 obtain⟨W2,hW2⟩:∃W2,W2=W.alloc (.cells #[.string ⟨#[]⟩] 73):=⟨_,rfl⟩
 have hb2:Below W.heap.size W W2:=by rw[hW2];exact (Below.refl W.heap.size W).alloc (Nat.le_refl _) _
 rw[←hW2]
 have hq:=hid (hn.out _ (ae HB.out hb2))
 have x2:=af HX.out hb2
 have z2:=af HZ.out hb2
 clear hn p0 p1 p2 p3 p4 p5 p6 r0 r1 r2 r3 r4 r5 r6 s0 s1 s2 s3 s4 s5 s6 hW2 hb2 HX HZ HB hW
 obtain⟨⟨p0,p1,p2,p3,p4,p5,p6⟩,_⟩:=ag x2
 obtain⟨⟨r0,r1,r2,r3,r4,r5,r6⟩,s0,s1,s2,s3,s4,s5,s6⟩:=ag z2
 clear x2 z2
 go_wp2_with fail
 refine bodyPost_ret (v:=.tuple #[.agg #[.int .i64 0,.bool false,.slice none 0 0,.int .i64 0,.string ⟨#[]⟩,.slice none 0 0,.slice none 0 0],.int .i64 9]) (by simp[results,Tryz.results63,go_sem,r0,r1,r2,r3,r4,r5,r6]) rfl ?_
 exact hq.out
theorem vH (xk:Int)(xg:Bool)(xa:Option Addr)(xl xc:Nat)(xe:Int)(xs:ByteArray)(xaa:Option Addr)(xan xac:Nat)(xoa:Option Addr)(xon xoc:Nat)(u:Value)(w:World)(Q:Ending→World→Prop)(h0:xk≠0)(h5:xk≠5)(hta:∀V,(Instr.typeAssert u 70 73 true).run Tryz.prog V=.ok (.tuple #[.agg #[.string ⟨#[]⟩],.bool false]) V)
  (hn:∀W,Below w.heap.size w W→Q (.returned (.tuple #[.agg #[.int .i64 0,.bool false,.slice none 0 0,.int .i64 0,.string ⟨#[]⟩,.slice none 0 0,.slice none 0 0],.int .i64 9])) (W.setCells (w.heap.size+1) 0 [.int .i64 0,.bool false,.slice none 0 0,.int .i64 0,.string ⟨#[]⟩,.slice none 0 0,.slice none 0 0])) :
  Calls Tryz.prog 63 #[.agg #[.int .i64 xk,.bool xg,.slice xa xl xc,.int .i64 xe,.string xs,.slice xaa xan xac,.slice xoa xon xoc],u] w Q:=by
 have f0:(xk == 0)=false:=by rw[beq_eq_false_iff_ne];exact h0
 have f5:(xk != 5)=true:=by rw[bne_iff_ne];exact h5
 clear h0 h5
 replace hn:=hid hn
 obtain⟨W,hW⟩:∃W,W=(w.alloc (.cells #[.int .i64 xk,.bool xg,.slice xa xl xc,.int .i64 xe,.string xs,.slice xaa xan xac,.slice xoa xon xoc] 28)).alloc (.cells #[.int .i64 0,.bool false,.slice none 0 0,.int .i64 0,.string ⟨#[]⟩,.slice none 0 0,.slice none 0 0] 28):=⟨_,rfl⟩
 obtain⟨b0,b1,b2⟩:=bG w #[.int .i64 xk,.bool xg,.slice xa xl xc,.int .i64 xe,.string xs,.slice xaa xan xac,.slice xoa xon xoc] #[.int .i64 0,.bool false,.slice none 0 0,.int .i64 0,.string ⟨#[]⟩,.slice none 0 0,.slice none 0 0] 28 28
 rw[←hW] at b0 b1 b2
 have HB:=hid b0
 have HX:=hid b1
 have HZ:=hid b2
 replace hW:=hid hW.symm
 clear b0 b1 b2
 obtain⟨⟨p0,p1,p2,p3,p4,p5,p6⟩,_⟩:=ag HX.out
 obtain⟨⟨r0,r1,r2,r3,r4,r5,r6⟩,s0,s1,s2,s3,s4,s5,s6⟩:=ag HZ.out
 go_enter Tryz.func63,Tryz.ntmps63
 go_upto_region 1 with fail
 rw[hW.out]
 go_upto_region 4 with fail
 obtain⟨W2,hW2⟩:∃W2,W2=W.alloc (.cells #[.string ⟨#[]⟩] 73):=⟨_,rfl⟩
 have hb2:Below W.heap.size W W2:=by rw[hW2];exact (Below.refl W.heap.size W).alloc (Nat.le_refl _) _
 rw[←hW2]
 have hq:=hid (hn.out _ (ae HB.out hb2))
 have x2:=af HX.out hb2
 have z2:=af HZ.out hb2
 clear hn p0 p1 p2 p3 p4 p5 p6 r0 r1 r2 r3 r4 r5 r6 s0 s1 s2 s3 s4 s5 s6 hW2 hb2 HX HZ HB hW
 obtain⟨⟨p0,p1,p2,p3,p4,p5,p6⟩,_⟩:=ag x2
 obtain⟨⟨r0,r1,r2,r3,r4,r5,r6⟩,s0,s1,s2,s3,s4,s5,s6⟩:=ag z2
 clear x2 z2
 go_wp2_with fail
 refine bodyPost_ret (v:=.tuple #[.agg #[.int .i64 0,.bool false,.slice none 0 0,.int .i64 0,.string ⟨#[]⟩,.slice none 0 0,.slice none 0 0],.int .i64 9]) (by simp[results,Tryz.results63,go_sem,r0,r1,r2,r3,r4,r5,r6]) rfl ?_
 exact hq.out
theorem rG (xk:Int)(xg:Bool)(xa:Option Addr)(xl xc:Nat)(xe:Int)(xs:ByteArray)(xaa:Option Addr)(xan xac:Nat)(xoa:Option Addr)(xon xoc:Nat)(w:World)(Q:Ending→World→Prop)(h5:xk=5)
  (hn:∀W,Below w.heap.size w W→Q (.returned (.tuple #[.agg #[.int .i64 0,.bool false,.slice none 0 0,.int .i64 0,.string ⟨#[]⟩,.slice none 0 0,.slice none 0 0],.int .i64 9])) (W.setCells (w.heap.size+1) 0 [.int .i64 0,.bool false,.slice none 0 0,.int .i64 0,.string ⟨#[]⟩,.slice none 0 0,.slice none 0 0])) :
  Calls Tryz.prog 63 #[.agg #[.int .i64 xk,.bool xg,.slice xa xl xc,.int .i64 xe,.string xs,.slice xaa xan xac,.slice xoa xon xoc],.nilIface] w Q:=by
 subst h5
 replace hn:=hid hn
 obtain⟨W,hW⟩:∃W,W=(w.alloc (.cells #[.int .i64 5,.bool xg,.slice xa xl xc,.int .i64 xe,.string xs,.slice xaa xan xac,.slice xoa xon xoc] 28)).alloc (.cells #[.int .i64 0,.bool false,.slice none 0 0,.int .i64 0,.string ⟨#[]⟩,.slice none 0 0,.slice none 0 0] 28):=⟨_,rfl⟩
 obtain⟨b0,b1,b2⟩:=bG w #[.int .i64 5,.bool xg,.slice xa xl xc,.int .i64 xe,.string xs,.slice xaa xan xac,.slice xoa xon xoc] #[.int .i64 0,.bool false,.slice none 0 0,.int .i64 0,.string ⟨#[]⟩,.slice none 0 0,.slice none 0 0] 28 28
 rw[←hW] at b0 b1 b2
 have HB:=hid b0
 have HX:=hid b1
 have HZ:=hid b2
 replace hW:=hid hW.symm
 clear b0 b1 b2
 obtain⟨⟨p0,p1,p2,p3,p4,p5,p6⟩,_⟩:=ag HX.out
 obtain⟨⟨r0,r1,r2,r3,r4,r5,r6⟩,s0,s1,s2,s3,s4,s5,s6⟩:=ag HZ.out
 go_enter Tryz.func63,Tryz.ntmps63
 go_upto_region 1 with fail
 rw[hW.out]
 go_upto_region 4 with fail
 obtain⟨W2,hW2⟩:∃W2,W2=W.alloc (.cells #[.string ⟨#[]⟩] 73):=⟨_,rfl⟩
 have hb2:Below W.heap.size W W2:=by rw[hW2];exact (Below.refl W.heap.size W).alloc (Nat.le_refl _) _
 rw[←hW2]
 have hq:=hid (hn.out _ (ae HB.out hb2))
 have x2:=af HX.out hb2
 have z2:=af HZ.out hb2
 clear hn p0 p1 p2 p3 p4 p5 p6 r0 r1 r2 r3 r4 r5 r6 s0 s1 s2 s3 s4 s5 s6 hW2 hb2 HX HZ HB hW
 obtain⟨⟨p0,p1,p2,p3,p4,p5,p6⟩,_⟩:=ag x2
 obtain⟨⟨r0,r1,r2,r3,r4,r5,r6⟩,s0,s1,s2,s3,s4,s5,s6⟩:=ag z2
 clear x2 z2
 go_wp2_with fail
 refine bodyPost_ret (v:=.tuple #[.agg #[.int .i64 0,.bool false,.slice none 0 0,.int .i64 0,.string ⟨#[]⟩,.slice none 0 0,.slice none 0 0],.int .i64 9]) (by simp[results,Tryz.results63,go_sem,r0,r1,r2,r3,r4,r5,r6]) rfl ?_
 exact hq.out
theorem vI (A:Nat→Prop)(xk:Int)(xg:Bool)(xa:Option Addr)(xl xc:Nat)(xe:Int)(xs:ByteArray)(xaa:Option Addr)(xan xac:Nat)(xoa:Option Addr)(xon xoc:Nat)(t:ByteArray)(r:JV)(er:Nat)(w:World)(hIn:In A w)(h0:xk≠0)
  (CW:∀W,Below w.heap.size w W→In (And1 A (w.heap.size+1)) W→Calls Tryz.prog 103 #[.agg #[.int .i64 xk,.bool xg,.slice xa xl xc,.int .i64 xe,.string xs,.slice xaa xan xac,.slice xoa xon xoc],.string t] W (OutX (And1 A (w.heap.size+1)) W r er)) :
  Calls Tryz.prog 63 #[.agg #[.int .i64 xk,.bool xg,.slice xa xl xc,.int .i64 xe,.string xs,.slice xaa xan xac,.slice xoa xon xoc],.iface 73 (.agg #[.string t])] w (OutX A w r er):=by
 have f0:(xk == 0)=false:=by rw[beq_eq_false_iff_ne];exact h0
 replace CW:=hid CW
 obtain⟨Q,hQ⟩:∃Q,Q=OutX A w r er:=⟨_,rfl⟩
 have hwN:Hid (w.heap.size≤w.heap.size+1):=by show w.heap.size≤_;omega
 have hput:=hid (show ∀W' z0 z1 z2 z3 z4 z5 z6,RdX (And1 A (w.heap.size+1)) W' [z0,z1,z2,z3,z4,z5,z6] r→Below w.heap.size w W'→Q (.returned (.tuple #[.agg #[z0,z1,z2,z3,z4,z5,z6],.int .i64 er])) (W'.setCells (w.heap.size+1) 0 [z0,z1,z2,z3,z4,z5,z6]) from fun W' z0 z1 z2 z3 z4 z5 z6 h1 h2=>by rw[hQ];exact aZ h1 h2 hwN.out)
 rw[←hQ]
 clear hQ h0
 obtain⟨W,hW⟩:∃W,W=(w.alloc (.cells #[.int .i64 xk,.bool xg,.slice xa xl xc,.int .i64 xe,.string xs,.slice xaa xan xac,.slice xoa xon xoc] 28)).alloc (.cells #[.int .i64 0,.bool false,.slice none 0 0,.int .i64 0,.string ⟨#[]⟩,.slice none 0 0,.slice none 0 0] 28):=⟨_,rfl⟩
 obtain⟨b0,b1,b2⟩:=bG w #[.int .i64 xk,.bool xg,.slice xa xl xc,.int .i64 xe,.string xs,.slice xaa xan xac,.slice xoa xon xoc] #[.int .i64 0,.bool false,.slice none 0 0,.int .i64 0,.string ⟨#[]⟩,.slice none 0 0,.slice none 0 0] 28 28
 rw[←hW] at b0 b1 b2
 have HB:=hid b0
 have HX:=hid b1
 have HZ:=hid b2
 replace hW:=hid hW.symm
 clear b0 b1 b2
 obtain⟨⟨p0,p1,p2,p3,p4,p5,p6⟩,_⟩:=ag HX.out
 obtain⟨⟨r0,r1,r2,r3,r4,r5,r6⟩,s0,s1,s2,s3,s4,s5,s6⟩:=ag HZ.out
 go_enter Tryz.func63,Tryz.ntmps63
 go_upto_region 1 with fail
 rw[hW.out]
 have HI:=hid (hIn.new HB.out (aA HZ.out))
 have hbA:=HB.out.alloc HB.out.size (.cells #[.string t] 73)
 have C:=hid (CW.out _ hbA (HI.out.next ((Below.refl W.heap.size W).alloc (Nat.le_refl _) _)))
 have hbA2:=hid hbA
 have hzA:=hid (af HZ.out ((Below.refl W.heap.size W).alloc (Nat.le_refl _) (.cells #[.string t] 73)))
 have hlt:=ax p0
 clear hbA hIn r0 r1 r2 r3 r4 r5 r6 s0 s1 s2 s3 s4 s5 s6
 go_wp2_with fail
 refine C.out.mono ?_
 rintro en w2 ⟨cs,rfl,hrd,hb⟩
 obtain⟨zk,zg,za,zl,zc,ze,zs,zaa,zan,zac,zoa,zon,zoc,rfl⟩:=RdV.sevenB hrd
 obtain⟨⟨r0,r1,r2,r3,r4,r5,r6⟩,s0,s1,s2,s3,s4,s5,s6⟩:=ag (af hzA.out hb)
 have hF:=hid (hput.out w2 _ _ _ _ _ _ _ hrd (ae hbA2.out hb))
 clear hb hrd hput C p0 p1 p2 p3 p4 p5 p6
 go_wp2_with fail
 refine bodyPost_ret (v:=.tuple #[.agg #[.int .i64 zk,.bool zg,.slice za zl zc,.int .i64 ze,.string zs,.slice zaa zan zac,.slice zoa zon zoc],.int .i64 er]) (by simp[results,Tryz.results63,go_sem,r0,r1,r2,r3,r4,r5,r6]) rfl ?_
 exact hF.out
theorem lM (xk:Int)(xg:Bool)(xa:Option Addr)(xl xc:Nat)(xe:Int)(xs:ByteArray)(xaa:Option Addr)(xan xac:Nat)(xoa:Option Addr)(xon xoc:Nat)(yk:Int)(yg:Bool)(ya:Option Addr)(yl yc:Nat)(ye:Int)(ys:ByteArray)(yaa:Option Addr)(yan yac:Nat)(yoa:Option Addr)(yon yoc:Nat)(zk:Int)(zg:Bool)(za:Option Addr)(zl zc:Nat)(ze:Int)(zs:ByteArray)(zaa:Option Addr)(zan zac:Nat)(zoa:Option Addr)(zon zoc:Nat)(F T E:Nat)(w:World)(Q:Ending→World→Prop)(h5:xk=5)(hE:E≠0)
  (CB:∀W,Below w.heap.size w W→Calls Tryz.prog 79 #[.agg #[.int .i64 yk,.bool yg,.slice ya yl yc,.int .i64 ye,.string ys,.slice yaa yan yac,.slice yoa yon yoc,.int .i64 zk,.bool zg,.slice za zl zc,.int .i64 ze,.string zs,.slice zaa zan zac,.slice zoa zon zoc],.int .i64 xan] W fun e w'=>e=.returned (.tuple #[.int .i64 F,.int .i64 T,.int .i64 E])∧Below W.heap.size W w')
  (hn:∀W,Below w.heap.size w W→Q (.returned (.tuple #[.agg #[.int .i64 0,.bool false,.slice none 0 0,.int .i64 0,.string ⟨#[]⟩,.slice none 0 0,.slice none 0 0],.int .i64 E])) (W.setCells (w.heap.size+1) 0 [.int .i64 0,.bool false,.slice none 0 0,.int .i64 0,.string ⟨#[]⟩,.slice none 0 0,.slice none 0 0])) :
  Calls Tryz.prog 63 #[.agg #[.int .i64 xk,.bool xg,.slice xa xl xc,.int .i64 xe,.string xs,.slice xaa xan xac,.slice xoa xon xoc],.iface 79 (.agg #[.int .i64 yk,.bool yg,.slice ya yl yc,.int .i64 ye,.string ys,.slice yaa yan yac,.slice yoa yon yoc,.int .i64 zk,.bool zg,.slice za zl zc,.int .i64 ze,.string zs,.slice zaa zan zac,.slice zoa zon zoc])] w Q:=by
 subst h5
 replace CB:=hid CB
 replace hn:=hid hn
 obtain⟨W,hW⟩:∃W,W=(w.alloc (.cells #[.int .i64 5,.bool xg,.slice xa xl xc,.int .i64 xe,.string xs,.slice xaa xan xac,.slice xoa xon xoc] 28)).alloc (.cells #[.int .i64 0,.bool false,.slice none 0 0,.int .i64 0,.string ⟨#[]⟩,.slice none 0 0,.slice none 0 0] 28):=⟨_,rfl⟩
 obtain⟨b0,b1,b2⟩:=bG w #[.int .i64 5,.bool xg,.slice xa xl xc,.int .i64 xe,.string xs,.slice xaa xan xac,.slice xoa xon xoc] #[.int .i64 0,.bool false,.slice none 0 0,.int .i64 0,.string ⟨#[]⟩,.slice none 0 0,.slice none 0 0] 28 28
 rw[←hW] at b0 b1 b2
 have HB:=hid b0
 have HX:=hid b1
 have HZ:=hid b2
 replace hW:=hid hW.symm
 clear b0 b1 b2
 obtain⟨⟨p0,p1,p2,p3,p4,p5,p6⟩,_⟩:=ag HX.out
 obtain⟨⟨r0,r1,r2,r3,r4,r5,r6⟩,s0,s1,s2,s3,s4,s5,s6⟩:=ag HZ.out
 go_enter Tryz.func63,Tryz.ntmps63
 go_upto_region 1 with fail
 rw[hW.out]
 have hbA:=hid ((HB.out.alloc HB.out.size (.cells #[.string ⟨#[]⟩] 73)).alloc (by have:=HB.out.size;simp;omega) (.cells #[.int .i64 yk,.bool yg,.slice ya yl yc,.int .i64 ye,.string ys,.slice yaa yan yac,.slice yoa yon yoc,.int .i64 zk,.bool zg,.slice za zl zc,.int .i64 ze,.string zs,.slice zaa zan zac,.slice zoa zon zoc] 79))
 have hbW:=hid ((((Below.refl W.heap.size W).alloc (Nat.le_refl _) (.cells #[.string ⟨#[]⟩] 73))).alloc (by simp) (.cells #[.int .i64 yk,.bool yg,.slice ya yl yc,.int .i64 ye,.string ys,.slice yaa yan yac,.slice yoa yon yoc,.int .i64 zk,.bool zg,.slice za zl zc,.int .i64 ze,.string zs,.slice zaa zan zac,.slice zoa zon zoc] 79))
 have x0:=hid (af HX.out hbW.out)
 have z0:=hid (af HZ.out hbW.out)
 have hlt:=ax p0
 go_wp2_with fail
 refine (CB.out _ hbA.out).mono ?_
 rintro en w1 ⟨rfl,hb⟩
 have q1:=hid (ae hbA.out hb)
 have z1:=hid (af z0.out hb)
 have x1:=hid (af x0.out hb)
 clear hb hbA hbW x0 z0 HB HX HZ hW p0 p1 p2 p3 p4 p5 p6 r0 r1 r2 r3 r4 r5 r6 s0 s1 s2 s3 s4 s5 s6 hlt CB
 obtain⟨⟨p0,p1,p2,p3,p4,p5,p6⟩,_⟩:=ag x1.out
 obtain⟨⟨r0,r1,r2,r3,r4,r5,r6⟩,s0,s1,s2,s3,s4,s5,s6⟩:=ag z1.out
 have g:((E:Int) != 0)=true:=by rw[bne_iff_ne];omega
 have hq:=hid (hn.out _ q1.out)
 clear hn hE
 go_wp2_with fail
 refine bodyPost_ret (v:=.tuple #[.agg #[.int .i64 0,.bool false,.slice none 0 0,.int .i64 0,.string ⟨#[]⟩,.slice none 0 0,.slice none 0 0],.int .i64 E]) (by simp[results,Tryz.results63,go_sem,r0,r1,r2,r3,r4,r5,r6]) rfl ?_
 exact hq.out
theorem vJ (xk:Int)(xg:Bool)(xa:Option Addr)(xl xc:Nat)(xe:Int)(xs:ByteArray)(xaa:Option Addr)(xan xac:Nat)(xoa:Option Addr)(xon xoc:Nat)(yk:Int)(yg:Bool)(ya:Option Addr)(yl yc:Nat)(ye:Int)(ys:ByteArray)(yaa:Option Addr)(yan yac:Nat)(yoa:Option Addr)(yon yoc:Nat)(zk:Int)(zg:Bool)(za:Option Addr)(zl zc:Nat)(ze:Int)(zs:ByteArray)(zaa:Option Addr)(zan zac:Nat)(zoa:Option Addr)(zon zoc:Nat)(F T S:Nat)(w:World)(Q:Ending→World→Prop)(R:World→Option Addr→Nat→Prop)(h5:xk=5)(hcap:xan≤xac∧xac≤9223372036854775807)(_hxl:xan≤274877906944)(hFT:F≤T)(hT:T≤xan)
  (CB:∀W,Below w.heap.size w W→Calls Tryz.prog 79 #[.agg #[.int .i64 yk,.bool yg,.slice ya yl yc,.int .i64 ye,.string ys,.slice yaa yan yac,.slice yoa yon yoc,.int .i64 zk,.bool zg,.slice za zl zc,.int .i64 ze,.string zs,.slice zaa zan zac,.slice zoa zon zoc],.int .i64 xan] W fun e w'=>e=.returned (.tuple #[.int .i64 F,.int .i64 T,.int .i64 0])∧Below W.heap.size W w')
  (CC:∀W b,Below w.heap.size w W→w.heap.size+1<W.heap.size→W.heap[b]? = some (.cells #[.slice xaa F xac,.slice (if xac=T then xaa else xaa.map (fun x=>x.add (T * 7))) (xan-T) (xac-T)] 25 (0,0))→Calls Tryz.prog 104 #[.slice (some ⟨b,0,none⟩) 2 2] W fun e w'=>∃(q:Option Addr) (c':Nat),e=.returned (.slice q S c')∧R w' q c'∧Below W.heap.size W w')
  (hR:∀W0 W q c,R W0 q c→Below w.heap.size w W0→Below W0.heap.size W0 W→Q (.returned (.tuple #[.agg #[.int .i64 5,.bool false,.slice none 0 0,.int .i64 0,.string ⟨#[]⟩,.slice q S c,.slice none 0 0],.int .i64 0])) (W.setCells (w.heap.size+1) 0 [.int .i64 5,.bool false,.slice none 0 0,.int .i64 0,.string ⟨#[]⟩,.slice q S c,.slice none 0 0])) :
  Calls Tryz.prog 63 #[.agg #[.int .i64 xk,.bool xg,.slice xa xl xc,.int .i64 xe,.string xs,.slice xaa xan xac,.slice xoa xon xoc],.iface 79 (.agg #[.int .i64 yk,.bool yg,.slice ya yl yc,.int .i64 ye,.string ys,.slice yaa yan yac,.slice yoa yon yoc,.int .i64 zk,.bool zg,.slice za zl zc,.int .i64 ze,.string zs,.slice zaa zan zac,.slice zoa zon zoc])] w Q:=by
 subst h5
 replace CB:=hid CB
 replace CC:=hid CC
 replace hR:=hid hR
 obtain⟨W,hW⟩:∃W,W=(w.alloc (.cells #[.int .i64 5,.bool xg,.slice xa xl xc,.int .i64 xe,.string xs,.slice xaa xan xac,.slice xoa xon xoc] 28)).alloc (.cells #[.int .i64 0,.bool false,.slice none 0 0,.int .i64 0,.string ⟨#[]⟩,.slice none 0 0,.slice none 0 0] 28):=⟨_,rfl⟩
 obtain⟨b0,b1,b2⟩:=bG w #[.int .i64 5,.bool xg,.slice xa xl xc,.int .i64 xe,.string xs,.slice xaa xan xac,.slice xoa xon xoc] #[.int .i64 0,.bool false,.slice none 0 0,.int .i64 0,.string ⟨#[]⟩,.slice none 0 0,.slice none 0 0] 28 28
 rw[←hW] at b0 b1 b2
 have HB:=hid b0
 have HX:=hid b1
 have HZ:=hid b2
 replace hW:=hid hW.symm
 clear b0 b1 b2
 obtain⟨⟨p0,p1,p2,p3,p4,p5,p6⟩,_⟩:=ag HX.out
 obtain⟨⟨r0,r1,r2,r3,r4,r5,r6⟩,s0,s1,s2,s3,s4,s5,s6⟩:=ag HZ.out
 go_enter Tryz.func63,Tryz.ntmps63
 go_upto_region 1 with fail
 rw[hW.out]
 have hbA:=hid ((HB.out.alloc HB.out.size (.cells #[.string ⟨#[]⟩] 73)).alloc (by have:=HB.out.size;simp;omega) (.cells #[.int .i64 yk,.bool yg,.slice ya yl yc,.int .i64 ye,.string ys,.slice yaa yan yac,.slice yoa yon yoc,.int .i64 zk,.bool zg,.slice za zl zc,.int .i64 ze,.string zs,.slice zaa zan zac,.slice zoa zon zoc] 79))
 have hbW:=hid ((((Below.refl W.heap.size W).alloc (Nat.le_refl _) (.cells #[.string ⟨#[]⟩] 73))).alloc (by simp) (.cells #[.int .i64 yk,.bool yg,.slice ya yl yc,.int .i64 ye,.string ys,.slice yaa yan yac,.slice yoa yon yoc,.int .i64 zk,.bool zg,.slice za zl zc,.int .i64 ze,.string zs,.slice zaa zan zac,.slice zoa zon zoc] 79))
 have x0:=hid (af HX.out hbW.out)
 have z0:=hid (af HZ.out hbW.out)
 have hlt:=ax p0
 go_wp2_with fail
 refine (CB.out _ hbA.out).mono ?_
 rintro en w1 ⟨rfl,hb⟩
 have q1:=hid (ae hbA.out hb)
 have z1:=hid (af z0.out hb)
 have x1:=hid (af x0.out hb)
 clear hb hbA hbW x0 z0 HB HX HZ hW p0 p1 p2 p3 p4 p5 p6 r0 r1 r2 r3 r4 r5 r6 s0 s1 s2 s3 s4 s5 s6 hlt CB
 obtain⟨⟨p0,p1,p2,p3,p4,p5,p6⟩,_⟩:=ag x1.out
 obtain⟨⟨r0,r1,r2,r3,r4,r5,r6⟩,s0,s1,s2,s3,s4,s5,s6⟩:=ag z1.out
 obtain⟨hc1,hc2⟩:=hcap
 have hTc:T≤xac:=by omega
 have hFc:F≤xac:=by omega
 go_upto_region 25 with fail
 have hx1:w.heap.size<w1.heap.size:=aA x1.out
 have hx2:w.heap.size≠w.heap.size+1:=by omega
 by_cases hcT:xac=T
 ·have C2:=CC.out (w1.alloc (.cells #[.slice xaa F T,.slice xaa (xan-T) 0] 25)).drew w1.heap.size ((q1.out.alloc q1.out.size _).drew) (Nat.lt_of_lt_of_le (aA z1.out) (show w1.heap.size≤(w1.alloc _).heap.size by simp)) (by rw[if_pos hcT,hcT,Nat.sub_self];exact aj w1 _)
  replace C2:=hid C2
  have hN:=hid (fun w3 w4 (h3:Below (w1.alloc (.cells #[.slice xaa F T,.slice xaa (xan-T) 0] 25)).drew.heap.size (w1.alloc (.cells #[.slice xaa F T,.slice xaa (xan-T) 0] 25)).drew w3) (h4:Below w3.heap.size w3 w4)=>ag (af (af (af z1.out (((Below.refl w1.heap.size w1).alloc (Nat.le_refl _) (.cells #[.slice xaa F T,.slice xaa (xan-T) 0] 25)).drew)) h3) h4))
  have hq2:=hid (fun w3 (h3:Below (w1.alloc (.cells #[.slice xaa F T,.slice xaa (xan-T) 0] 25)).drew.heap.size (w1.alloc (.cells #[.slice xaa F T,.slice xaa (xan-T) 0] 25)).drew w3)=>ae ((q1.out.alloc q1.out.size (.cells #[.slice xaa F T,.slice xaa (xan-T) 0] 25)).drew) h3)
  go_region_held3 (fun W'=>(∀b o,b<w1.heap.size→b≠(w.heap.size+1)→W'.cell? ⟨b,o,none⟩=w1.cell? ⟨b,o,none⟩)∧w1.heap.size≤W'.heap.size) (with_reducible first | exact dP _ _ | exact dm _ _ _ | exact dw _ (by assumption) | exact dA (by assumption) (by assumption) | exact dQ (by assumption) | assumption) (first | (go_at_call 104;(with_reducible refine C2.out.mono ?_);rintro e3 w3 ⟨q,c',rfl,hr,hb3⟩) | (go_at_call 34;(with_reducible refine (bz q S c' _).mono ?_);rintro e4 w4 ⟨rfl,hb4⟩;have mm:=hN.out _ _ hb3 hb4;obtain⟨⟨m0,m1,m2,m3,m4,m5,m6⟩,g0,g1,g2,g3,g4,g5,g6⟩:=mm))
  all_goals
   have hF:=hid (hR.out w3 w4 q c' hr (hq2.out _ hb3) hb4)
   clear hr hb3 hb4 hR C2 hN hq2 CC
   go_wp2_with fail
   refine bodyPost_ret (v:=.tuple #[.agg #[.int .i64 5,.bool false,.slice none 0 0,.int .i64 0,.string ⟨#[]⟩,.slice q S c',.slice none 0 0],.int .i64 0]) (by simp[results,Tryz.results63,go_sem,m0,m1,m2,m3,m4,m5,m6]) rfl ?_
   exact hF.out
 ·have C2:=CC.out (w1.alloc (.cells #[.slice xaa F xac,.slice (xaa.map (fun x=>x.add (T * 7))) (xan-T) (xac-T)] 25)).drew w1.heap.size ((q1.out.alloc q1.out.size _).drew) (Nat.lt_of_lt_of_le (aA z1.out) (show w1.heap.size≤(w1.alloc _).heap.size by simp)) (by rw[if_neg hcT];exact aj w1 _)
  replace C2:=hid C2
  have hN:=hid (fun w3 w4 (h3:Below (w1.alloc (.cells #[.slice xaa F xac,.slice (xaa.map (fun x=>x.add (T * 7))) (xan-T) (xac-T)] 25)).drew.heap.size (w1.alloc (.cells #[.slice xaa F xac,.slice (xaa.map (fun x=>x.add (T * 7))) (xan-T) (xac-T)] 25)).drew w3) (h4:Below w3.heap.size w3 w4)=>ag (af (af (af z1.out (((Below.refl w1.heap.size w1).alloc (Nat.le_refl _) (.cells #[.slice xaa F xac,.slice (xaa.map (fun x=>x.add (T * 7))) (xan-T) (xac-T)] 25)).drew)) h3) h4))
  have hq2:=hid (fun w3 (h3:Below (w1.alloc (.cells #[.slice xaa F xac,.slice (xaa.map (fun x=>x.add (T * 7))) (xan-T) (xac-T)] 25)).drew.heap.size (w1.alloc (.cells #[.slice xaa F xac,.slice (xaa.map (fun x=>x.add (T * 7))) (xan-T) (xac-T)] 25)).drew w3)=>ae ((q1.out.alloc q1.out.size (.cells #[.slice xaa F xac,.slice (xaa.map (fun x=>x.add (T * 7))) (xan-T) (xac-T)] 25)).drew) h3)
  go_region_held3 (fun W'=>(∀b o,b<w1.heap.size→b≠(w.heap.size+1)→W'.cell? ⟨b,o,none⟩=w1.cell? ⟨b,o,none⟩)∧w1.heap.size≤W'.heap.size) (with_reducible first | exact dP _ _ | exact dm _ _ _ | exact dw _ (by assumption) | exact dA (by assumption) (by assumption) | exact dQ (by assumption) | assumption) (first | (go_at_call 104;(with_reducible refine C2.out.mono ?_);rintro e3 w3 ⟨q,c',rfl,hr,hb3⟩) | (go_at_call 34;(with_reducible refine (bz q S c' _).mono ?_);rintro e4 w4 ⟨rfl,hb4⟩;have mm:=hN.out _ _ hb3 hb4;obtain⟨⟨m0,m1,m2,m3,m4,m5,m6⟩,g0,g1,g2,g3,g4,g5,g6⟩:=mm))
  all_goals
   have hF:=hid (hR.out w3 w4 q c' hr (hq2.out _ hb3) hb4)
   clear hr hb3 hb4 hR C2 hN hq2 CC
   go_wp2_with fail
   refine bodyPost_ret (v:=.tuple #[.agg #[.int .i64 5,.bool false,.slice none 0 0,.int .i64 0,.string ⟨#[]⟩,.slice q S c',.slice none 0 0],.int .i64 0]) (by simp[results,Tryz.results63,go_sem,m0,m1,m2,m3,m4,m5,m6]) rfl ?_
   exact hF.out
theorem lN (xk:Int)(xg:Bool)(xa:Option Addr)(xl xc:Nat)(xe:Int)(xs:ByteArray)(xaa:Option Addr)(xan xac:Nat)(xoa:Option Addr)(xon xoc:Nat)(yg:Bool)(ya:Option Addr)(yl yc:Nat)(ye:Int)(i:Int)(E:Nat)(w:World)(Q:Ending→World→Prop)(h5:xk=5)(hE:E≠0)
  (CA:∀W,Below w.heap.size w W→Calls Tryz.prog 78 #[.agg #[.bool yg,.slice ya yl yc,.int .i64 ye],.int .i64 xan] W fun e w'=>e=.returned (.tuple #[.int .i64 i,.int .i64 E])∧Below W.heap.size W w')
  (hn:∀W,Below w.heap.size w W→Q (.returned (.tuple #[.agg #[.int .i64 0,.bool false,.slice none 0 0,.int .i64 0,.string ⟨#[]⟩,.slice none 0 0,.slice none 0 0],.int .i64 E])) (W.setCells (w.heap.size+1) 0 [.int .i64 0,.bool false,.slice none 0 0,.int .i64 0,.string ⟨#[]⟩,.slice none 0 0,.slice none 0 0])) :
  Calls Tryz.prog 63 #[.agg #[.int .i64 xk,.bool xg,.slice xa xl xc,.int .i64 xe,.string xs,.slice xaa xan xac,.slice xoa xon xoc],.iface 76 (.agg #[.bool yg,.slice ya yl yc,.int .i64 ye])] w Q:=by
 subst h5
 replace CA:=hid CA
 replace hn:=hid hn
 obtain⟨W,hW⟩:∃W,W=(w.alloc (.cells #[.int .i64 5,.bool xg,.slice xa xl xc,.int .i64 xe,.string xs,.slice xaa xan xac,.slice xoa xon xoc] 28)).alloc (.cells #[.int .i64 0,.bool false,.slice none 0 0,.int .i64 0,.string ⟨#[]⟩,.slice none 0 0,.slice none 0 0] 28):=⟨_,rfl⟩
 obtain⟨b0,b1,b2⟩:=bG w #[.int .i64 5,.bool xg,.slice xa xl xc,.int .i64 xe,.string xs,.slice xaa xan xac,.slice xoa xon xoc] #[.int .i64 0,.bool false,.slice none 0 0,.int .i64 0,.string ⟨#[]⟩,.slice none 0 0,.slice none 0 0] 28 28
 rw[←hW] at b0 b1 b2
 have HB:=hid b0
 have HX:=hid b1
 have HZ:=hid b2
 replace hW:=hid hW.symm
 clear b0 b1 b2
 obtain⟨⟨p0,p1,p2,p3,p4,p5,p6⟩,_⟩:=ag HX.out
 obtain⟨⟨r0,r1,r2,r3,r4,r5,r6⟩,s0,s1,s2,s3,s4,s5,s6⟩:=ag HZ.out
 go_enter Tryz.func63,Tryz.ntmps63
 go_upto_region 1 with fail
 rw[hW.out]
 have hbA:=hid ((HB.out.alloc HB.out.size (.cells #[.string ⟨#[]⟩] 73)).alloc (by have:=HB.out.size;simp;omega) (.cells #[.bool yg,.slice ya yl yc,.int .i64 ye] 76))
 have hbW:=hid ((((Below.refl W.heap.size W).alloc (Nat.le_refl _) (.cells #[.string ⟨#[]⟩] 73))).alloc (by simp) (.cells #[.bool yg,.slice ya yl yc,.int .i64 ye] 76))
 have x0:=hid (af HX.out hbW.out)
 have z0:=hid (af HZ.out hbW.out)
 have hlt:=ax p0
 go_wp2_with fail
 refine (CA.out _ hbA.out).mono ?_
 rintro en w1 ⟨rfl,hb⟩
 have q1:=hid (ae hbA.out hb)
 have z1:=hid (af z0.out hb)
 have x1:=hid (af x0.out hb)
 clear hb hbA hbW x0 z0 HB HX HZ hW p0 p1 p2 p3 p4 p5 p6 r0 r1 r2 r3 r4 r5 r6 s0 s1 s2 s3 s4 s5 s6 hlt CA
 obtain⟨⟨p0,p1,p2,p3,p4,p5,p6⟩,_⟩:=ag x1.out
 obtain⟨⟨r0,r1,r2,r3,r4,r5,r6⟩,s0,s1,s2,s3,s4,s5,s6⟩:=ag z1.out
 have g:((E:Int) != 0)=true:=by rw[bne_iff_ne];omega
 have hq:=hid (hn.out _ q1.out)
 clear hn hE
 go_wp2_with fail
 refine bodyPost_ret (v:=.tuple #[.agg #[.int .i64 0,.bool false,.slice none 0 0,.int .i64 0,.string ⟨#[]⟩,.slice none 0 0,.slice none 0 0],.int .i64 E]) (by simp[results,Tryz.results63,go_sem,r0,r1,r2,r3,r4,r5,r6]) rfl ?_
 exact hq.out
theorem vK (xk:Int)(xg:Bool)(xa:Option Addr)(xl xc:Nat)(xe:Int)(xs:ByteArray)(xaa:Option Addr)(xan xac:Nat)(xoa:Option Addr)(xon xoc:Nat)(yg:Bool)(ya:Option Addr)(yl yc:Nat)(ye:Int)(i:Int)(F T S:Nat)(w:World)(Q:Ending→World→Prop)(R:World→Option Addr→Nat→Prop)(h5:xk=5)(hcap:xan≤xac∧xac≤9223372036854775807)(hxl:xan≤274877906944)(hFT:F≤T)(hT:T≤xan)
  (hi:0≤i∧i<(xan:Int)∧i=(F:Int)∧T=F+1)
  (CA:∀W,Below w.heap.size w W→Calls Tryz.prog 78 #[.agg #[.bool yg,.slice ya yl yc,.int .i64 ye],.int .i64 xan] W fun e w'=>e=.returned (.tuple #[.int .i64 i,.int .i64 0])∧Below W.heap.size W w')
  (CC:∀W b,Below w.heap.size w W→w.heap.size+1<W.heap.size→W.heap[b]? = some (.cells #[.slice xaa F xac,.slice (if xac=T then xaa else xaa.map (fun x=>x.add (T * 7))) (xan-T) (xac-T)] 25 (0,0))→Calls Tryz.prog 104 #[.slice (some ⟨b,0,none⟩) 2 2] W fun e w'=>∃(q:Option Addr) (c':Nat),e=.returned (.slice q S c')∧R w' q c'∧Below W.heap.size W w')
  (hR:∀W0 W q c,R W0 q c→Below w.heap.size w W0→Below W0.heap.size W0 W→Q (.returned (.tuple #[.agg #[.int .i64 5,.bool false,.slice none 0 0,.int .i64 0,.string ⟨#[]⟩,.slice q S c,.slice none 0 0],.int .i64 0])) (W.setCells (w.heap.size+1) 0 [.int .i64 5,.bool false,.slice none 0 0,.int .i64 0,.string ⟨#[]⟩,.slice q S c,.slice none 0 0])) :
  Calls Tryz.prog 63 #[.agg #[.int .i64 xk,.bool xg,.slice xa xl xc,.int .i64 xe,.string xs,.slice xaa xan xac,.slice xoa xon xoc],.iface 76 (.agg #[.bool yg,.slice ya yl yc,.int .i64 ye])] w Q:=by
 subst h5
 replace CA:=hid CA
 replace CC:=hid CC
 replace hR:=hid hR
 replace hi:=hid hi
 obtain⟨W,hW⟩:∃W,W=(w.alloc (.cells #[.int .i64 5,.bool xg,.slice xa xl xc,.int .i64 xe,.string xs,.slice xaa xan xac,.slice xoa xon xoc] 28)).alloc (.cells #[.int .i64 0,.bool false,.slice none 0 0,.int .i64 0,.string ⟨#[]⟩,.slice none 0 0,.slice none 0 0] 28):=⟨_,rfl⟩
 obtain⟨b0,b1,b2⟩:=bG w #[.int .i64 5,.bool xg,.slice xa xl xc,.int .i64 xe,.string xs,.slice xaa xan xac,.slice xoa xon xoc] #[.int .i64 0,.bool false,.slice none 0 0,.int .i64 0,.string ⟨#[]⟩,.slice none 0 0,.slice none 0 0] 28 28
 rw[←hW] at b0 b1 b2
 have HB:=hid b0
 have HX:=hid b1
 have HZ:=hid b2
 replace hW:=hid hW.symm
 clear b0 b1 b2
 obtain⟨⟨p0,p1,p2,p3,p4,p5,p6⟩,_⟩:=ag HX.out
 obtain⟨⟨r0,r1,r2,r3,r4,r5,r6⟩,s0,s1,s2,s3,s4,s5,s6⟩:=ag HZ.out
 go_enter Tryz.func63,Tryz.ntmps63
 go_upto_region 1 with fail
 rw[hW.out]
 obtain⟨hc1,hc2⟩:=hcap
 have hTc:T≤xac:=by omega
 have hFc:F≤xac:=by omega
 have hbA:=hid ((HB.out.alloc HB.out.size (.cells #[.string ⟨#[]⟩] 73)).alloc (by have:=HB.out.size;simp;omega) (.cells #[.bool yg,.slice ya yl yc,.int .i64 ye] 76))
 have hbW:=hid ((((Below.refl W.heap.size W).alloc (Nat.le_refl _) (.cells #[.string ⟨#[]⟩] 73))).alloc (by simp) (.cells #[.bool yg,.slice ya yl yc,.int .i64 ye] 76))
 have x0:=hid (af HX.out hbW.out)
 have z0:=hid (af HZ.out hbW.out)
 have hlt:=ax p0
 go_wp2_with fail
 refine (CA.out _ hbA.out).mono ?_
 rintro en w1 ⟨rfl,hb⟩
 have q1:=hid (ae hbA.out hb)
 have z1:=hid (af z0.out hb)
 have x1:=hid (af x0.out hb)
 clear hb hbA hbW x0 z0 HB HX HZ hW p0 p1 p2 p3 p4 p5 p6 r0 r1 r2 r3 r4 r5 r6 s0 s1 s2 s3 s4 s5 s6 hlt CA
 obtain⟨⟨p0,p1,p2,p3,p4,p5,p6⟩,_⟩:=ag x1.out
 obtain⟨⟨r0,r1,r2,r3,r4,r5,r6⟩,s0,s1,s2,s3,s4,s5,s6⟩:=ag z1.out
 obtain⟨h1,h2,h3,h4⟩:=hi.out
 have h5:i ≥ 0:=h1
 clear h1 hi
 subst h3
 replace h4:=hid h4
 go_upto_region 25 with fail
 rw[show Value.int .i64 ((F:Int)+1)=Value.int .i64 (T:Int) by rw[h4.out];rfl]
 have hx1:w.heap.size<w1.heap.size:=aA x1.out
 have hx2:w.heap.size≠w.heap.size+1:=by omega
 by_cases hcT:xac=T
 ·have C2:=CC.out (w1.alloc (.cells #[.slice xaa F T,.slice xaa (xan-T) 0] 25)).drew w1.heap.size ((q1.out.alloc q1.out.size _).drew) (Nat.lt_of_lt_of_le (aA z1.out) (show w1.heap.size≤(w1.alloc _).heap.size by simp)) (by rw[if_pos hcT,hcT,Nat.sub_self];exact aj w1 _)
  replace C2:=hid C2
  have hN:=hid (fun w3 w4 (h3:Below (w1.alloc (.cells #[.slice xaa F T,.slice xaa (xan-T) 0] 25)).drew.heap.size (w1.alloc (.cells #[.slice xaa F T,.slice xaa (xan-T) 0] 25)).drew w3) (h4:Below w3.heap.size w3 w4)=>ag (af (af (af z1.out (((Below.refl w1.heap.size w1).alloc (Nat.le_refl _) (.cells #[.slice xaa F T,.slice xaa (xan-T) 0] 25)).drew)) h3) h4))
  have hq2:=hid (fun w3 (h3:Below (w1.alloc (.cells #[.slice xaa F T,.slice xaa (xan-T) 0] 25)).drew.heap.size (w1.alloc (.cells #[.slice xaa F T,.slice xaa (xan-T) 0] 25)).drew w3)=>ae ((q1.out.alloc q1.out.size (.cells #[.slice xaa F T,.slice xaa (xan-T) 0] 25)).drew) h3)
  go_region_held3 (fun W'=>(∀b o,b<w1.heap.size→b≠(w.heap.size+1)→W'.cell? ⟨b,o,none⟩=w1.cell? ⟨b,o,none⟩)∧w1.heap.size≤W'.heap.size) (with_reducible first | exact dP _ _ | exact dm _ _ _ | exact dw _ (by assumption) | exact dA (by assumption) (by assumption) | exact dQ (by assumption) | assumption) (first | (go_at_call 104;(with_reducible refine C2.out.mono ?_);rintro e3 w3 ⟨q,c',rfl,hr,hb3⟩) | (go_at_call 34;(with_reducible refine (bz q S c' _).mono ?_);rintro e4 w4 ⟨rfl,hb4⟩;have mm:=hN.out _ _ hb3 hb4;obtain⟨⟨m0,m1,m2,m3,m4,m5,m6⟩,g0,g1,g2,g3,g4,g5,g6⟩:=mm))
  all_goals
   have hF:=hid (hR.out w3 w4 q c' hr (hq2.out _ hb3) hb4)
   clear hr hb3 hb4 hR C2 hN hq2 CC
   go_wp2_with fail
   refine bodyPost_ret (v:=.tuple #[.agg #[.int .i64 5,.bool false,.slice none 0 0,.int .i64 0,.string ⟨#[]⟩,.slice q S c',.slice none 0 0],.int .i64 0]) (by simp[results,Tryz.results63,go_sem,m0,m1,m2,m3,m4,m5,m6]) rfl ?_
   exact hF.out
 ·have C2:=CC.out (w1.alloc (.cells #[.slice xaa F xac,.slice (xaa.map (fun x=>x.add (T * 7))) (xan-T) (xac-T)] 25)).drew w1.heap.size ((q1.out.alloc q1.out.size _).drew) (Nat.lt_of_lt_of_le (aA z1.out) (show w1.heap.size≤(w1.alloc _).heap.size by simp)) (by rw[if_neg hcT];exact aj w1 _)
  replace C2:=hid C2
  have hN:=hid (fun w3 w4 (h3:Below (w1.alloc (.cells #[.slice xaa F xac,.slice (xaa.map (fun x=>x.add (T * 7))) (xan-T) (xac-T)] 25)).drew.heap.size (w1.alloc (.cells #[.slice xaa F xac,.slice (xaa.map (fun x=>x.add (T * 7))) (xan-T) (xac-T)] 25)).drew w3) (h4:Below w3.heap.size w3 w4)=>ag (af (af (af z1.out (((Below.refl w1.heap.size w1).alloc (Nat.le_refl _) (.cells #[.slice xaa F xac,.slice (xaa.map (fun x=>x.add (T * 7))) (xan-T) (xac-T)] 25)).drew)) h3) h4))
  have hq2:=hid (fun w3 (h3:Below (w1.alloc (.cells #[.slice xaa F xac,.slice (xaa.map (fun x=>x.add (T * 7))) (xan-T) (xac-T)] 25)).drew.heap.size (w1.alloc (.cells #[.slice xaa F xac,.slice (xaa.map (fun x=>x.add (T * 7))) (xan-T) (xac-T)] 25)).drew w3)=>ae ((q1.out.alloc q1.out.size (.cells #[.slice xaa F xac,.slice (xaa.map (fun x=>x.add (T * 7))) (xan-T) (xac-T)] 25)).drew) h3)
  go_region_held3 (fun W'=>(∀b o,b<w1.heap.size→b≠(w.heap.size+1)→W'.cell? ⟨b,o,none⟩=w1.cell? ⟨b,o,none⟩)∧w1.heap.size≤W'.heap.size) (with_reducible first | exact dP _ _ | exact dm _ _ _ | exact dw _ (by assumption) | exact dA (by assumption) (by assumption) | exact dQ (by assumption) | assumption) (first | (go_at_call 104;(with_reducible refine C2.out.mono ?_);rintro e3 w3 ⟨q,c',rfl,hr,hb3⟩) | (go_at_call 34;(with_reducible refine (bz q S c' _).mono ?_);rintro e4 w4 ⟨rfl,hb4⟩;have mm:=hN.out _ _ hb3 hb4;obtain⟨⟨m0,m1,m2,m3,m4,m5,m6⟩,g0,g1,g2,g3,g4,g5,g6⟩:=mm))
  all_goals
   have hF:=hid (hR.out w3 w4 q c' hr (hq2.out _ hb3) hb4)
   clear hr hb3 hb4 hR C2 hN hq2 CC
   go_wp2_with fail
   refine bodyPost_ret (v:=.tuple #[.agg #[.int .i64 5,.bool false,.slice none 0 0,.int .i64 0,.string ⟨#[]⟩,.slice q S c',.slice none 0 0],.int .i64 0]) (by simp[results,Tryz.results63,go_sem,m0,m1,m2,m3,m4,m5,m6]) rfl ?_
   exact hF.out
theorem rH (xk:Int)(xg:Bool)(xa:Option Addr)(xl xc:Nat)(xe:Int)(xs:ByteArray)(xaa:Option Addr)(xan xac:Nat)(xoa:Option Addr)(xon xoc:Nat)(yg:Bool)(ya:Option Addr)(yl yc:Nat)(ye:Int)(i:Int)(S:Nat)(w:World)(Q:Ending→World→Prop)(R:World→Option Addr→Nat→Prop)(h5:xk=5)(hcap:xan≤xac∧xac≤9223372036854775807)(_hxl:xan≤274877906944)
  (hi:¬ (0≤i∧i<(xan:Int)))
  (CA:∀W,Below w.heap.size w W→Calls Tryz.prog 78 #[.agg #[.bool yg,.slice ya yl yc,.int .i64 ye],.int .i64 xan] W fun e w'=>e=.returned (.tuple #[.int .i64 i,.int .i64 0])∧Below W.heap.size W w')
  (CC:∀W b,Below w.heap.size w W→w.heap.size+1<W.heap.size→W.heap[b]? = some (.cells #[.slice xaa 0 xac,.slice xaa xan xac] 25 (0,0))→Calls Tryz.prog 104 #[.slice (some ⟨b,0,none⟩) 2 2] W fun e w'=>∃(q:Option Addr) (c':Nat),e=.returned (.slice q S c')∧R w' q c'∧Below W.heap.size W w')
  (hR:∀W0 W q c,R W0 q c→Below w.heap.size w W0→Below W0.heap.size W0 W→Q (.returned (.tuple #[.agg #[.int .i64 5,.bool false,.slice none 0 0,.int .i64 0,.string ⟨#[]⟩,.slice q S c,.slice none 0 0],.int .i64 0])) (W.setCells (w.heap.size+1) 0 [.int .i64 5,.bool false,.slice none 0 0,.int .i64 0,.string ⟨#[]⟩,.slice q S c,.slice none 0 0])) :
  Calls Tryz.prog 63 #[.agg #[.int .i64 xk,.bool xg,.slice xa xl xc,.int .i64 xe,.string xs,.slice xaa xan xac,.slice xoa xon xoc],.iface 76 (.agg #[.bool yg,.slice ya yl yc,.int .i64 ye])] w Q:=by
 subst h5
 replace CA:=hid CA
 replace CC:=hid CC
 replace hR:=hid hR
 replace hi:=hid hi
 obtain⟨W,hW⟩:∃W,W=(w.alloc (.cells #[.int .i64 5,.bool xg,.slice xa xl xc,.int .i64 xe,.string xs,.slice xaa xan xac,.slice xoa xon xoc] 28)).alloc (.cells #[.int .i64 0,.bool false,.slice none 0 0,.int .i64 0,.string ⟨#[]⟩,.slice none 0 0,.slice none 0 0] 28):=⟨_,rfl⟩
 obtain⟨b0,b1,b2⟩:=bG w #[.int .i64 5,.bool xg,.slice xa xl xc,.int .i64 xe,.string xs,.slice xaa xan xac,.slice xoa xon xoc] #[.int .i64 0,.bool false,.slice none 0 0,.int .i64 0,.string ⟨#[]⟩,.slice none 0 0,.slice none 0 0] 28 28
 rw[←hW] at b0 b1 b2
 have HB:=hid b0
 have HX:=hid b1
 have HZ:=hid b2
 replace hW:=hid hW.symm
 clear b0 b1 b2
 obtain⟨⟨p0,p1,p2,p3,p4,p5,p6⟩,_⟩:=ag HX.out
 obtain⟨⟨r0,r1,r2,r3,r4,r5,r6⟩,s0,s1,s2,s3,s4,s5,s6⟩:=ag HZ.out
 go_enter Tryz.func63,Tryz.ntmps63
 go_upto_region 1 with fail
 rw[hW.out]
 obtain⟨hc1,hc2⟩:=hcap
 have hbA:=hid ((HB.out.alloc HB.out.size (.cells #[.string ⟨#[]⟩] 73)).alloc (by have:=HB.out.size;simp;omega) (.cells #[.bool yg,.slice ya yl yc,.int .i64 ye] 76))
 have hbW:=hid ((((Below.refl W.heap.size W).alloc (Nat.le_refl _) (.cells #[.string ⟨#[]⟩] 73))).alloc (by simp) (.cells #[.bool yg,.slice ya yl yc,.int .i64 ye] 76))
 have x0:=hid (af HX.out hbW.out)
 have z0:=hid (af HZ.out hbW.out)
 have hlt:=ax p0
 go_wp2_with fail
 refine (CA.out _ hbA.out).mono ?_
 rintro en w1 ⟨rfl,hb⟩
 have q1:=hid (ae hbA.out hb)
 have z1:=hid (af z0.out hb)
 have x1:=hid (af x0.out hb)
 clear hb hbA hbW x0 z0 HB HX HZ hW p0 p1 p2 p3 p4 p5 p6 r0 r1 r2 r3 r4 r5 r6 s0 s1 s2 s3 s4 s5 s6 hlt CA
 obtain⟨⟨p0,p1,p2,p3,p4,p5,p6⟩,_⟩:=ag x1.out
 obtain⟨⟨r0,r1,r2,r3,r4,r5,r6⟩,s0,s1,s2,s3,s4,s5,s6⟩:=ag z1.out
 have hx1:w.heap.size<w1.heap.size:=aA x1.out
 have hx2:w.heap.size≠w.heap.size+1:=by omega
 by_cases h2:i<0
 ·have h5:¬ (i ≥ 0):=by omega
  clear hi
  go_upto_region 25 with fail
  have C2:=CC.out (w1.alloc (.cells #[.slice xaa 0 xac,.slice xaa xan xac] 25)).drew w1.heap.size ((q1.out.alloc q1.out.size _).drew) (Nat.lt_of_lt_of_le (aA z1.out) (show w1.heap.size≤(w1.alloc _).heap.size by simp)) (by exact aj w1 _)
  replace C2:=hid C2
  have hN:=hid (fun w3 w4 (h3:Below (w1.alloc (.cells #[.slice xaa 0 xac,.slice xaa xan xac] 25)).drew.heap.size (w1.alloc (.cells #[.slice xaa 0 xac,.slice xaa xan xac] 25)).drew w3) (h4:Below w3.heap.size w3 w4)=>ag (af (af (af z1.out (((Below.refl w1.heap.size w1).alloc (Nat.le_refl _) (.cells #[.slice xaa 0 xac,.slice xaa xan xac] 25)).drew)) h3) h4))
  have hq2:=hid (fun w3 (h3:Below (w1.alloc (.cells #[.slice xaa 0 xac,.slice xaa xan xac] 25)).drew.heap.size (w1.alloc (.cells #[.slice xaa 0 xac,.slice xaa xan xac] 25)).drew w3)=>ae ((q1.out.alloc q1.out.size (.cells #[.slice xaa 0 xac,.slice xaa xan xac] 25)).drew) h3)
  go_region_held3 (fun W'=>(∀b o,b<w1.heap.size→b≠(w.heap.size+1)→W'.cell? ⟨b,o,none⟩=w1.cell? ⟨b,o,none⟩)∧w1.heap.size≤W'.heap.size) (with_reducible first | exact dP _ _ | exact dm _ _ _ | exact dw _ (by assumption) | exact dA (by assumption) (by assumption) | exact dQ (by assumption) | assumption) (first | (go_at_call 104;(with_reducible refine C2.out.mono ?_);rintro e3 w3 ⟨q,c',rfl,hr,hb3⟩) | (go_at_call 34;(with_reducible refine (bz q S c' _).mono ?_);rintro e4 w4 ⟨rfl,hb4⟩;have mm:=hN.out _ _ hb3 hb4;obtain⟨⟨m0,m1,m2,m3,m4,m5,m6⟩,g0,g1,g2,g3,g4,g5,g6⟩:=mm))
  all_goals
   have hF:=hid (hR.out w3 w4 q c' hr (hq2.out _ hb3) hb4)
   clear hr hb3 hb4 hR C2 hN hq2 CC
   go_wp2_with fail
   refine bodyPost_ret (v:=.tuple #[.agg #[.int .i64 5,.bool false,.slice none 0 0,.int .i64 0,.string ⟨#[]⟩,.slice q S c',.slice none 0 0],.int .i64 0]) (by simp[results,Tryz.results63,go_sem,m0,m1,m2,m3,m4,m5,m6]) rfl ?_
   exact hF.out
 ·have h5:i ≥ 0:=by omega
  have h6:¬ (i<(xan:Int)):=by have:=hi.out;omega
  clear h2 hi
  go_upto_region 25 with fail
  have C2:=CC.out (w1.alloc (.cells #[.slice xaa 0 xac,.slice xaa xan xac] 25)).drew w1.heap.size ((q1.out.alloc q1.out.size _).drew) (Nat.lt_of_lt_of_le (aA z1.out) (show w1.heap.size≤(w1.alloc _).heap.size by simp)) (by exact aj w1 _)
  replace C2:=hid C2
  have hN:=hid (fun w3 w4 (h3:Below (w1.alloc (.cells #[.slice xaa 0 xac,.slice xaa xan xac] 25)).drew.heap.size (w1.alloc (.cells #[.slice xaa 0 xac,.slice xaa xan xac] 25)).drew w3) (h4:Below w3.heap.size w3 w4)=>ag (af (af (af z1.out (((Below.refl w1.heap.size w1).alloc (Nat.le_refl _) (.cells #[.slice xaa 0 xac,.slice xaa xan xac] 25)).drew)) h3) h4))
  have hq2:=hid (fun w3 (h3:Below (w1.alloc (.cells #[.slice xaa 0 xac,.slice xaa xan xac] 25)).drew.heap.size (w1.alloc (.cells #[.slice xaa 0 xac,.slice xaa xan xac] 25)).drew w3)=>ae ((q1.out.alloc q1.out.size (.cells #[.slice xaa 0 xac,.slice xaa xan xac] 25)).drew) h3)
  go_region_held3 (fun W'=>(∀b o,b<w1.heap.size→b≠(w.heap.size+1)→W'.cell? ⟨b,o,none⟩=w1.cell? ⟨b,o,none⟩)∧w1.heap.size≤W'.heap.size) (with_reducible first | exact dP _ _ | exact dm _ _ _ | exact dw _ (by assumption) | exact dA (by assumption) (by assumption) | exact dQ (by assumption) | assumption) (first | (go_at_call 104;(with_reducible refine C2.out.mono ?_);rintro e3 w3 ⟨q,c',rfl,hr,hb3⟩) | (go_at_call 34;(with_reducible refine (bz q S c' _).mono ?_);rintro e4 w4 ⟨rfl,hb4⟩;have mm:=hN.out _ _ hb3 hb4;obtain⟨⟨m0,m1,m2,m3,m4,m5,m6⟩,g0,g1,g2,g3,g4,g5,g6⟩:=mm))
  all_goals
   have hF:=hid (hR.out w3 w4 q c' hr (hq2.out _ hb3) hb4)
   clear hr hb3 hb4 hR C2 hN hq2 CC
   go_wp2_with fail
   refine bodyPost_ret (v:=.tuple #[.agg #[.int .i64 5,.bool false,.slice none 0 0,.int .i64 0,.string ⟨#[]⟩,.slice q S c',.slice none 0 0],.int .i64 0]) (by simp[results,Tryz.results63,go_sem,m0,m1,m2,m3,m4,m5,m6]) rfl ?_
   exact hF.out
theorem rJ {v:JV}{t:List UInt8}(h0:v.kind≠0):withoutS v (.key t)=withoutR v t:=by
 unfold withoutS
 rw[if_neg (fun h=>h0 h.1)]
theorem rM {v:JV}{s:StepJ}(h0:v.kind≠0)(hk:∀t,s≠.key t):withoutS v s=if v.kind≠5 then (.null,9) else if (cutJ v.arr s).2.2≠0 then (.null,(cutJ v.arr s).2.2) else (arrJ (v.arr.take (cutJ v.arr s).1 ++ v.arr.drop (cutJ v.arr s).2.1),0):=by
 unfold withoutS
 rw[if_neg (fun h=>h0 h.1)]
 cases s with
 | key t=>exact absurd rfl (hk t)
 | _=>rfl
theorem oM (A:Nat→Prop)(v:JV)(s:StepJ)(u:Value)(cs:List Value)(w:World)(hIn:In A w)(sv:SmallV v)(rv:RdX A w cs v)(hs:StepV w u s)(hT:Tabs w) :
  Calls Tryz.prog 63 #[.agg cs.toArray,u] w (OutX A w (withoutS v s).1 (withoutS v s).2):=by
 have rv0:=rv
 have hal:=sv.al
 have CW:=fun (t:List UInt8) (hl:t.length≤9223372036854775807) W (hb:Below w.heap.size w W) (hi:In (And1 A (w.heap.size+1)) W)=>oz (And1 A (w.heap.size+1)) v cs t W hl sv hi (RdV.sub rv (az (A':=And1 A (w.heap.size+1)) (fun n hn h=>h.elim id fun e=>by omega) hb)) (hT.below hb)
 obtain⟨va,vc,aa,ac,oa,oc,P⟩:=RdV.parts rv
 have e:=P.cells
 subst e
 have hcat:∀F T,F≤T→T≤v.arr.length→∀W b,Below w.heap.size w W→w.heap.size+1<W.heap.size→W.heap[b]? = some (.cells #[.slice aa F ac,.slice (if ac=T then aa else aa.map (fun x=>x.add (T * 7))) (v.arr.length-T) (ac-T)] 25 (0,0))→Calls Tryz.prog 104 #[.slice (some ⟨b,0,none⟩) 2 2] W fun e w'=>∃(q:Option Addr) (c':Nat),e=.returned (.slice q (v.arr.take F ++ v.arr.drop T).length c')∧(RdA (hideW (And1 A (w.heap.size+1)) w') q (v.arr.take F ++ v.arr.drop T)∧((v.arr.take F ++ v.arr.drop T).length≤c'∧c'≤9223372036854775807))∧Below W.heap.size W w':=by
  intro F T hFT hT W b hb hlt hblk
  have hsub:=az (A:=A) (A':=And1 A (w.heap.size+1)) (fun n hn h=>h.elim id fun e=>by omega) hb
  exact yS (And1 A (w.heap.size+1)) b aa _ _ _ ac (ac-T) _ _ W (hIn.new hb hlt) hblk (by rw[List.length_take];omega) (by rw[List.length_drop]) (by omega) (by omega) ((P.arr.take _).sub hsub) ((yR P.arr P.ac.1).sub hsub)
 have hcat0:∀W b,Below w.heap.size w W→w.heap.size+1<W.heap.size→W.heap[b]? = some (.cells #[.slice aa 0 ac,.slice aa v.arr.length ac] 25 (0,0))→Calls Tryz.prog 104 #[.slice (some ⟨b,0,none⟩) 2 2] W fun e w'=>∃(q:Option Addr) (c':Nat),e=.returned (.slice q v.arr.length c')∧(RdA (hideW (And1 A (w.heap.size+1)) w') q v.arr∧(v.arr.length≤c'∧c'≤9223372036854775807))∧Below W.heap.size W w':=by
  intro W b hb hlt hblk
  have hsub:=az (A:=A) (A':=And1 A (w.heap.size+1)) (fun n hn h=>h.elim id fun e=>by omega) hb
  exact yS (And1 A (w.heap.size+1)) b aa aa 0 v.arr.length ac ac [] v.arr W (hIn.new hb hlt) hblk rfl rfl (by omega) (by omega) (fun i x hx=>by simp at hx) (P.arr.sub hsub)
 have hput:∀(l:List JV) (W0 W:World) (q:Option Addr) (c:Nat),(RdA (hideW (And1 A (w.heap.size+1)) W0) q l∧(l.length≤c∧c≤9223372036854775807))→Below w.heap.size w W0→Below W0.heap.size W0 W→OutX A w (arrJ l) 0 (.returned (.tuple #[.agg #[.int .i64 5,.bool false,.slice none 0 0,.int .i64 0,.string ⟨#[]⟩,.slice q l.length c,.slice none 0 0],.int .i64 0])) (W.setCells (w.heap.size+1) 0 [.int .i64 5,.bool false,.slice none 0 0,.int .i64 0,.string ⟨#[]⟩,.slice q l.length c,.slice none 0 0]):=by
  intro l W0 W q c h h0 h1
  have hr:=lS (h.1.sub (az (A:=And1 A (w.heap.size+1)) (A':=And1 A (w.heap.size+1)) (fun _ _ h=>h) h1)) h.2
  exact aZ hr (ae h0 h1) (by omega)
 have hnull:∀err W,Below w.heap.size w W→OutX A w .null err (.returned (.tuple #[.agg #[.int .i64 0,.bool false,.slice none 0 0,.int .i64 0,.string ⟨#[]⟩,.slice none 0 0,.slice none 0 0],.int .i64 err])) (W.setCells (w.heap.size+1) 0 [.int .i64 0,.bool false,.slice none 0 0,.int .i64 0,.string ⟨#[]⟩,.slice none 0 0,.slice none 0 0]):=fun err W hb=>aO hb (by omega)
 by_cases h0:v.kind=0
 ·cases s with
  | none =>
   obtain rfl:u=.nilIface:=hs
   have hx:withoutS v .none=(.null,9):=by unfold withoutS;simp[isNone,h0]
   rw[hx]
   exact rF v.kind v.g va v.ls.length vc v.e ⟨v.s.toArray⟩ aa v.arr.length ac oa v.obj.length oc w _ h0 (hnull 9)
  | key t =>
   obtain⟨rfl,_⟩:=hs
   have hx:withoutS v (.key t)=(v,0):=by unfold withoutS;rw[if_pos ⟨h0,rfl⟩]
   rw[hx]
   exact kN v.kind v.g va v.ls.length vc v.e ⟨v.s.toArray⟩ aa v.arr.length ac oa v.obj.length oc _ w _ h0 (fun W hb=>di rv0 hb (by omega))
  | idx k =>
   obtain⟨_,_,rfl,_⟩:=hs
   have hx:withoutS v (.idx k)=(v,0):=by unfold withoutS;rw[if_pos ⟨h0,rfl⟩]
   rw[hx]
   exact kP v.kind v.g va v.ls.length vc v.e ⟨v.s.toArray⟩ aa v.arr.length ac oa v.obj.length oc _ w _ h0 (fun W hb=>di rv0 hb (by omega))
  | slc a b =>
   obtain⟨_,_,rfl,_⟩:=hs
   have hx:withoutS v (.slc a b)=(v,0):=by unfold withoutS;rw[if_pos ⟨h0,rfl⟩]
   rw[hx]
   exact kQ v.kind v.g va v.ls.length vc v.e ⟨v.s.toArray⟩ aa v.arr.length ac oa v.obj.length oc _ w _ h0 (fun W hb=>di rv0 hb (by omega))
 by_cases hky:∃t,s=.key t
 ·obtain⟨t,rfl⟩:=hky
  obtain⟨rfl,hl⟩:=hs
  rw[rJ h0]
  exact vI A v.kind v.g va v.ls.length vc v.e ⟨v.s.toArray⟩ aa v.arr.length ac oa v.obj.length oc ⟨t.toArray⟩ _ _ w hIn h0 (CW t hl)
 have hky2:∀t,s≠.key t:=fun t h=>hky ⟨t,h⟩
 rw[rM h0 hky2]
 by_cases h5:v.kind=5
 rotate_left
 ·rw[if_pos h5]
  exact vH v.kind v.g va v.ls.length vc v.e ⟨v.s.toArray⟩ aa v.arr.length ac oa v.obj.length oc u w _ h0 h5 (tK hs (fun t h=>hky ⟨t,h⟩)) (hnull 9)
 cases s with
 | key t=>exact absurd ⟨t,rfl⟩ hky
 | none =>
  obtain rfl:u=.nilIface:=hs
  rw[if_neg (fun h=>h h5),if_pos (by simp[cutJ])]
  exact rG v.kind v.g va v.ls.length vc v.e ⟨v.s.toArray⟩ aa v.arr.length ac oa v.obj.length oc w _ h5 (hnull 9)
 | slc a b =>
  obtain⟨ca,cb,rfl,ra,rb⟩:=hs
  have CB:=fun W (hb:Below w.heap.size w W)=>gu a b ca cb v.arr.length W (ra.stay hb) (rb.stay hb) (by omega) (hT.below hb).2
  have hB:=dW a b v.arr.length
  obtain⟨yk,yg,ya,yl,yc,ye,ys,yaa,yan,yac,yoa,yon,yoc,rfl⟩:=ra.sevenB
  obtain⟨zk,zg,za,zl,zc,ze,zs,zaa,zan,zac,zoa,zon,zoc,rfl⟩:=rb.sevenB
  rw[if_neg (fun h=>h h5),show cutJ v.arr (.slc a b)=boundsJ a b v.arr.length from rfl]
  by_cases hE:(boundsJ a b v.arr.length).2.2=0
  ·rw[if_neg (fun h=>h hE)]
   simp only[hE] at CB
   exact vJ v.kind v.g va v.ls.length vc v.e ⟨v.s.toArray⟩ aa v.arr.length ac oa v.obj.length oc yk yg ya yl yc ye ys yaa yan yac yoa yon yoc zk zg za zl zc ze zs zaa zan zac zoa zon zoc (boundsJ a b v.arr.length).1 (boundsJ a b v.arr.length).2.1 _ w _ _ h5 P.ac (by omega) hB.1 hB.2 CB (hcat _ _ hB.1 hB.2) (hput _)
  ·rw[if_pos hE]
   exact lM v.kind v.g va v.ls.length vc v.e ⟨v.s.toArray⟩ aa v.arr.length ac oa v.obj.length oc yk yg ya yl yc ye ys yaa yan yac yoa yon yoc zk zg za zl zc ze zs zaa zan zac zoa zon zoc (boundsJ a b v.arr.length).1 (boundsJ a b v.arr.length).2.1 _ w _ h5 hE CB (hnull _)
 | idx k =>
  obtain⟨ka,kc,rfl,hu⟩:=hs
  have CA:=fun W (hb:Below w.heap.size w W)=>mP k ka kc v.arr.length W (hu.below hb) (by omega) (hT.below hb).2
  rw[if_neg (fun h=>h h5)]
  by_cases hE:(atJ k v.arr.length).2=0
  ·simp only[hE] at CA
   by_cases hr:0≤(atJ k v.arr.length).1∧(atJ k v.arr.length).1<v.arr.length
   ·have hc:cutJ v.arr (.idx k)=((atJ k v.arr.length).1.toNat,(atJ k v.arr.length).1.toNat+1,0):=by
     simp only[cutJ]
     rw[if_neg (fun h=>h hE),if_pos hr]
    rw[hc]
    rw[if_neg (fun h=>h rfl)]
    exact vK v.kind v.g va v.ls.length vc v.e ⟨v.s.toArray⟩ aa v.arr.length ac oa v.obj.length oc k.g ka k.ls.length kc k.e (atJ k v.arr.length).1 (atJ k v.arr.length).1.toNat ((atJ k v.arr.length).1.toNat+1) _ w _ _ h5 P.ac (by omega) (by omega) (by omega) ⟨hr.1,hr.2,by omega,rfl⟩ CA (hcat _ _ (by omega) (by omega)) (hput _)
   ·have hc:cutJ v.arr (.idx k)=(0,0,0):=by
     simp only[cutJ]
     rw[if_neg (fun h=>h hE),if_neg hr]
    rw[hc]
    rw[if_neg (fun h=>h rfl)]
    rw[show v.arr.take 0 ++ v.arr.drop 0=v.arr by simp]
    exact rH v.kind v.g va v.ls.length vc v.e ⟨v.s.toArray⟩ aa v.arr.length ac oa v.obj.length oc k.g ka k.ls.length kc k.e (atJ k v.arr.length).1 _ w _ _ h5 P.ac (by omega) hr CA hcat0 (hput _)
  ·have hc:(cutJ v.arr (.idx k)).2.2=(atJ k v.arr.length).2:=by
    simp only[cutJ]
    rw[if_pos hE]
   rw[if_pos (by rw[hc];exact hE),hc]
   exact lN v.kind v.g va v.ls.length vc v.e ⟨v.s.toArray⟩ aa v.arr.length ac oa v.obj.length oc k.g ka k.ls.length kc k.e (atJ k v.arr.length).1 _ w _ h5 hE CA (hnull _)
theorem pF {A:Nat→Prop}{W:World}{fk:Int}{fg:Bool}{fa:Option Addr}{fl fc:Nat}{fe:Int}{fs:ByteArray}{faa:Option Addr}{fan fac:Nat}{foa:Option Addr}{fon foc:Nat}{t:JV}(h:RdX A W [.int .i64 fk,.bool fg,.slice fa fl fc,.int .i64 fe,.string fs,.slice faa fan fac,.slice foa fon foc] t):fk=t.kind:=by
 obtain⟨a,c,aa,ac,oa,oc,P⟩:=RdV.parts h
 have:=P.cells
 unfold valCs at this
 simp only[List.cons.injEq,Value.int.injEq,true_and] at this
 exact this.1
theorem BQ (A:Nat→Prop)(xk:Int)(xg:Bool)(xa:Option Addr)(xl xc:Nat)(xe:Int)(xs:ByteArray)(xaa:Option Addr)(xan xac:Nat)(xoa:Option Addr)(xon xoc:Nat)(pa:Option Addr)(pc:Nat)(w:World) :
  Calls Tryz.prog 37 #[.agg #[.int .i64 xk,.bool xg,.slice xa xl xc,.int .i64 xe,.string xs,.slice xaa xan xac,.slice xoa xon xoc],.slice pa 0 pc] w (OutX A w .null 0):=by
 obtain⟨W,hW⟩:∃W,W=(w.alloc (.cells #[.int .i64 xk,.bool xg,.slice xa xl xc,.int .i64 xe,.string xs,.slice xaa xan xac,.slice xoa xon xoc] 28)).alloc (.cells #[.int .i64 0,.bool false,.slice none 0 0,.int .i64 0,.string ⟨#[]⟩,.slice none 0 0,.slice none 0 0] 28):=⟨_,rfl⟩
 obtain⟨b0,b1,b3⟩:=bG w #[.int .i64 xk,.bool xg,.slice xa xl xc,.int .i64 xe,.string xs,.slice xaa xan xac,.slice xoa xon xoc] #[.int .i64 0,.bool false,.slice none 0 0,.int .i64 0,.string ⟨#[]⟩,.slice none 0 0,.slice none 0 0] 28 28
 rw[←hW] at b0 b1 b3
 have hF:=hid (show OutX A w .null 0 (.returned (.tuple #[.agg #[.int .i64 0,.bool false,.slice none 0 0,.int .i64 0,.string ⟨#[]⟩,.slice none 0 0,.slice none 0 0],.int .i64 0])) (W.setCells (w.heap.size+1) 0 [.int .i64 0,.bool false,.slice none 0 0,.int .i64 0,.string ⟨#[]⟩,.slice none 0 0,.slice none 0 0]) from aO b0 (by omega))
 obtain⟨⟨r0,r1,r2,r3,r4,r5,r6⟩,s0,s1,s2,s3,s4,s5,s6⟩:=ag b3
 replace hW:=hid hW.symm
 clear b0 b1 b3
 go_enter Tryz.func37,Tryz.ntmps37
 go_upto_region 1 with fail
 rw[hW.out]
 go_wp2_with fail
 refine bodyPost_ret (v:=.tuple #[.agg #[.int .i64 0,.bool false,.slice none 0 0,.int .i64 0,.string ⟨#[]⟩,.slice none 0 0,.slice none 0 0],.int .i64 0]) (by simp[results,Tryz.results37,go_sem,r0,r1,r2,r3,r4,r5,r6]) rfl ?_
 exact hF.out
theorem zC (A:Nat→Prop)(xk:Int)(xg:Bool)(xa:Option Addr)(xl xc:Nat)(xe:Int)(xs:ByteArray)(xaa:Option Addr)(xan xac:Nat)(xoa:Option Addr)(xon xoc:Nat)(kk:Int)(kg:Bool)(ka:Option Addr)(kl kc:Nat)(ke:Int)(ks:ByteArray)(kaa:Option Addr)(kan kac:Nat)(koa:Option Addr)(kon koc:Nat)(pb po n pc:Nat)(p:List JV)(t1 s1 r:JV)(et es er:Nat)(w:World)(hIn:In A w)(hn0:¬ ((n:Int)=0))(hn1':¬ ((n:Int)=1))(hnc:n≤pc)(hpc:pc≤9223372036854775807)(hpb:pb<w.heap.size)
  (hkc:w.cell? ⟨pb,po,none⟩=some (.int .i64 kk)∧w.cell? ⟨pb,po+1,none⟩=some (.bool kg)∧w.cell? ⟨pb,po+2,none⟩=some (.slice ka kl kc)∧w.cell? ⟨pb,po+3,none⟩=some (.int .i64 ke)∧w.cell? ⟨pb,po+4,none⟩=some (.string ks)∧w.cell? ⟨pb,po+5,none⟩=some (.slice kaa kan kac)∧w.cell? ⟨pb,po+6,none⟩=some (.slice koa kon koc))
  (hq1:RdA w (if pc=1 then some ⟨pb,po,none⟩ else some ⟨pb,po+7,none⟩) p)
  (CT:∀(A2:Nat→Prop) W,Below w.heap.size w W→In A2 W→(∀k,k<w.heap.size→A2 k→A k)→Calls Tryz.prog 27 #[.agg #[.int .i64 xk,.bool xg,.slice xa xl xc,.int .i64 xe,.string xs,.slice xaa xan xac,.slice xoa xon xoc],.agg #[.int .i64 kk,.bool kg,.slice ka kl kc,.int .i64 ke,.string ks,.slice kaa kan kac,.slice koa kon koc]] W (OutX A2 W t1 et))
  (CS:et=0→t1.kind≠0→∀(A2:Nat→Prop) W cs qa qc,Below w.heap.size w W→In A2 W→(∀k,k<w.heap.size→A2 k→A k)→n-1≤qc→qc≤9223372036854775807→RdX A2 W cs t1→RdA w qa p→Calls Tryz.prog 37 #[.agg cs.toArray,.slice qa (n-1) qc] W (OutX A2 W s1 es))
  (CL:et=0→t1.kind≠0→es=0→∀(A2:Nat→Prop) W cs,Below w.heap.size w W→In A2 W→(∀k,k<w.heap.size→A2 k→A k)→RdX A2 W cs s1→Calls Tryz.prog 59 #[.agg #[.int .i64 xk,.bool xg,.slice xa xl xc,.int .i64 xe,.string xs,.slice xaa xan xac,.slice xoa xon xoc],.agg #[.int .i64 kk,.bool kg,.slice ka kl kc,.int .i64 ke,.string ks,.slice kaa kan kac,.slice koa kon koc],.agg cs.toArray] W (OutX A2 W r er))
  (vv:JV)(rvv:RdX A w [.int .i64 xk,.bool xg,.slice xa xl xc,.int .i64 xe,.string xs,.slice xaa xan xac,.slice xoa xon xoc] vv)(hv1:(et≠0∨t1.kind=0)→r=vv∧er=et)(hn:et=0→t1.kind≠0→es≠0→r=.null∧er=es) :
  Calls Tryz.prog 37 #[.agg #[.int .i64 xk,.bool xg,.slice xa xl xc,.int .i64 xe,.string xs,.slice xaa xan xac,.slice xoa xon xoc],.slice (some ⟨pb,po,none⟩) n pc] w (OutX A w r er):=by
 obtain⟨W,hW⟩:∃W,W=(w.alloc (.cells #[.int .i64 xk,.bool xg,.slice xa xl xc,.int .i64 xe,.string xs,.slice xaa xan xac,.slice xoa xon xoc] 28)).alloc (.cells #[.int .i64 0,.bool false,.slice none 0 0,.int .i64 0,.string ⟨#[]⟩,.slice none 0 0,.slice none 0 0] 28):=⟨_,rfl⟩
 obtain⟨b0,b1,b3⟩:=bG w #[.int .i64 xk,.bool xg,.slice xa xl xc,.int .i64 xe,.string xs,.slice xaa xan xac,.slice xoa xon xoc] #[.int .i64 0,.bool false,.slice none 0 0,.int .i64 0,.string ⟨#[]⟩,.slice none 0 0,.slice none 0 0] 28 28
 rw[←hW] at b0 b1 b3
 have HI:=hid (hIn.new b0 (aA b3))
 have HB:=hid b0
 have HX:=hid b1
 have HZ:=hid b3
 replace hW:=hid hW.symm
 clear b0 b1 b3 hIn
 replace CT:=hid CT
 replace CS:=hid CS
 replace CL:=hid CL
 replace hq1:=hid hq1
 have hwN:Hid (w.heap.size≤w.heap.size+1):=by show w.heap.size≤_;omega
 have hRlt:=hid (aA HZ.out)
 have hsub:Hid (∀k,k<w.heap.size→And1 A (w.heap.size+1) k→A k):=fun k hk h=>h.elim id fun e=>by omega
 obtain⟨Q,hQ⟩:∃Q,Q=OutX A w r er:=⟨_,rfl⟩
 have hput:=hid (show ∀W' z0 z1 z2 z3 z4 z5 z6,RdX (And1 A (w.heap.size+1)) W' [z0,z1,z2,z3,z4,z5,z6] r→Below w.heap.size w W'→Q (.returned (.tuple #[.agg #[z0,z1,z2,z3,z4,z5,z6],.int .i64 er])) (W'.setCells (w.heap.size+1) 0 [z0,z1,z2,z3,z4,z5,z6]) from fun W' z0 z1 z2 z3 z4 z5 z6 h1 h2=>by rw[hQ];exact aZ h1 h2 hwN.out)
 have hold:=hid (show (et≠0∨t1.kind=0)→∀W',Below w.heap.size w W'→Q (.returned (.tuple #[.agg #[.int .i64 xk,.bool xg,.slice xa xl xc,.int .i64 xe,.string xs,.slice xaa xan xac,.slice xoa xon xoc],.int .i64 et])) (W'.setCells (w.heap.size+1) 0 [.int .i64 xk,.bool xg,.slice xa xl xc,.int .i64 xe,.string xs,.slice xaa xan xac,.slice xoa xon xoc]) from fun h W' hb=>by
  obtain⟨rfl,rfl⟩:=hv1 h
  rw[hQ]
  exact di rvv hb hwN.out)
 have hnone:=hid (show et=0→t1.kind≠0→es≠0→∀W',Below w.heap.size w W'→Q (.returned (.tuple #[.agg #[.int .i64 0,.bool false,.slice none 0 0,.int .i64 0,.string ⟨#[]⟩,.slice none 0 0,.slice none 0 0],.int .i64 es])) (W'.setCells (w.heap.size+1) 0 [.int .i64 0,.bool false,.slice none 0 0,.int .i64 0,.string ⟨#[]⟩,.slice none 0 0,.slice none 0 0]) from fun h1 h2 h3 W' hb=>by
  obtain⟨rfl,rfl⟩:=hn h1 h2 h3
  rw[hQ]
  exact aO hb hwN.out)
 rw[←hQ]
 clear hQ hn hv1 rvv
 have hbx:w.heap.size<W.heap.size:=aA HX.out
 have hpW:pb<W.heap.size:=by omega
 obtain⟨u0,u1,u2,u3,u4,u5,u6⟩:=hkc
 replace u0:=SubW.below HB.out _ _ u0
 replace u1:=SubW.below HB.out _ _ u1
 replace u2:=SubW.below HB.out _ _ u2
 replace u3:=SubW.below HB.out _ _ u3
 replace u4:=SubW.below HB.out _ _ u4
 replace u5:=SubW.below HB.out _ _ u5
 replace u6:=SubW.below HB.out _ _ u6
 have HU:=hid (And.intro u0 (And.intro u1 (And.intro u2 (And.intro u3 (And.intro u4 (And.intro u5 u6))))))
 obtain⟨⟨p0,p1,p2,p3,p4,p5,p6⟩,_⟩:=ag HX.out
 have hn1:(0:Int)<(n:Int):=by omega
 have hn2:0<n:=by omega
 have hi1:(1:Int)≤(n:Int):=by omega
 have hi2:(n:Int)≤(pc:Int):=by omega
 have hi3:(1:Int)≤(pc:Int):=by omega
 have g0:((n:Int) == 0)=false:=by rw[beq_eq_false_iff_ne];exact hn0
 have g00:((n:Int) == 1)=false:=by rw[beq_eq_false_iff_ne];exact hn1'
 go_enter Tryz.func37,Tryz.ntmps37
 go_upto_region 1 with fail
 rw[hW.out]
 go_upto_region 5 with fail
 have CT2:=hid (fun W' (hb:Below W.heap.size W W')=>CT.out (AndBox (And1 A (w.heap.size+1)) W W') W' (ae HB.out hb) (iE HI.out hb) (fun k hk h=>h.elim (hsub.out k hk) fun h=>by have:=HB.out.size;omega))
 go_cut [6,7] from 26 to 33 (fun v6 v7 w5=>Boxed (And1 A (w.heap.size+1)) W w5 v6 t1∧v7=.int .i64 et)
 case first =>
  have hN:=hid (fun w3 (hb:Below (W.alloc (.cells #[.int .i64 0,.bool false,.slice none 0 0,.int .i64 0,.string ⟨#[]⟩,.slice none 0 0,.slice none 0 0] 28)).drew.heap.size (W.alloc (.cells #[.int .i64 0,.bool false,.slice none 0 0,.int .i64 0,.string ⟨#[]⟩,.slice none 0 0,.slice none 0 0] 28)).drew w3)=>ag (af (aX W (.cells #[.int .i64 0,.bool false,.slice none 0 0,.int .i64 0,.string ⟨#[]⟩,.slice none 0 0,.slice none 0 0] 28)) hb))
  go_region_held3 (fun W'=>(∀b o,b<W.heap.size→W'.cell? ⟨b,o,none⟩=W.cell? ⟨b,o,none⟩)∧(∀b o,b<W.heap.size→W'.frozen? ⟨b,o,none⟩=W.frozen? ⟨b,o,none⟩)∧Below W.heap.size W W') (with_reducible first | exact bH _ | exact bI (by assumption) (by assumption) | exact bg (by assumption) _ | exact bJ (by assumption) _ | exact bn _ | exact bu (by assumption) _ | exact au (by assumption) (Nat.le_refl _) | exact au (by assumption) (dC (by assumption)) | exact au (by assumption) (by assumption) | exact au (by assumption) (Nat.le_succ_of_le (by assumption)) | exact au (by assumption) (Nat.le_succ_of_le (Nat.le_succ_of_le (by assumption))) | assumption) ((go_at_call 27;(with_reducible refine (CT2.out _ ?_).mono ?_);(simp only[*]);rintro e3 w3 ⟨cs3,rfl,hr3,hb3⟩;obtain⟨fk,fg,fa,fl,fc,fe,fs,faa,fan,fac,foa,fon,foc,rfl⟩:=RdV.sevenB hr3;(first | (with_reducible have mm:=hN.out _ hb3;obtain⟨⟨m0,m1,m2,m3,m4,m5,m6⟩,g0,g1,g2,g3,g4,g5,g6⟩:=mm) | skip)))
  all_goals
   go_wp2_with fail
   go_meet
   case rel=>first | with_reducible exact⟨dB hr3 hb3,rfl⟩ | exact⟨cu hr3 rfl hb3,rfl⟩
 case rest =>
  obtain⟨⟨N1,fk,fg,fa,fl,fc,fe,fs,faa,fan,fac,foa,fon,foc,rfl,y5,ry5,b5,_⟩,rfl⟩:=hcut
  have q5:=hid (ae HB.out b5.out)
  have x5:=hid (af HX.out b5.out)
  have z5:=hid (af HZ.out b5.out)
  have i5:=hid (HI.out.next b5.out)
  have h5:=HU.out
  have U5:=hid (And.intro (SubW.below b5.out _ _ h5.1) (And.intro (SubW.below b5.out _ _ h5.2.1) (And.intro (SubW.below b5.out _ _ h5.2.2.1) (And.intro (SubW.below b5.out _ _ h5.2.2.2.1) (And.intro (SubW.below b5.out _ _ h5.2.2.2.2.1) (And.intro (SubW.below b5.out _ _ h5.2.2.2.2.2.1) (SubW.below b5.out _ _ h5.2.2.2.2.2.2)))))))
  clear h5 HU HX HZ HI HB hW b5 CT CT2 p0 p1 p2 p3 p4 p5 p6 u0 u1 u2 u3 u4 u5 u6 hbx hpW
  have hfk:=hid (pF ry5.out)
  obtain⟨⟨p0,p1,p2,p3,p4,p5,p6⟩,_⟩:=ag y5.out
  by_cases he:et=0
  rotate_left
  ·have g:((et:Int) != 0)=true:=by rw[bne_iff_ne];omega
   have hq:=hid (hold.out (Or.inl he) _ q5.out)
   obtain⟨⟨y0,y1,y2,y3,y4,y5',y6⟩,_⟩:=ag x5.out
   obtain⟨⟨r0,r1,r2,r3,r4,r5,r6⟩,s0,s1,s2,s3,s4,s5,s6⟩:=ag z5.out
   clear hold hnone hput CS CL he y5 U5
   go_wp2_with fail
   refine bodyPost_ret (v:=.tuple #[.agg #[.int .i64 xk,.bool xg,.slice xa xl xc,.int .i64 xe,.string xs,.slice xaa xan xac,.slice xoa xon xoc],.int .i64 et]) (by simp[results,Tryz.results37,go_sem,r0,r1,r2,r3,r4,r5,r6]) rfl ?_
   exact hq.out
  by_cases hk0:fk=0
  ·have hq:=hid (hold.out (Or.inr (by rw[←hfk.out];exact hk0)) _ q5.out)
   subst he hk0
   obtain⟨⟨y0,y1,y2,y3,y4,y5',y6⟩,_⟩:=ag x5.out
   obtain⟨⟨r0,r1,r2,r3,r4,r5,r6⟩,s0,s1,s2,s3,s4,s5,s6⟩:=ag z5.out
   clear hold hnone hput CS CL y5 U5
   go_wp2_with fail
   refine bodyPost_ret (v:=.tuple #[.agg #[.int .i64 xk,.bool xg,.slice xa xl xc,.int .i64 xe,.string xs,.slice xaa xan xac,.slice xoa xon xoc],.int .i64 0]) (by simp[results,Tryz.results37,go_sem,r0,r1,r2,r3,r4,r5,r6]) rfl ?_
   exact hq.out
  have gk:(fk == 0)=false:=by rw[beq_eq_false_iff_ne];exact hk0
  have hkt:t1.kind≠0:=by rw[←hfk.out];exact hk0
  have CS2:=hid (CS.out he hkt)
  have CL2:=hid (CL.out he hkt)
  have hn3:=hid (hnone.out he hkt)
  subst he
  clear CS CL hnone hold hkt hk0
  have hN1:N1<wc.heap.size:=aA y5.out
  go_upto_region 8 with fail
  have CS3:=hid (fun qa qc h1 h2 h3 W' (hb:Below wc.heap.size wc W')=>CS2.out (AndBox (And1 A (w.heap.size+1)) wc W') W' [.int .i64 fk,.bool fg,.slice fa fl fc,.int .i64 fe,.string fs,.slice faa fan fac,.slice foa fon foc] qa qc (ae q5.out hb) (iE i5.out hb) (fun k hk h=>h.elim (hsub.out k hk) fun h=>by have:=q5.out.size;omega) h1 h2 (mO ry5.out hb) h3)
  clear CS2
  go_cut [8,7] from 43 to 49 (fun v8 v7 w6=>Boxed (And1 A (w.heap.size+1)) wc w6 v8 s1∧v7=.int .i64 es)
  case first =>
   have hN:=hid (fun w3 (hb:Below (wc.alloc (.cells #[.int .i64 0,.bool false,.slice none 0 0,.int .i64 0,.string ⟨#[]⟩,.slice none 0 0,.slice none 0 0] 28)).drew.heap.size (wc.alloc (.cells #[.int .i64 0,.bool false,.slice none 0 0,.int .i64 0,.string ⟨#[]⟩,.slice none 0 0,.slice none 0 0] 28)).drew w3)=>ag (af (aX wc (.cells #[.int .i64 0,.bool false,.slice none 0 0,.int .i64 0,.string ⟨#[]⟩,.slice none 0 0,.slice none 0 0] 28)) hb))
   by_cases hp1:pc=1
   ·have hq2:=hq1.out
    rw[if_pos hp1] at hq2
    have CS4:=hid (CS3.out (some ⟨pb,po,none⟩) (pc-1) (by omega) (by omega) hq2)
    have hp2:(pc=1) ↔ True:=iff_of_true hp1 trivial
    clear hq2 hp1
    go_region_held3 (fun W'=>(∀b o,b<wc.heap.size→W'.cell? ⟨b,o,none⟩=wc.cell? ⟨b,o,none⟩)∧(∀b o,b<wc.heap.size→W'.frozen? ⟨b,o,none⟩=wc.frozen? ⟨b,o,none⟩)∧Below wc.heap.size wc W') (with_reducible first | exact bH _ | exact bI (by assumption) (by assumption) | exact bg (by assumption) _ | exact bJ (by assumption) _ | exact bn _ | exact bu (by assumption) _ | exact au (by assumption) (Nat.le_refl _) | exact au (by assumption) (dC (by assumption)) | exact au (by assumption) (by assumption) | exact au (by assumption) (Nat.le_succ_of_le (by assumption)) | exact au (by assumption) (Nat.le_succ_of_le (Nat.le_succ_of_le (by assumption))) | assumption) ((go_at_call 37;(with_reducible refine (CS4.out _ ?_).mono ?_);(simp only[*]);rintro e3 w3 ⟨cs3,rfl,hr3,hb3⟩;obtain⟨jk,jg,ja,jl,jc,je,js,jaa,jan,jac,joa,jon,joc,rfl⟩:=RdV.sevenB hr3;(first | (with_reducible have mm:=hN.out _ hb3;obtain⟨⟨m0,m1,m2,m3,m4,m5,m6⟩,g0,g1,g2,g3,g4,g5,g6⟩:=mm) | skip)))
    all_goals
     go_wp2_with fail
     go_meet
     case rel=>first | with_reducible exact⟨dB hr3 hb3,rfl⟩ | exact⟨cu hr3 rfl hb3,rfl⟩
   ·have hq2:=hq1.out
    rw[if_neg hp1] at hq2
    have CS4:=hid (CS3.out (some ⟨pb,po+7,none⟩) (pc-1) (by omega) (by omega) hq2)
    clear hq2
    go_region_held3 (fun W'=>(∀b o,b<wc.heap.size→W'.cell? ⟨b,o,none⟩=wc.cell? ⟨b,o,none⟩)∧(∀b o,b<wc.heap.size→W'.frozen? ⟨b,o,none⟩=wc.frozen? ⟨b,o,none⟩)∧Below wc.heap.size wc W') (with_reducible first | exact bH _ | exact bI (by assumption) (by assumption) | exact bg (by assumption) _ | exact bJ (by assumption) _ | exact bn _ | exact bu (by assumption) _ | exact au (by assumption) (Nat.le_refl _) | exact au (by assumption) (dC (by assumption)) | exact au (by assumption) (by assumption) | exact au (by assumption) (Nat.le_succ_of_le (by assumption)) | exact au (by assumption) (Nat.le_succ_of_le (Nat.le_succ_of_le (by assumption))) | assumption) ((go_at_call 37;(with_reducible refine (CS4.out _ ?_).mono ?_);(simp only[*]);rintro e3 w3 ⟨cs3,rfl,hr3,hb3⟩;obtain⟨jk,jg,ja,jl,jc,je,js,jaa,jan,jac,joa,jon,joc,rfl⟩:=RdV.sevenB hr3;(first | (with_reducible have mm:=hN.out _ hb3;obtain⟨⟨m0,m1,m2,m3,m4,m5,m6⟩,g0,g1,g2,g3,g4,g5,g6⟩:=mm) | skip)))
    all_goals
     go_wp2_with fail
     go_meet
     case rel=>first | with_reducible exact⟨dB hr3 hb3,rfl⟩ | exact⟨cu hr3 rfl hb3,rfl⟩
  case rest =>
   obtain⟨⟨N2,jk,jg,ja,jl,jc,je,js,jaa,jan,jac,joa,jon,joc,rfl,y7,ry7,b7,hN2⟩,rfl⟩:=hcut
   replace hN2:N2≠w.heap.size+1:=by have:=hN2.out;have:=aA z5.out;omega
   have q7:=hid (ae q5.out b7.out)
   have x7:=hid (af x5.out b7.out)
   have z7:=hid (af z5.out b7.out)
   have i7:=hid (i5.out.next b7.out)
   have h7:=U5.out
   obtain⟨u0,u1,u2,u3,u4,u5,u6⟩:=h7
   replace u0:=SubW.below b7.out _ _ u0
   replace u1:=SubW.below b7.out _ _ u1
   replace u2:=SubW.below b7.out _ _ u2
   replace u3:=SubW.below b7.out _ _ u3
   replace u4:=SubW.below b7.out _ _ u4
   replace u5:=SubW.below b7.out _ _ u5
   replace u6:=SubW.below b7.out _ _ u6
   clear x5 z5 i5 U5 b7 y5 ry5 CS3 q5 p0 p1 p2 p3 p4 p5 p6 hN1
   obtain⟨⟨r0,r1,r2,r3,r4,r5,r6⟩,s0,s1',s2,s3,s4,s5,s6⟩:=ag z7.out
   by_cases he:es=0
   rotate_left
   ·have g:((es:Int) != 0)=true:=by rw[bne_iff_ne];omega
    have hq:=hid (hn3.out he _ q7.out)
    clear hn3 hput CL2 he y7 x7 z7 u0 u1 u2 u3 u4 u5 u6
    go_wp2_with fail
    refine bodyPost_ret (v:=.tuple #[.agg #[.int .i64 0,.bool false,.slice none 0 0,.int .i64 0,.string ⟨#[]⟩,.slice none 0 0,.slice none 0 0],.int .i64 es]) (by simp[results,Tryz.results37,go_sem,r0,r1,r2,r3,r4,r5,r6]) rfl ?_
    exact hq.out
   have CL3:=hid (fun W' (hb:Below wc.heap.size wc W')=>CL2.out he (And1 A (w.heap.size+1)) W' [.int .i64 jk,.bool jg,.slice ja jl jc,.int .i64 je,.string js,.slice jaa jan jac,.slice joa jon joc] (ae q7.out hb) (i7.out.next hb) hsub.out (RdX.stay ry7.out hb))
   subst he
   clear CL2 hn3
   obtain⟨⟨p0,p1,p2,p3,p4,p5,p6⟩,_⟩:=ag x7.out
   obtain⟨⟨y0,y1,y2,y3,y4,y5',y6⟩,_⟩:=ag y7.out
   go_upto_region 11 with fail
   have hN:=hid (fun w8 (hb:Below wc.drew.heap.size wc.drew w8)=>ag (af (show wc.drew.heap[w.heap.size+1]? = _ from z7.out) hb))
   have hx1:w.heap.size<wc.heap.size:=aA x7.out
   have hx2:N2<wc.heap.size:=aA y7.out
   have hx3:N2≠w.heap.size+1:=hN2
   have hx4:pb<wc.heap.size:=by omega
   have hx5:pb≠w.heap.size+1:=by omega
   have hput2:=hid (fun z0 z1 z2 z3 z4 z5 z6 w8 h1 (h2:Below wc.drew.heap.size wc.drew w8)=>hput.out w8 z0 z1 z2 z3 z4 z5 z6 h1 (ae q7.out (ae ((Below.refl wc.heap.size wc).drew) h2)))
   clear hput
   go_region_held3 (fun W'=>(∀b o,b<wc.heap.size→b≠(w.heap.size+1)→W'.cell? ⟨b,o,none⟩=wc.cell? ⟨b,o,none⟩)∧wc.heap.size≤W'.heap.size) (with_reducible first | exact dP _ _ | exact dm _ _ _ | exact dw _ (by assumption) | exact dA (by assumption) (by assumption) | exact dQ (by assumption) | assumption) ((go_at_call 59;(with_reducible refine (CL3.out _ ?_).mono ?_);(exact (Below.refl _ _).drew);rintro e8 w8 ⟨cs8,rfl,hr8,hb8⟩;obtain⟨vk,vg,va,vl,vc,ve,vs,vaa,van,vac,voa,von,voc,rfl⟩:=RdV.sevenB hr8;have mm:=hN.out _ hb8;obtain⟨⟨m0,m1,m2,m3,m4,m5,m6⟩,g0,g1,g2,g3,g4,g5,g6⟩:=mm))
   all_goals
    have hF:=hid (hput2.out _ _ _ _ _ _ _ w8 hr8 hb8)
    go_wp2_with fail
    refine bodyPost_ret (v:=.tuple #[.agg #[.int .i64 vk,.bool vg,.slice va vl vc,.int .i64 ve,.string vs,.slice vaa van vac,.slice voa von voc],.int .i64 er]) (by simp[results,Tryz.results37,go_sem,m0,m1,m2,m3,m4,m5,m6]) rfl ?_
    exact hF.out
theorem BR (A:Nat→Prop)(xk:Int)(xg:Bool)(xa:Option Addr)(xl xc:Nat)(xe:Int)(xs:ByteArray)(xaa:Option Addr)(xan xac:Nat)(xoa:Option Addr)(xon xoc:Nat)(kk:Int)(kg:Bool)(ka:Option Addr)(kl kc:Nat)(ke:Int)(ks:ByteArray)(kaa:Option Addr)(kan kac:Nat)(koa:Option Addr)(kon koc:Nat)(pb po pc:Nat)(s:StepJ)(r:JV)(er:Nat)(w:World)(hIn:In A w)(_hnc:1≤pc)(_hpc:pc≤9223372036854775807)(hpb:pb<w.heap.size)
  (hkc:w.cell? ⟨pb,po,none⟩=some (.int .i64 kk)∧w.cell? ⟨pb,po+1,none⟩=some (.bool kg)∧w.cell? ⟨pb,po+2,none⟩=some (.slice ka kl kc)∧w.cell? ⟨pb,po+3,none⟩=some (.int .i64 ke)∧w.cell? ⟨pb,po+4,none⟩=some (.string ks)∧w.cell? ⟨pb,po+5,none⟩=some (.slice kaa kan kac)∧w.cell? ⟨pb,po+6,none⟩=some (.slice koa kon koc))
  (CR:∀W,Below w.heap.size w W→Calls Tryz.prog 47 #[.agg #[.int .i64 kk,.bool kg,.slice ka kl kc,.int .i64 ke,.string ks,.slice kaa kan kac,.slice koa kon koc]] W fun e w'=>∃u,e=.returned u∧StepV w' u s∧Below W.heap.size W w')
  (CW:∀W u,Below w.heap.size w W→In (And1 A (w.heap.size+1)) W→StepV W u s→Calls Tryz.prog 63 #[.agg #[.int .i64 xk,.bool xg,.slice xa xl xc,.int .i64 xe,.string xs,.slice xaa xan xac,.slice xoa xon xoc],u] W (OutX (And1 A (w.heap.size+1)) W r er)) :
  Calls Tryz.prog 37 #[.agg #[.int .i64 xk,.bool xg,.slice xa xl xc,.int .i64 xe,.string xs,.slice xaa xan xac,.slice xoa xon xoc],.slice (some ⟨pb,po,none⟩) 1 pc] w (OutX A w r er):=by
 obtain⟨W,hW⟩:∃W,W=(w.alloc (.cells #[.int .i64 xk,.bool xg,.slice xa xl xc,.int .i64 xe,.string xs,.slice xaa xan xac,.slice xoa xon xoc] 28)).alloc (.cells #[.int .i64 0,.bool false,.slice none 0 0,.int .i64 0,.string ⟨#[]⟩,.slice none 0 0,.slice none 0 0] 28):=⟨_,rfl⟩
 obtain⟨b0,b1,b3⟩:=bG w #[.int .i64 xk,.bool xg,.slice xa xl xc,.int .i64 xe,.string xs,.slice xaa xan xac,.slice xoa xon xoc] #[.int .i64 0,.bool false,.slice none 0 0,.int .i64 0,.string ⟨#[]⟩,.slice none 0 0,.slice none 0 0] 28 28
 rw[←hW] at b0 b1 b3
 have HI:=hid (hIn.new b0 (aA b3))
 have HB:=hid b0
 have HX:=hid b1
 have HZ:=hid b3
 replace hW:=hid hW.symm
 clear b0 b1 b3 hIn
 have hwN:Hid (w.heap.size≤w.heap.size+1):=by show w.heap.size≤_;omega
 obtain⟨Q,hQ⟩:∃Q,Q=OutX A w r er:=⟨_,rfl⟩
 have hput:=hid (show ∀W' z0 z1 z2 z3 z4 z5 z6,RdX (And1 A (w.heap.size+1)) W' [z0,z1,z2,z3,z4,z5,z6] r→Below w.heap.size w W'→Q (.returned (.tuple #[.agg #[z0,z1,z2,z3,z4,z5,z6],.int .i64 er])) (W'.setCells (w.heap.size+1) 0 [z0,z1,z2,z3,z4,z5,z6]) from fun W' z0 z1 z2 z3 z4 z5 z6 h1 h2=>by rw[hQ];exact aZ h1 h2 hwN.out)
 rw[←hQ]
 clear hQ
 have hx1:w.heap.size<W.heap.size:=aA HX.out
 have hx2:w.heap.size≠w.heap.size+1:=by omega
 have hx4:pb<W.heap.size:=by omega
 have hx5:pb≠w.heap.size+1:=by omega
 obtain⟨u0,u1,u2,u3,u4,u5,u6⟩:=hkc
 replace u0:=SubW.below HB.out _ _ u0
 replace u1:=SubW.below HB.out _ _ u1
 replace u2:=SubW.below HB.out _ _ u2
 replace u3:=SubW.below HB.out _ _ u3
 replace u4:=SubW.below HB.out _ _ u4
 replace u5:=SubW.below HB.out _ _ u5
 replace u6:=SubW.below HB.out _ _ u6
 obtain⟨⟨p0,p1,p2,p3,p4,p5,p6⟩,_⟩:=ag HX.out
 obtain⟨⟨r0,r1,r2,r3,r4,r5,r6⟩,s0,s1,s2,s3,s4,s5,s6⟩:=ag HZ.out
 have CR2:=hid (CR W.drew (HB.out.drew))
 have CW2:=hid (fun w3 u (h3:Below W.drew.heap.size W.drew w3) (hs:StepV w3 u s)=>CW w3 u (ae (HB.out.drew) h3) (HI.out.next (ae ((Below.refl W.heap.size W).drew) h3)) hs)
 have hN:=hid (fun w3 w4 (h3:Below W.drew.heap.size W.drew w3) (h4:Below w3.heap.size w3 w4)=>ag (af (af (show W.drew.heap[w.heap.size+1]? = _ from HZ.out) h3) h4))
 have hput2:=hid (fun z0 z1 z2 z3 z4 z5 z6 w3 w4 h1 (h3:Below W.drew.heap.size W.drew w3) (h4:Below w3.heap.size w3 w4)=>hput.out w4 z0 z1 z2 z3 z4 z5 z6 h1 (ae (ae (HB.out.drew) h3) h4))
 clear CR CW hput
 go_enter Tryz.func37,Tryz.ntmps37
 go_upto_region 1 with fail
 rw[hW.out]
 go_upto_region 4 with fail
 go_region_held3 (fun W'=>(∀b o,b<W.heap.size→b≠(w.heap.size+1)→W'.cell? ⟨b,o,none⟩=W.cell? ⟨b,o,none⟩)∧W.heap.size≤W'.heap.size) (with_reducible first | exact dP _ _ | exact dm _ _ _ | exact dw _ (by assumption) | exact dA (by assumption) (by assumption) | exact dQ (by assumption) | assumption) (first | (go_at_call 47;(with_reducible refine CR2.out.mono ?_);rintro e3 w3 ⟨u,rfl,hst,hb3⟩;have hst':=hid hst;clear hst) | (go_at_call 63;(with_reducible refine (CW2.out _ u hb3 hst'.out).mono ?_);rintro e4 w4 ⟨cs4,rfl,hr4,hb4⟩;obtain⟨vk,vg,va,vl,vc,ve,vs,vaa,van,vac,voa,von,voc,rfl⟩:=RdV.sevenB hr4;have mm:=hN.out _ _ hb3 hb4;obtain⟨⟨m0,m1,m2,m3,m4,m5,m6⟩,g0,g1,g2,g3,g4,g5,g6⟩:=mm))
 all_goals
  have hF:=hid (hput2.out _ _ _ _ _ _ _ w3 w4 hr4 hb3 hb4)
  clear hr4 hb3 hb4 hN hput2 CR2 CW2 hst'
  go_wp2_with fail
  refine bodyPost_ret (v:=.tuple #[.agg #[.int .i64 vk,.bool vg,.slice va vl vc,.int .i64 ve,.string vs,.slice vaa van vac,.slice voa von voc],.int .i64 er]) (by simp[results,Tryz.results37,go_sem,m0,m1,m2,m3,m4,m5,m6]) rfl ?_
  exact hF.out
theorem jh:∀(path:List JV) (A:Nat→Prop) (v:JV) (cs:List Value) (pa:Option Addr) (pc:Nat) (w:World),In A w→mayJ 200 v=true→(∀k ∈ path,mayJ 200 k=true∧SmallV k)→SmallV v→path.length≤pc→pc≤9223372036854775807→RdX A w cs v→RdA w pa path→Tabs w →
  Calls Tryz.prog 37 #[.agg cs.toArray,.slice pa path.length pc] w (OutX A w (goneJ v path).1 (goneJ v path).2)
 | [],A,v,cs,pa,pc,w,hIn,hv,hp,sv,hc1,hc2,rv,rp,hT=>by
  obtain⟨xk,xg,xa,xl,xc,xe,xs,xaa,xan,xac,xoa,xon,xoc,rfl⟩:=RdV.sevenB rv
  exact BQ A xk xg xa xl xc xe xs xaa xan xac xoa xon xoc pa pc w
 | [k],A,v,cs,pa,pc,w,hIn,hv,hp,sv,hc1,hc2,rv,rp,hT=>by
  obtain⟨ck,⟨pb,po,rfl,hcell⟩,rk⟩:=rp 0 k rfl
  have CR:=fun W (hb:Below w.heap.size w W)=>ji k ck W (rk.stay hb)
  have CW:=fun W u (hb:Below w.heap.size w W) (hi:In (And1 A (w.heap.size+1)) W) (hs:StepV W u (readS k))=>oM (And1 A (w.heap.size+1)) v (readS k) u cs W hi sv (RdV.sub rv (az (A':=And1 A (w.heap.size+1)) (fun n hn h=>h.elim id fun e=>by omega) hb)) hs (hT.below hb)
  obtain⟨xk,xg,xa,xl,xc,xe,xs,xaa,xan,xac,xoa,xon,xoc,rfl⟩:=RdV.sevenB rv
  obtain⟨kk,kg,ka,kl,kc,ke,ks,kaa,kan,kac,koa,kon,koc,rfl⟩:=rk.sevenB
  exact BR A xk xg xa xl xc xe xs xaa xan xac xoa xon xoc kk kg ka kl kc ke ks kaa kan kac koa kon koc pb po pc (readS k) _ _ w hIn hc1 hc2 (ax (hcell 0 _ rfl)) ⟨hcell 0 _ rfl,hcell 1 _ rfl,hcell 2 _ rfl,hcell 3 _ rfl,hcell 4 _ rfl,hcell 5 _ rfl,hcell 6 _ rfl⟩ CR CW
 | k :: k2 :: p,A,v,cs,pa,pc,w,hIn,hv,hp,sv,hc1,hc2,rv,rp,hT=>by
  have hk:=hp k (List.mem_cons_self ..)
  have hp2:∀k' ∈ k2 :: p,mayJ 200 k'=true∧SmallV k':=fun k' h=>hp k' (List.mem_cons_of_mem _ h)
  have hc3:(k2 :: p).length+1≤pc:=hc1
  obtain⟨ck,⟨pb,po,rfl,hcell⟩,rk⟩:=rp 0 k rfl
  have hq1:RdA w (if pc=1 then some ⟨pb,po,none⟩ else some ⟨pb,po+7,none⟩) (k2 :: p):=by
   split
   ·simp at hc3;omega
   ·have:=rp.drop 1
    rwa [Nat.one_mul] at this
  have hst:SmallV (takeJ v k).1:=ed sv (readS k) (fun h4=>fC hv h4)
  have hmt:mayJ 200 (takeJ v k).1=true:=dV hv
  have hsl:=(fQ (p:=k2 :: p) hmt hst (fun k' h=>(hp2 k' h).2)).2
  have hstl:=hst.al
  have hzl:(goneJ (takeJ v k).1 (k2 :: p)).1.arr.length≤274877906944:=Nat.le_trans hsl (by omega)
  have CT:=fun (A2:Nat→Prop) W (hb:Below w.heap.size w W) (hi:In A2 W) (hs:∀k,k<w.heap.size→A2 k→A k)=>fV A2 v k cs ck W hi hv hk.1 sv (RdV.sub rv (az hs hb)) (rk.stay hb) (hT.below hb)
  have CS:=fun (A2:Nat→Prop) W cs' qa qc (hb:Below w.heap.size w W) (hi:In A2 W) (hs:∀k,k<w.heap.size→A2 k→A k) (h1:(k2 :: p).length≤qc) (h2:qc≤9223372036854775807) (hr:RdX A2 W cs' (takeJ v k).1) (hqa:RdA w qa (k2 :: p))=>jh (k2 :: p) A2 (takeJ v k).1 cs' qa qc W hi hmt hp2 hst h1 h2 hr (hqa.below hb) (hT.below hb)
  have CL:=fun (A2:Nat→Prop) W cs' (hb:Below w.heap.size w W) (hi:In A2 W) (hs:∀k,k<w.heap.size→A2 k→A k) (hr:RdX A2 W cs' (goneJ (takeJ v k).1 (k2 :: p)).1)=>pG A2 v k (goneJ (takeJ v k).1 (k2 :: p)).1 cs ck cs' W hi sv hzl (RdV.sub rv (az hs hb)) (rk.stay hb) hr (hT.below hb)
  have rv0:=rv
  obtain⟨xk,xg,xa,xl,xc,xe,xs,xaa,xan,xac,xoa,xon,xoc,rfl⟩:=RdV.sevenB rv
  obtain⟨kk,kg,ka,kl,kc,ke,ks,kaa,kan,kac,koa,kon,koc,rfl⟩:=rk.sevenB
  refine zC A xk xg xa xl xc xe xs xaa xan xac xoa xon xoc kk kg ka kl kc ke ks kaa kan kac koa kon koc pb po ((k2 :: p).length+1) pc (k2 :: p) (takeJ v k).1 (goneJ (takeJ v k).1 (k2 :: p)).1 _ (takeJ v k).2 (goneJ (takeJ v k).1 (k2 :: p)).2 _ w hIn (by omega) (by simp;omega) hc3 hc2 (ax (hcell 0 _ rfl)) ⟨hcell 0 _ rfl,hcell 1 _ rfl,hcell 2 _ rfl,hcell 3 _ rfl,hcell 4 _ rfl,hcell 5 _ rfl,hcell 6 _ rfl⟩ hq1 CT ?_ ?_ v rv0 ?_ ?_
  ·intro _ _ A2 W cs' qa qc hb hi hs h1 h2 hr hqa
   exact CS A2 W cs' qa qc hb hi hs h1 h2 hr hqa
  ·intro h1 h0 h2 A2 W cs' hb hi hs hr
   have e:goneJ v (k :: k2 :: p)=layJ v k (goneJ (takeJ v k).1 (k2 :: p)).1:=by
    rw[goneJ,if_neg (by rintro (h | h);exact h h1;exact h0 h),if_neg (fun h=>h h2)]
   rw[e]
   exact CL A2 W cs' hb hi hs hr
  ·intro h
   rw[goneJ,if_pos h]
   exact⟨rfl,rfl⟩
  ·intro h1 h0 h2
   rw[goneJ,if_neg (by rintro (h | h);exact h h1;exact h0 h),if_pos h2]
   exact⟨rfl,rfl⟩
end Go.Proofs.YtcgbmmalfbpjaaaGreatDoor
