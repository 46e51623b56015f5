/-  -/
import Derived.Test.YtcgbmmalfbpjaaaGreatDoorPj
import Derived.Test.YtcgbmmalfbpjaaaGreatDoorPh
import Derived.Test.YtcgbmmalfbpjaaaGreatDoorPd
set_option maxRecDepth 100000
set_option maxHeartbeats 16000000
namespace Go.Proofs.YtcgbmmalfbpjaaaGreatDoor
open Go.RowKit
theorem KC (A:Nat→Prop)(xk:Int)(xg:Bool)(xa:Option Addr)(xl xc:Nat)(xe:Int)(xs:ByteArray)(xaa:Option Addr)(xan xac:Nat)(xoa:Option Addr)(xon xoc:Nat)(yk:Int)(yg:Bool)(ya:Option Addr)(yl yc:Nat)(ye:Int)(ys:ByteArray)(yaa:Option Addr)(yan yac:Nat)(yoa:Option Addr)(yon yoc:Nat)(zk:Int)(zg:Bool)(za:Option Addr)(zl zc:Nat)(ze:Int)(zs:ByteArray)(zaa:Option Addr)(zan zac:Nat)(zoa:Option Addr)(zon zoc:Nat)(r:JV)(er:Nat)(w:World)(hIn:In A w)
  (CR:∀W,Below w.heap.size w W→Calls Tryz.prog 52 #[.agg #[.int .i64 yk,.bool yg,.slice ya yl yc,.int .i64 ye,.string ys,.slice yaa yan yac,.slice yoa yon yoc]] W fun e w'=>e=.returned (.int .i64 1)∧Below W.heap.size W w')
  (CW:∀W,Below w.heap.size w W→In (And1 A (w.heap.size+1+1+1)) W→Calls Tryz.prog 92 #[.agg #[.int .i64 xk,.bool xg,.slice xa xl xc,.int .i64 xe,.string xs,.slice xaa xan xac,.slice xoa xon xoc],.string ys,.agg #[.int .i64 zk,.bool zg,.slice za zl zc,.int .i64 ze,.string zs,.slice zaa zan zac,.slice zoa zon zoc]] W (OutX (And1 A (w.heap.size+1+1+1)) W r er)) :
  Calls Tryz.prog 60 #[.agg #[.int .i64 xk,.bool xg,.slice xa xl xc,.int .i64 xe,.string xs,.slice xaa xan xac,.slice xoa xon xoc],.agg #[.int .i64 yk,.bool yg,.slice ya yl yc,.int .i64 ye,.string ys,.slice yaa yan yac,.slice yoa yon yoc],.agg #[.int .i64 zk,.bool zg,.slice za zl zc,.int .i64 ze,.string zs,.slice zaa zan zac,.slice zoa zon zoc]] w (OutX A w r er):=by
 have hwN:Hid (w.heap.size≤(w.heap.size+1+1+1)):=by show w.heap.size≤_;omega
 obtain⟨Q,hQ⟩:∃Q,Q=OutX A w r er:=⟨_,rfl⟩
 have hput:=hid (show ∀W' z0 z1 z2 z3 z4 z5 z6,RdX (And1 A (w.heap.size+1+1+1)) W' [z0,z1,z2,z3,z4,z5,z6] r→Below w.heap.size w W'→Q (.returned (.tuple #[.agg #[z0,z1,z2,z3,z4,z5,z6],.int .i64 er])) (W'.setCells (w.heap.size+1+1+1) 0 [z0,z1,z2,z3,z4,z5,z6]) from fun W' z0 z1 z2 z3 z4 z5 z6 h1 h2=>by rw[hQ];exact aW h1 h2 hwN.out)
 rw[←hQ]
 clear hQ
 obtain⟨W,hW⟩:∃W,W=(((w.alloc (.cells #[.int .i64 xk,.bool xg,.slice xa xl xc,.int .i64 xe,.string xs,.slice xaa xan xac,.slice xoa xon xoc] 28)).alloc (.cells #[.int .i64 yk,.bool yg,.slice ya yl yc,.int .i64 ye,.string ys,.slice yaa yan yac,.slice yoa yon yoc] 28)).alloc (.cells #[.int .i64 zk,.bool zg,.slice za zl zc,.int .i64 ze,.string zs,.slice zaa zan zac,.slice zoa zon zoc] 28)).alloc (.cells #[.int .i64 0,.bool false,.slice none 0 0,.int .i64 0,.string ⟨#[]⟩,.slice none 0 0,.slice none 0 0] 28):=⟨_,rfl⟩
 obtain⟨b0,b1,b2,b3,b4⟩:=Eb w #[.int .i64 xk,.bool xg,.slice xa xl xc,.int .i64 xe,.string xs,.slice xaa xan xac,.slice xoa xon xoc] #[.int .i64 yk,.bool yg,.slice ya yl yc,.int .i64 ye,.string ys,.slice yaa yan yac,.slice yoa yon yoc] #[.int .i64 zk,.bool zg,.slice za zl zc,.int .i64 ze,.string zs,.slice zaa zan zac,.slice zoa zon zoc] #[.int .i64 0,.bool false,.slice none 0 0,.int .i64 0,.string ⟨#[]⟩,.slice none 0 0,.slice none 0 0] 28 28 28 28
 rw[←hW] at b0 b1 b2 b3 b4
 have HI:=hid (hIn.new b0 (aC b4))
 have HB:=hid b0
 have HX:=hid b1
 have HY:=hid b2
 have HV:=hid b3
 have HZ:=hid b4
 replace hW:=hid hW.symm
 clear b0 b1 b2 b3 b4 hIn
 replace CR:=hid CR
 replace CW:=hid CW
 obtain⟨⟨y0,y1,y2,y3,y4,y5,y6⟩,_⟩:=ag HY.out
 go_enter Tryz.func60,Tryz.ntmps60
 go_upto_region 1 with fail
 rw[hW.out]
 go_wp2_with fail
 refine (CR.out _ HB.out).mono ?_
 rintro en w1 ⟨rfl,hb⟩
 have q1:=hid (ae HB.out hb)
 have z1:=hid (af HZ.out hb)
 have x1:=hid (af HX.out hb)
 have k1:=hid (af HY.out hb)
 have v1:=hid (af HV.out hb)
 have i1:=hid (HI.out.next hb)
 clear hb HB HX HY HZ HV HI hW y0 y1 y2 y3 y4 y5 y6 CR
 obtain⟨⟨p0,p1,p2,p3,p4,p5,p6⟩,_⟩:=ag x1.out
 obtain⟨⟨y0,y1,y2,y3,y4,y5,y6⟩,_⟩:=ag k1.out
 obtain⟨⟨u0,u1,u2,u3,u4,u5,u6⟩,_⟩:=ag v1.out
 go_wp2_with fail
 refine (CW.out _ q1.out i1.out).mono ?_
 rintro en w2 ⟨cs,rfl,hrd,hb⟩
 obtain⟨fk,fg,fa,fl,fc,fe,fs,faa,fan,fac,foa,fon,foc,rfl⟩:=RdV.sevenB hrd
 have q3:=hid (ae q1.out hb)
 obtain⟨⟨r0,r1,r2,r3,r4,r5,r6⟩,s0,s1,s2,s3,s4,s5,s6⟩:=ag (af z1.out hb)
 have hF:=hid (hput.out w2 _ _ _ _ _ _ _ hrd q3.out)
 clear hb hrd hput
 go_wp2_with fail
 refine bodyPost_ret (v:=.tuple #[.agg #[.int .i64 fk,.bool fg,.slice fa fl fc,.int .i64 fe,.string fs,.slice faa fan fac,.slice foa fon foc],.int .i64 er]) (by simp[results,Tryz.results60,go_sem,r0,r1,r2,r3,r4,r5,r6]) rfl ?_
 exact hF.out
theorem JL (A:Nat→Prop)(xk:Int)(xg:Bool)(xa:Option Addr)(xl xc:Nat)(xe:Int)(xs:ByteArray)(xaa:Option Addr)(xan xac:Nat)(xoa:Option Addr)(xon xoc:Nat)(yk:Int)(yg:Bool)(ya:Option Addr)(yl yc:Nat)(ye:Int)(ys:ByteArray)(yaa:Option Addr)(yan yac:Nat)(yoa:Option Addr)(yon yoc:Nat)(zk:Int)(zg:Bool)(za:Option Addr)(zl zc:Nat)(ze:Int)(zs:ByteArray)(zaa:Option Addr)(zan zac:Nat)(zoa:Option Addr)(zon zoc:Nat)(s:Nat)(w:World)(Q:Ending→World→Prop)(hIn:In A w)(hs:s≠1)(h0:xk≠0)(h5:xk≠5)
  (CR:∀W,Below w.heap.size w W→Calls Tryz.prog 52 #[.agg #[.int .i64 yk,.bool yg,.slice ya yl yc,.int .i64 ye,.string ys,.slice yaa yan yac,.slice yoa yon yoc]] W fun e w'=>e=.returned (.int .i64 s)∧Below W.heap.size W w')
  (hn:∀W,Below w.heap.size w W→Q (.returned (.tuple #[.agg #[.int .i64 0,.bool false,.slice none 0 0,.int .i64 0,.string ⟨#[]⟩,.slice none 0 0,.slice none 0 0],.int .i64 9])) (W.setCells (w.heap.size+1+1+1) 0 [.int .i64 0,.bool false,.slice none 0 0,.int .i64 0,.string ⟨#[]⟩,.slice none 0 0,.slice none 0 0])) :
  Calls Tryz.prog 60 #[.agg #[.int .i64 xk,.bool xg,.slice xa xl xc,.int .i64 xe,.string xs,.slice xaa xan xac,.slice xoa xon xoc],.agg #[.int .i64 yk,.bool yg,.slice ya yl yc,.int .i64 ye,.string ys,.slice yaa yan yac,.slice yoa yon yoc],.agg #[.int .i64 zk,.bool zg,.slice za zl zc,.int .i64 ze,.string zs,.slice zaa zan zac,.slice zoa zon zoc]] w Q:=by
 have g1:((s:Int) == 1)=false:=by rw[beq_eq_false_iff_ne];omega
 have f0:(xk != 0)=true:=by rw[bne_iff_ne];exact h0
 have f5:(xk != 5)=true:=by rw[bne_iff_ne];exact h5
 clear h0 h5 hs
 obtain⟨W,hW⟩:∃W,W=(((w.alloc (.cells #[.int .i64 xk,.bool xg,.slice xa xl xc,.int .i64 xe,.string xs,.slice xaa xan xac,.slice xoa xon xoc] 28)).alloc (.cells #[.int .i64 yk,.bool yg,.slice ya yl yc,.int .i64 ye,.string ys,.slice yaa yan yac,.slice yoa yon yoc] 28)).alloc (.cells #[.int .i64 zk,.bool zg,.slice za zl zc,.int .i64 ze,.string zs,.slice zaa zan zac,.slice zoa zon zoc] 28)).alloc (.cells #[.int .i64 0,.bool false,.slice none 0 0,.int .i64 0,.string ⟨#[]⟩,.slice none 0 0,.slice none 0 0] 28):=⟨_,rfl⟩
 obtain⟨b0,b1,b2,b3,b4⟩:=Eb w #[.int .i64 xk,.bool xg,.slice xa xl xc,.int .i64 xe,.string xs,.slice xaa xan xac,.slice xoa xon xoc] #[.int .i64 yk,.bool yg,.slice ya yl yc,.int .i64 ye,.string ys,.slice yaa yan yac,.slice yoa yon yoc] #[.int .i64 zk,.bool zg,.slice za zl zc,.int .i64 ze,.string zs,.slice zaa zan zac,.slice zoa zon zoc] #[.int .i64 0,.bool false,.slice none 0 0,.int .i64 0,.string ⟨#[]⟩,.slice none 0 0,.slice none 0 0] 28 28 28 28
 rw[←hW] at b0 b1 b2 b3 b4
 have HI:=hid (hIn.new b0 (aC b4))
 have HB:=hid b0
 have HX:=hid b1
 have HY:=hid b2
 have HV:=hid b3
 have HZ:=hid b4
 replace hW:=hid hW.symm
 clear b0 b1 b2 b3 b4 hIn
 replace CR:=hid CR
 replace hn:=hid hn
 obtain⟨⟨y0,y1,y2,y3,y4,y5,y6⟩,_⟩:=ag HY.out
 go_enter Tryz.func60,Tryz.ntmps60
 go_upto_region 1 with fail
 rw[hW.out]
 go_wp2_with fail
 refine (CR.out _ HB.out).mono ?_
 rintro en w1 ⟨rfl,hb⟩
 have q1:=hid (ae HB.out hb)
 have z1:=hid (af HZ.out hb)
 have x1:=hid (af HX.out hb)
 have k1:=hid (af HY.out hb)
 have v1:=hid (af HV.out hb)
 have i1:=hid (HI.out.next hb)
 clear hb HB HX HY HZ HV HI hW y0 y1 y2 y3 y4 y5 y6 CR
 obtain⟨⟨p0,p1,p2,p3,p4,p5,p6⟩,_⟩:=ag x1.out
 obtain⟨⟨r0,r1,r2,r3,r4,r5,r6⟩,s0,s1,s2,s3,s4,s5,s6⟩:=ag z1.out
 have hq:=hid (hn.out _ q1.out)
 clear hn
 go_wp2_with fail
 refine bodyPost_ret (v:=.tuple #[.agg #[.int .i64 0,.bool false,.slice none 0 0,.int .i64 0,.string ⟨#[]⟩,.slice none 0 0,.slice none 0 0],.int .i64 9]) (by simp[results,Tryz.results60,go_sem,r0,r1,r2,r3,r4,r5,r6]) rfl ?_
 exact hq.out
theorem KE (A:Nat→Prop)(xk:Int)(xg:Bool)(xa:Option Addr)(xl xc:Nat)(xe:Int)(xs:ByteArray)(xaa:Option Addr)(xan xac:Nat)(xoa:Option Addr)(xon xoc:Nat)(yk:Int)(yg:Bool)(ya:Option Addr)(yl yc:Nat)(ye:Int)(ys:ByteArray)(yaa:Option Addr)(yan yac:Nat)(yoa:Option Addr)(yon yoc:Nat)(zk:Int)(zg:Bool)(za:Option Addr)(zl zc:Nat)(ze:Int)(zs:ByteArray)(zaa:Option Addr)(zan zac:Nat)(zoa:Option Addr)(zon zoc:Nat)(l:List JV)(zv:JV)(i:Int)(er D:Nat)(w:World)(Q:Ending→World→Prop)(hIn:In A w)(hk:xk=0∨xk=5)(hxl:xan=l.length)(hxan:xan≤1048576)(hD:D≤201)
  (CR:∀W,Below w.heap.size w W→Calls Tryz.prog 52 #[.agg #[.int .i64 yk,.bool yg,.slice ya yl yc,.int .i64 ye,.string ys,.slice yaa yan yac,.slice yoa yon yoc]] W fun e w'=>e=.returned (.int .i64 2)∧Below W.heap.size W w')
  (CA:∀W,Below w.heap.size w W→Calls Tryz.prog 54 #[.agg #[.bool yg,.slice ya yl yc,.int .i64 ye],.int .i64 xan] W fun e w'=>e=.returned (.tuple #[.int .i64 i,.int .i64 er])∧Below W.heap.size W w')
  (rl:RdA (hideW A w) xaa l)(rz:RdX A w [.int .i64 zk,.bool zg,.slice za zl zc,.int .i64 ze,.string zs,.slice zaa zan zac,.slice zoa zon zoc] zv)
  (CD:er=0→0≤i→i≤65535→∀W cs,Below w.heap.size w W→RdV W cs (arrJ (fillJ l i.toNat zv))→Calls Tryz.prog 93 #[.agg cs.toArray,.int .i64 200] W fun en w'=>en=.returned (.int .i64 D)∧Below W.heap.size W w')
  (hn:∀err:Nat,((er≠0∧err=er)∨(er=0∧i<0∧err=3)∨(er=0∧65535<i∧err=10)∨(er=0∧0≤i∧i≤65535∧200<D∧err=6))→∀W,Below w.heap.size w W→Q (.returned (.tuple #[.agg #[.int .i64 0,.bool false,.slice none 0 0,.int .i64 0,.string ⟨#[]⟩,.slice none 0 0,.slice none 0 0],.int .i64 err])) (W.setCells (w.heap.size+1+1+1) 0 [.int .i64 0,.bool false,.slice none 0 0,.int .i64 0,.string ⟨#[]⟩,.slice none 0 0,.slice none 0 0]))
  (hR:er=0→0≤i→i≤65535→¬ 200<D→∀W q c,RdA (hideW (And1 A (w.heap.size+1+1+1)) W) q (fillJ l i.toNat zv)→((fillJ l i.toNat zv).length≤c∧c≤9223372036854775807)→Below w.heap.size w W→Q (.returned (.tuple #[.agg #[.int .i64 5,.bool false,.slice none 0 0,.int .i64 0,.string ⟨#[]⟩,.slice q (fillJ l i.toNat zv).length c,.slice none 0 0],.int .i64 0])) (W.setCells (w.heap.size+1+1+1) 0 [.int .i64 5,.bool false,.slice none 0 0,.int .i64 0,.string ⟨#[]⟩,.slice q (fillJ l i.toNat zv).length c,.slice none 0 0])) :
  Calls Tryz.prog 60 #[.agg #[.int .i64 xk,.bool xg,.slice xa xl xc,.int .i64 xe,.string xs,.slice xaa xan xac,.slice xoa xon xoc],.agg #[.int .i64 yk,.bool yg,.slice ya yl yc,.int .i64 ye,.string ys,.slice yaa yan yac,.slice yoa yon yoc],.agg #[.int .i64 zk,.bool zg,.slice za zl zc,.int .i64 ze,.string zs,.slice zaa zan zac,.slice zoa zon zoc]] w Q:=by
 have hkH:=hid hk
 have hRL:=hid (show ∀W,Below w.heap.size w W→RdA (hideW (And1 A (w.heap.size+1+1+1)) W) xaa l from fun W hb=>rl.sub (aH (A':=And1 A (w.heap.size+1+1+1)) (fun n hn h=>h.elim id fun e=>by omega) hb))
 have hRZ:=hid (show ∀W,Below w.heap.size w W→RdX (And1 A (w.heap.size+1+1+1)) W [.int .i64 zk,.bool zg,.slice za zl zc,.int .i64 ze,.string zs,.slice zaa zan zac,.slice zoa zon zoc] zv from fun W hb=>RdV.sub rz (aH (A':=And1 A (w.heap.size+1+1+1)) (fun n hn h=>h.elim id fun e=>by omega) hb))
 clear hk rl rz
 obtain⟨i0,j1,j2,j3,zz,j4,j5⟩:=jH
 replace j1:=hid j1
 replace j2:=hid j2
 replace j3:=hid j3
 replace j4:=hid j4
 replace j5:=hid j5
 have HXL:=hid hxl
 clear hxl
 obtain⟨W,hW⟩:∃W,W=(((w.alloc (.cells #[.int .i64 xk,.bool xg,.slice xa xl xc,.int .i64 xe,.string xs,.slice xaa xan xac,.slice xoa xon xoc] 28)).alloc (.cells #[.int .i64 yk,.bool yg,.slice ya yl yc,.int .i64 ye,.string ys,.slice yaa yan yac,.slice yoa yon yoc] 28)).alloc (.cells #[.int .i64 zk,.bool zg,.slice za zl zc,.int .i64 ze,.string zs,.slice zaa zan zac,.slice zoa zon zoc] 28)).alloc (.cells #[.int .i64 0,.bool false,.slice none 0 0,.int .i64 0,.string ⟨#[]⟩,.slice none 0 0,.slice none 0 0] 28):=⟨_,rfl⟩
 obtain⟨b0,b1,b2,b3,b4⟩:=Eb w #[.int .i64 xk,.bool xg,.slice xa xl xc,.int .i64 xe,.string xs,.slice xaa xan xac,.slice xoa xon xoc] #[.int .i64 yk,.bool yg,.slice ya yl yc,.int .i64 ye,.string ys,.slice yaa yan yac,.slice yoa yon yoc] #[.int .i64 zk,.bool zg,.slice za zl zc,.int .i64 ze,.string zs,.slice zaa zan zac,.slice zoa zon zoc] #[.int .i64 0,.bool false,.slice none 0 0,.int .i64 0,.string ⟨#[]⟩,.slice none 0 0,.slice none 0 0] 28 28 28 28
 rw[←hW] at b0 b1 b2 b3 b4
 have HI:=hid (hIn.new b0 (aC b4))
 have HB:=hid b0
 have HX:=hid b1
 have HY:=hid b2
 have HV:=hid b3
 have HZ:=hid b4
 replace hW:=hid hW.symm
 clear b0 b1 b2 b3 b4 hIn
 replace CR:=hid CR
 replace CA:=hid CA
 replace CD:=hid CD
 replace hn:=hid hn
 replace hR:=hid hR
 obtain⟨⟨y0,y1,y2,y3,y4,y5,y6⟩,_⟩:=ag HY.out
 go_enter Tryz.func60,Tryz.ntmps60
 go_upto_region 1 with fail
 rw[hW.out]
 go_wp2_with fail
 refine (CR.out _ HB.out).mono ?_
 rintro en w1 ⟨rfl,hb⟩
 have q1:=hid (ae HB.out hb)
 have z1:=hid (af HZ.out hb)
 have x1:=hid (af HX.out hb)
 have k1:=hid (af HY.out hb)
 have v1:=hid (af HV.out hb)
 have i1:=hid (HI.out.next hb)
 clear hb HB HX HY HZ HV HI hW y0 y1 y2 y3 y4 y5 y6 CR
 obtain⟨⟨p0,p1,p2,p3,p4,p5,p6⟩,_⟩:=ag x1.out
 go_upto_region 4 with fail
 go_cut [36] from 29 (fun v36 w'=>v36=.bool false∧w'=w1)
 case first =>
  rcases hkH.out with rfl | rfl
  all_goals
   go_wp2_with fail
   go_meet
   case rel=>exact⟨rfl,rfl⟩
 case rest =>
 obtain⟨rfl,hw3⟩:=hcut
 rw[hw3]
 clear hw3
 have O2:=hid (OutArr.start (And1 A (w.heap.size+1+1+1)) w1)
 have RL:=hid (hRL.out w1 q1.out)
 have RZ:=hid (hRZ.out w1 q1.out)
 clear hRL hRZ p0 p1 p2 p3 p4 p5 p6
 have q2:=hid (ae q1.out O2.out.bel)
 have z2:=hid (af z1.out O2.out.bel)
 have x2:=hid (af x1.out O2.out.bel)
 have v2:=hid (af v1.out O2.out.bel)
 have k2:=hid (af k1.out O2.out.bel)
 obtain⟨⟨p0,p1,p2,p3,p4,p5,p6⟩,_⟩:=ag x2.out
 obtain⟨⟨y0,y1,y2,y3,y4,y5,y6⟩,_⟩:=ag k2.out
 go_upto_region 7 with fail
 generalize w1.alloc (.cells #[.int .i64 5,.bool false,.slice none 0 0,.int .i64 0,.string ⟨#[]⟩,.slice none 0 0,.slice none 0 0] 28)=w2 at *
 go_upto_region 9 with fail
 go_wp2_with fail
 refine (CA.out _ q2.out).mono ?_
 rintro en w3 ⟨rfl,hb⟩
 have O3:=hid (O2.out.stay hb)
 clear hb p0 p1 p2 p3 p4 p5 p6 y0 y1 y2 y3 y4 y5 y6 CA q2 z2 x2 v2 k2 O2 k1
 have q3:=hid (ae q1.out O3.out.bel)
 have z3:=hid (af z1.out O3.out.bel)
 have x3:=hid (af x1.out O3.out.bel)
 have v3:=hid (af v1.out O3.out.bel)
 by_cases he:er=0
 rotate_left
 ·have g:((er:Int) != 0)=true:=by rw[bne_iff_ne];omega
  have hq:=hid (hn.out er (Or.inl ⟨he,rfl⟩) _ q3.out)
  obtain⟨⟨r0,r1,r2,r3,r4,r5,r6⟩,s0,s1,s2,s3,s4,s5,s6⟩:=ag z3.out
  clear hn hR CD he RL RZ
  go_wp2_with fail
  refine bodyPost_ret (v:=.tuple #[.agg #[.int .i64 0,.bool false,.slice none 0 0,.int .i64 0,.string ⟨#[]⟩,.slice none 0 0,.slice none 0 0],.int .i64 er]) (by simp[results,Tryz.results60,go_sem,r0,r1,r2,r3,r4,r5,r6]) rfl ?_
  exact hq.out
 subst he
 by_cases hi:i<0
 ·have hq:=hid (hn.out 3 (Or.inr (Or.inl ⟨rfl,hi,rfl⟩)) _ q3.out)
  obtain⟨⟨r0,r1,r2,r3,r4,r5,r6⟩,s0,s1,s2,s3,s4,s5,s6⟩:=ag z3.out
  clear hn hR CD RL RZ
  go_wp2_with fail
  refine bodyPost_ret (v:=.tuple #[.agg #[.int .i64 0,.bool false,.slice none 0 0,.int .i64 0,.string ⟨#[]⟩,.slice none 0 0,.slice none 0 0],.int .i64 3]) (by simp[results,Tryz.results60,go_sem,r0,r1,r2,r3,r4,r5,r6]) rfl ?_
  exact hq.out
 by_cases hi2:65535<i
 ·have hi3:i > 65535:=hi2
  have hq:=hid (hn.out 10 (Or.inr (Or.inr (Or.inl ⟨rfl,hi2,rfl⟩))) _ q3.out)
  obtain⟨⟨r0,r1,r2,r3,r4,r5,r6⟩,s0,s1,s2,s3,s4,s5,s6⟩:=ag z3.out
  clear hn hR CD RL RZ
  go_wp2_with fail
  refine bodyPost_ret (v:=.tuple #[.agg #[.int .i64 0,.bool false,.slice none 0 0,.int .i64 0,.string ⟨#[]⟩,.slice none 0 0,.slice none 0 0],.int .i64 10]) (by simp[results,Tryz.results60,go_sem,r0,r1,r2,r3,r4,r5,r6]) rfl ?_
  exact hq.out
 have hi3:¬ i > 65535:=hi2
 have CD2:=hid (CD.out rfl (by omega) (by omega))
 have hn2:=hid (fun h=>hn.out 6 (Or.inr (Or.inr (Or.inr ⟨rfl,by omega,by omega,h,rfl⟩))))
 have hR2:=hid (hR.out rfl (by omega) (by omega))
 clear CD hn hR
 go_upto_region 16 with fail
 obtain⟨m,rfl⟩:∃m:Nat,i=(m:Int):=⟨i.toNat,by omega⟩
 have hm:m≤65535:=by omega
 simp only[Int.toNat_natCast] at CD2 hR2
 clear hi hi2 hi3
 obtain⟨FL,hFL⟩:∃FL,FL=fillJ l m zv:=⟨_,rfl⟩
 obtain⟨M,hM⟩:∃M,M=max xan (m+1):=⟨_,rfl⟩
 have hfl:Hid (FL.length=M):=by show _=_;rw[hFL,IV,hM,HXL.out]
 have hfa:Hid (∀j,j<M→FL[j]? = some (if j=m then zv else if j<xan then l.getD j .null else .null)):=by
  intro j hj
  rw[hFL,HXL.out]
  exact JK (by rw[←HXL.out,←hM];exact hj)
 rw[←hFL] at CD2 hR2
 clear hFL
 have hMb:M≤1048577+65536:=by omega
 have hM1:xan≤M:=by omega
 have hM2:m+1≤M:=by omega
 go_upto_region 17 with fail
 go_loopw [13,14] (fun v13 _ wr=>∃(j:Nat) (V:Value),j≤M∧v13=.int .i64 j∧Hid (OutArr (And1 A (w.heap.size+1+1+1)) w1 wr V (FL.take j))) (fun v13 _ _=>M-(intOf v13).toNat)
 case atStart=>exact⟨0,_,Nat.zero_le _,rfl,O3⟩
 case round =>
  obtain⟨j,V,hj,rfl,O⟩:=hrel
  clear O3 q3 z3 x3 v3
  have X:=hid (af x1.out O.out.bel)
  have Z:=hid (af v1.out O.out.bel)
  obtain⟨⟨p0,p1,p2,p3,p4,p5,p6⟩,_⟩:=ag X.out
  obtain⟨⟨u0,u1,u2,u3,u4,u5,u6⟩,_⟩:=ag Z.out
  have hlx:w.heap.size<wr.heap.size:=aC X.out
  have hlz:w.heap.size+1+1<wr.heap.size:=aC Z.out
  have hlo:w1.heap.size<wr.heap.size:=aC O.out.blk
  obtain⟨⟨o0,o1,o2,o3,o4,o5,o6⟩,_⟩:=ag O.out.blk
  by_cases hlt:j<M
  ·have hfj:=hid (hfa.out j hlt)
   obtain⟨E,E1,E2⟩:=O.out.row
   have HE1:=hid E1
   have HE2:=hid E2
   have hEl:E.length≤j:=by
    have h1:E.length=(FL.take j).length:=by rw[←E1];simp
    rw[h1,List.length_take]
    omega
   clear E1 E2
   have hc:(j<xan∧j=m)∨(j<xan∧j≠m)∨(¬ j<xan∧j=m)∨(¬ j<xan∧j≠m):=by omega
   rcases hc with ⟨hj1,hjm⟩ | ⟨hj1,hjm⟩ | ⟨hj1,hjm⟩ | ⟨hj1,hjm⟩
   case' inl =>
    have hj2:(j:Int)<(xan:Int):=by omega
    have hje:((j:Int) == (m:Int))=true:=by rw[beq_iff_eq];omega
    have hjl:j<l.length:=by rw[←HXL.out];exact hj1
    obtain⟨cs,⟨b,off,rfl,hc⟩,hrd⟩:=RL.out j _ (List.getElem?_eq_getElem hjl)
    obtain⟨ck,cg,ca,cl,cc,ce,cs,caa,can,cac,coa,con,coc,rfl⟩:=hrd.sevenB
    have c0:=SubW.below O.out.bel _ _ (aF _ w1 _ _ (hc 0 _ rfl))
    have c1:=SubW.below O.out.bel _ _ (aF _ w1 _ _ (hc 1 _ rfl))
    have c2:=SubW.below O.out.bel _ _ (aF _ w1 _ _ (hc 2 _ rfl))
    have c3:=SubW.below O.out.bel _ _ (aF _ w1 _ _ (hc 3 _ rfl))
    have c4:=SubW.below O.out.bel _ _ (aF _ w1 _ _ (hc 4 _ rfl))
    have c5:=SubW.below O.out.bel _ _ (aF _ w1 _ _ (hc 5 _ rfl))
    have c6:=SubW.below O.out.bel _ _ (aF _ w1 _ _ (hc 6 _ rfl))
    rw[Nat.add_zero] at c0
    have hlb:=au c0
    obtain⟨e,he,hev⟩:∃e:ZE (hideW (And1 A (w.heap.size+1+1+1)) w1),Hid (e.cs=[.int .i64 zk,.bool zg,.slice za zl zc,.int .i64 ze,.string zs,.slice zaa zan zac,.slice zoa zon zoc])∧Hid (FL[j]? = some e.v):=⟨⟨_,zv,RZ.out⟩,rfl,hid (by rw[hfj.out,if_pos hjm])⟩
    clear hc hrd hjm
   case' inr.inl =>
    have hj2:(j:Int)<(xan:Int):=by omega
    have hje:((j:Int) == (m:Int))=false:=by rw[beq_eq_false_iff_ne];omega
    have hjl:j<l.length:=by rw[←HXL.out];exact hj1
    obtain⟨cs,⟨b,off,rfl,hc⟩,hrd⟩:=RL.out j _ (List.getElem?_eq_getElem hjl)
    obtain⟨ck,cg,ca,cl,cc,ce,cs,caa,can,cac,coa,con,coc,rfl⟩:=hrd.sevenB
    have c0:=SubW.below O.out.bel _ _ (aF _ w1 _ _ (hc 0 _ rfl))
    have c1:=SubW.below O.out.bel _ _ (aF _ w1 _ _ (hc 1 _ rfl))
    have c2:=SubW.below O.out.bel _ _ (aF _ w1 _ _ (hc 2 _ rfl))
    have c3:=SubW.below O.out.bel _ _ (aF _ w1 _ _ (hc 3 _ rfl))
    have c4:=SubW.below O.out.bel _ _ (aF _ w1 _ _ (hc 4 _ rfl))
    have c5:=SubW.below O.out.bel _ _ (aF _ w1 _ _ (hc 5 _ rfl))
    have c6:=SubW.below O.out.bel _ _ (aF _ w1 _ _ (hc 6 _ rfl))
    rw[Nat.add_zero] at c0
    have hlb:=au c0
    obtain⟨e,he,hev⟩:∃e:ZE (hideW (And1 A (w.heap.size+1+1+1)) w1),Hid (e.cs=[.int .i64 ck,.bool cg,.slice ca cl cc,.int .i64 ce,.string cs,.slice caa can cac,.slice coa con coc])∧Hid (FL[j]? = some e.v):=⟨⟨_,l[j],hrd⟩,rfl,hid (by rw[hfj.out,if_neg hjm,if_pos hj1,List.getD_eq_getElem?_getD,List.getElem?_eq_getElem hjl];rfl)⟩
    clear hc hrd hjm
   case' inr.inr.inl =>
    have hj2:¬ (j:Int)<(xan:Int):=by omega
    have hj3:(j:Int)≤(m:Int):=by omega
    have hje:((j:Int) == (m:Int))=true:=by rw[beq_iff_eq];omega
    obtain⟨e,he,hev⟩:∃e:ZE (hideW (And1 A (w.heap.size+1+1+1)) w1),Hid (e.cs=[.int .i64 zk,.bool zg,.slice za zl zc,.int .i64 ze,.string zs,.slice zaa zan zac,.slice zoa zon zoc])∧Hid (FL[j]? = some e.v):=⟨⟨_,zv,RZ.out⟩,rfl,hid (by rw[hfj.out,if_pos hjm])⟩
    clear hjm
   case' inr.inr.inr =>
    have hj2:¬ (j:Int)<(xan:Int):=by omega
    have hj3:(j:Int)≤(m:Int):=by omega
    have hje:((j:Int) == (m:Int))=false:=by rw[beq_eq_false_iff_ne];omega
    obtain⟨e,he,hev⟩:∃e:ZE (hideW (And1 A (w.heap.size+1+1+1)) w1),Hid (e.cs=[.int .i64 0,.bool false,.slice none 0 0,.int .i64 0,.string ⟨#[]⟩,.slice none 0 0,.slice none 0 0])∧Hid (FL[j]? = some e.v):=⟨zeroZ _,rfl,hid (by rw[hfj.out,if_neg hjm,if_neg hj1];rfl)⟩
    clear hjm
   all_goals
    have htk:=hid (show FL.take (j+1)=FL.take j ++ [e.v] by rw[List.take_add_one,hev.out];rfl)
    clear hfj hev
    go_upto_region 24 with fail
    go_wp2_with (at_builtin;refine ig rfl _ _ _ rfl (w1.heap.size+1) _ i0 zz 7 112 Tryz.underlying25 j1.out j4.out j2.out j3.out j5.out (by decide) _ E.length (E.flatMap ZE.cs) rfl (by exact aP HE2.out (aQ _ _ _)) _ 1 1 e.cs rfl (by rw[e.rd.len]) (by rw[he.out];exact JF _ _ _ _ _ _ _ _ _ _ (by simp)) (by exact fU e.rd) (by unfold maxLen;omega) (by omega) (by simp;omega) ?_;intro v' w' hown' hb';obtain⟨va',vn',vc',rfl⟩:=IE hown';have hOb:=O.out.box (aQ _ _ _) hb';have hfin:=hid (OutArr.more1 (O.out.stay (aQ _ _ _)) HE1.out hown' hb');obtain⟨⟨t0,t1,t2,t3,t4,t5,t6⟩,f0,f1,f2,f3,f4,f5,f6⟩:=ag hOb;clear hown' hb' hOb)
    go_roundw
    case rel=>exact⟨j+1,.slice va' vn' vc',by omega,by first | rfl | go_num,hid (by rw[htk.out];exact hfin.out)⟩
    case measure=>simp[intOf];omega
  ·obtain rfl:j=M:=by omega
   have et:FL.take j=FL:=List.take_of_length_le (by rw[hfl.out];exact Nat.le_refl _)
   rw[et] at O
   clear et
   have hj2:¬ (j:Int)<(xan:Int):=by omega
   have hj3:¬ (j:Int)≤(m:Int):=by omega
   clear hlt X Z u0 u1 u2 u3 u4 u5 u6 o0 o1 o2 o3 o4 o5 o6
   go_upto_region 33 with fail
   obtain⟨q,c,rfl,ra,rc⟩:=O.out.final i1.out
   have C4:=hid (CD2.out wr _ (ae q1.out O.out.bel) (RdX.rd (jI ra rc)))
   obtain⟨⟨o0,o1,o2,o3,o4,o5,o6⟩,_⟩:=ag O.out.blk
   clear ra rc CD2
   go_wp2_with fail
   refine C4.out.mono ?_
   rintro en w5 ⟨rfl,hb⟩
   have O5:=hid (O.out.stay hb)
   have q5:=hid (ae q1.out O5.out.bel)
   have z5:=hid (af z1.out O5.out.bel)
   clear hb C4 o0 o1 o2 o3 o4 o5 o6
   obtain⟨q9,c9,hV9,ra,rc⟩:=O5.out.final i1.out
   injection hV9 with e1 _ e3
   subst e1 e3
   obtain⟨⟨o0,o1,o2,o3,o4,o5,o6⟩,_⟩:=ag O5.out.blk
   obtain⟨⟨r0,r1,r2,r3,r4,r5,r6⟩,s0,s1,s2,s3,s4,s5,s6⟩:=ag z5.out
   by_cases hd:200<D
   ·have hd2:(D:Int) > 200:=by omega
    have hq:=hid (hn2.out hd _ q5.out)
    clear hn2 hR2 hd ra rc
    go_wp2_with fail
    refine bodyPost_ret (v:=.tuple #[.agg #[.int .i64 0,.bool false,.slice none 0 0,.int .i64 0,.string ⟨#[]⟩,.slice none 0 0,.slice none 0 0],.int .i64 6]) (by simp[results,Tryz.results60,go_sem,r0,r1,r2,r3,r4,r5,r6]) rfl ?_
    exact hq.out
   ·have hd2:¬ (D:Int) > 200:=by omega
    have hq:=hid (hR2.out hd w5 q c ra rc q5.out)
    clear hn2 hR2 hd ra rc
    go_wp2_with fail
    refine bodyPost_ret (v:=.tuple #[.agg #[.int .i64 5,.bool false,.slice none 0 0,.int .i64 0,.string ⟨#[]⟩,.slice q (FL).length c,.slice none 0 0],.int .i64 0]) (by simp[results,Tryz.results60,go_sem,r0,r1,r2,r3,r4,r5,r6]) rfl ?_
    exact hq.out
theorem KF (A:Nat→Prop)(xk:Int)(xg:Bool)(xa:Option Addr)(xl xc:Nat)(xe:Int)(xs:ByteArray)(xaa:Option Addr)(xan xac:Nat)(xoa:Option Addr)(xon xoc:Nat)(yk:Int)(yg:Bool)(ya:Option Addr)(yl yc:Nat)(ye:Int)(ys:ByteArray)(yaa:Option Addr)(yan yac:Nat)(yoa:Option Addr)(yon yoc:Nat)(zk:Int)(zg:Bool)(za:Option Addr)(zl zc:Nat)(ze:Int)(zs:ByteArray)(zaa:Option Addr)(zan zac:Nat)(zoa:Option Addr)(zon zoc:Nat)(l lm:List JV)(F T E D:Nat)(w:World)(Q:Ending→World→Prop)(hIn:In A w)(hk:xk=0∨xk=5)(hxl:xan=l.length)(hxan:xan≤1048576)(hzl:zan=lm.length)(hzan:zan≤274877906944)(hcap:xan≤xac∧xac≤9223372036854775807)(hFT:F≤T)(hT:T≤xan)(hD:D≤201)
  (CR:∀W,Below w.heap.size w W→Calls Tryz.prog 52 #[.agg #[.int .i64 yk,.bool yg,.slice ya yl yc,.int .i64 ye,.string ys,.slice yaa yan yac,.slice yoa yon yoc]] W fun e w'=>e=.returned (.int .i64 3)∧Below W.heap.size W w')
  (CB:∀W,Below w.heap.size w W→Calls Tryz.prog 55 #[.agg #[.int .i64 yk,.bool yg,.slice ya yl yc,.int .i64 ye,.string ys,.slice yaa yan yac,.slice yoa yon yoc],.int .i64 xan] W fun e w'=>e=.returned (.tuple #[.int .i64 F,.int .i64 T,.int .i64 E])∧Below W.heap.size W w')
  (rl:RdA (hideW A w) xaa l)(rm:RdA (hideW A w) zaa lm)
  (CD:zk=5→E=0→∀W cs,Below w.heap.size w W→RdV W cs (arrJ (l.take F ++ (lm ++ l.drop T)))→Calls Tryz.prog 93 #[.agg cs.toArray,.int .i64 200] W fun en w'=>en=.returned (.int .i64 D)∧Below W.heap.size W w')
  (hn:∀err:Nat,((zk≠5∧err=9)∨(zk=5∧E≠0∧err=E)∨(zk=5∧E=0∧200<D∧err=6))→∀W,Below w.heap.size w W→Q (.returned (.tuple #[.agg #[.int .i64 0,.bool false,.slice none 0 0,.int .i64 0,.string ⟨#[]⟩,.slice none 0 0,.slice none 0 0],.int .i64 err])) (W.setCells (w.heap.size+1+1+1) 0 [.int .i64 0,.bool false,.slice none 0 0,.int .i64 0,.string ⟨#[]⟩,.slice none 0 0,.slice none 0 0]))
  (hR:zk=5→E=0→¬ 200<D→∀W q c,RdA (hideW (And1 A (w.heap.size+1+1+1)) W) q (l.take F ++ (lm ++ l.drop T))→((l.take F ++ (lm ++ l.drop T)).length≤c∧c≤9223372036854775807)→Below w.heap.size w W→Q (.returned (.tuple #[.agg #[.int .i64 5,.bool false,.slice none 0 0,.int .i64 0,.string ⟨#[]⟩,.slice q (l.take F ++ (lm ++ l.drop T)).length c,.slice none 0 0],.int .i64 0])) (W.setCells (w.heap.size+1+1+1) 0 [.int .i64 5,.bool false,.slice none 0 0,.int .i64 0,.string ⟨#[]⟩,.slice q (l.take F ++ (lm ++ l.drop T)).length c,.slice none 0 0])) :
  Calls Tryz.prog 60 #[.agg #[.int .i64 xk,.bool xg,.slice xa xl xc,.int .i64 xe,.string xs,.slice xaa xan xac,.slice xoa xon xoc],.agg #[.int .i64 yk,.bool yg,.slice ya yl yc,.int .i64 ye,.string ys,.slice yaa yan yac,.slice yoa yon yoc],.agg #[.int .i64 zk,.bool zg,.slice za zl zc,.int .i64 ze,.string zs,.slice zaa zan zac,.slice zoa zon zoc]] w Q:=by
 have hkH:=hid hk
 have hRL:=hid (show ∀W,Below w.heap.size w W→RdA (hideW (And1 A (w.heap.size+1+1+1)) W) xaa l from fun W hb=>rl.sub (aH (A':=And1 A (w.heap.size+1+1+1)) (fun n hn h=>h.elim id fun e=>by omega) hb))
 have hRM:=hid (show ∀W,Below w.heap.size w W→RdA (hideW (And1 A (w.heap.size+1+1+1)) W) zaa lm from fun W hb=>rm.sub (aH (A':=And1 A (w.heap.size+1+1+1)) (fun n hn h=>h.elim id fun e=>by omega) hb))
 clear hk rl rm
 obtain⟨i0,j1,j2,j3,zz,j4,j5⟩:=jH
 replace j1:=hid j1
 replace j2:=hid j2
 replace j3:=hid j3
 replace j4:=hid j4
 replace j5:=hid j5
 have HXL:=hid hxl
 have HZL:=hid hzl
 clear hxl hzl
 obtain⟨W,hW⟩:∃W,W=(((w.alloc (.cells #[.int .i64 xk,.bool xg,.slice xa xl xc,.int .i64 xe,.string xs,.slice xaa xan xac,.slice xoa xon xoc] 28)).alloc (.cells #[.int .i64 yk,.bool yg,.slice ya yl yc,.int .i64 ye,.string ys,.slice yaa yan yac,.slice yoa yon yoc] 28)).alloc (.cells #[.int .i64 zk,.bool zg,.slice za zl zc,.int .i64 ze,.string zs,.slice zaa zan zac,.slice zoa zon zoc] 28)).alloc (.cells #[.int .i64 0,.bool false,.slice none 0 0,.int .i64 0,.string ⟨#[]⟩,.slice none 0 0,.slice none 0 0] 28):=⟨_,rfl⟩
 obtain⟨b0,b1,b2,b3,b4⟩:=Eb w #[.int .i64 xk,.bool xg,.slice xa xl xc,.int .i64 xe,.string xs,.slice xaa xan xac,.slice xoa xon xoc] #[.int .i64 yk,.bool yg,.slice ya yl yc,.int .i64 ye,.string ys,.slice yaa yan yac,.slice yoa yon yoc] #[.int .i64 zk,.bool zg,.slice za zl zc,.int .i64 ze,.string zs,.slice zaa zan zac,.slice zoa zon zoc] #[.int .i64 0,.bool false,.slice none 0 0,.int .i64 0,.string ⟨#[]⟩,.slice none 0 0,.slice none 0 0] 28 28 28 28
 rw[←hW] at b0 b1 b2 b3 b4
 have HI:=hid (hIn.new b0 (aC b4))
 have HB:=hid b0
 have HX:=hid b1
 have HY:=hid b2
 have HV:=hid b3
 have HZ:=hid b4
 replace hW:=hid hW.symm
 clear b0 b1 b2 b3 b4 hIn
 replace CR:=hid CR
 replace CB:=hid CB
 replace CD:=hid CD
 replace hn:=hid hn
 replace hR:=hid hR
 obtain⟨⟨y0,y1,y2,y3,y4,y5,y6⟩,_⟩:=ag HY.out
 go_enter Tryz.func60,Tryz.ntmps60
 go_upto_region 1 with fail
 rw[hW.out]
 go_wp2_with fail
 refine (CR.out _ HB.out).mono ?_
 rintro en w1 ⟨rfl,hb⟩
 have q1:=hid (ae HB.out hb)
 have z1:=hid (af HZ.out hb)
 have x1:=hid (af HX.out hb)
 have k1:=hid (af HY.out hb)
 have v1:=hid (af HV.out hb)
 have i1:=hid (HI.out.next hb)
 clear hb HB HX HY HZ HV HI hW y0 y1 y2 y3 y4 y5 y6 CR
 obtain⟨⟨p0,p1,p2,p3,p4,p5,p6⟩,_⟩:=ag x1.out
 go_upto_region 4 with fail
 go_cut [36] from 29 (fun v36 w'=>v36=.bool false∧w'=w1)
 case first =>
  rcases hkH.out with rfl | rfl
  all_goals
   go_wp2_with fail
   go_meet
   case rel=>exact⟨rfl,rfl⟩
 case rest =>
 obtain⟨rfl,hw3⟩:=hcut
 rw[hw3]
 clear hw3
 have O2:=hid (OutArr.start (And1 A (w.heap.size+1+1+1)) w1)
 have RL:=hid (hRL.out w1 q1.out)
 have RM:=hid (hRM.out w1 q1.out)
 clear hRL hRM p0 p1 p2 p3 p4 p5 p6
 have q2:=hid (ae q1.out O2.out.bel)
 have z2:=hid (af z1.out O2.out.bel)
 have x2:=hid (af x1.out O2.out.bel)
 have v2:=hid (af v1.out O2.out.bel)
 have k2:=hid (af k1.out O2.out.bel)
 obtain⟨⟨p0,p1,p2,p3,p4,p5,p6⟩,_⟩:=ag x2.out
 obtain⟨⟨u0,u1,u2,u3,u4,u5,u6⟩,_⟩:=ag v2.out
 obtain⟨⟨y0,y1,y2,y3,y4,y5,y6⟩,_⟩:=ag k2.out
 go_upto_region 7 with fail
 generalize w1.alloc (.cells #[.int .i64 5,.bool false,.slice none 0 0,.int .i64 0,.string ⟨#[]⟩,.slice none 0 0,.slice none 0 0] 28)=w2 at *
 go_upto_region 25 with fail
 by_cases hz5:zk=5
 rotate_left
 ·have g:(zk != 5)=true:=by rw[bne_iff_ne];exact hz5
  have hq:=hid (hn.out 9 (Or.inl ⟨hz5,rfl⟩) _ q2.out)
  obtain⟨⟨r0,r1,r2,r3,r4,r5,r6⟩,s0,s1,s2,s3,s4,s5,s6⟩:=ag z2.out
  clear hn hR CD hz5 RL RM
  go_wp2_with fail
  refine bodyPost_ret (v:=.tuple #[.agg #[.int .i64 0,.bool false,.slice none 0 0,.int .i64 0,.string ⟨#[]⟩,.slice none 0 0,.slice none 0 0],.int .i64 9]) (by simp[results,Tryz.results60,go_sem,r0,r1,r2,r3,r4,r5,r6]) rfl ?_
  exact hq.out
 subst hz5
 go_wp2_with fail
 refine (CB.out _ q2.out).mono ?_
 rintro en w3 ⟨rfl,hb⟩
 have O3:=hid (O2.out.stay hb)
 clear hb p0 p1 p2 p3 p4 p5 p6 u0 u1 u2 u3 u4 u5 u6 y0 y1 y2 y3 y4 y5 y6 CB q2 z2 x2 v2 k2 O2 k1
 have q3:=hid (ae q1.out O3.out.bel)
 have z3:=hid (af z1.out O3.out.bel)
 have x3:=hid (af x1.out O3.out.bel)
 have v3:=hid (af v1.out O3.out.bel)
 by_cases he:E=0
 rotate_left
 ·have g:((E:Int) != 0)=true:=by rw[bne_iff_ne];omega
  have hq:=hid (hn.out E (Or.inr (Or.inl ⟨by simp,he,rfl⟩)) _ q3.out)
  obtain⟨⟨r0,r1,r2,r3,r4,r5,r6⟩,s0,s1,s2,s3,s4,s5,s6⟩:=ag z3.out
  clear hn hR CD he RL RM
  go_wp2_with fail
  refine bodyPost_ret (v:=.tuple #[.agg #[.int .i64 0,.bool false,.slice none 0 0,.int .i64 0,.string ⟨#[]⟩,.slice none 0 0,.slice none 0 0],.int .i64 E]) (by simp[results,Tryz.results60,go_sem,r0,r1,r2,r3,r4,r5,r6]) rfl ?_
  exact hq.out
 have CD2:=hid (CD.out (by simp) he)
 have hn2:=hid (fun h=>hn.out 6 (Or.inr (Or.inr ⟨by simp,he,h,rfl⟩)))
 have hR2:=hid (hR.out (by simp) he)
 subst he
 clear CD hn hR q3 z3 v3
 obtain⟨hc1,hc2⟩:=hcap
 have hFc:F≤xac:=by omega
 have hTc:T≤xac:=by omega
 obtain⟨⟨p0,p1,p2,p3,p4,p5,p6⟩,_⟩:=ag x3.out
 have hlx:w.heap.size<w3.heap.size:=aC x3.out
 have hlo:w1.heap.size<w3.heap.size:=aC O3.out.blk
 go_upto_region 30 with fail
 go_cut [] from 105 to 112 (fun w'=>∃V,Hid (OutArr (And1 A (w.heap.size+1+1+1)) w1 w' V (l.take F)))
 case first =>
  obtain⟨G,g1,gn,gN⟩:=RdA.app (RdA.take RL.out F) O3.out.bel
  obtain⟨E,E1,E2⟩:=O3.out.row
  have hEl:E.length=(([]:List JV)).length:=by rw[←E1];simp
  have gL:=hid (show (G.flatMap ZE.cs).length=F * 7 by rw[bn,gn];rw[List.length_take,←HXL.out];omega)
  have gn2:G.length=F:=by rw[gn];rw[List.length_take,←HXL.out];omega
  replace gn:=hid gn2
  have HE1:=hid E1
  have HE2:=hid E2
  replace g1:=hid g1
  replace gN:=hid gN
  have hE0:E.length=0:=hEl
  clear E1 E2 gn2
  obtain⟨⟨o0,o1,o2,o3,o4,o5,o6⟩,_⟩:=ag O3.out.blk
  go_region_law (refine IJ rfl _ _ _ rfl (w1.heap.size+1) _ i0 zz 7 112 Tryz.underlying25 j1.out j4.out j2.out j3.out j5.out (by decide) (.slice none 0 0) E.length (E.flatMap ZE.cs) (by simp[Act.eval,Act.put]) (by exact aP HE2.out (Below.refl _ _).drew) xaa F xac (G.flatMap ZE.cs) (by simp[Act.eval,Act.put]) gL.out (fun j u h=>gN.out j u h) (mQ G) (by unfold maxLen;omega) (by omega) (by exact O3.out.size) ?_;intro v' w' hown' hb';obtain⟨va',vn',vc',rfl⟩:=IE hown';have hOb:=O3.out.box ((Below.refl _ _).drew) hb';have hfin:=hid (OutArr.more (O3.out.stay ((Below.refl _ _).drew)) HE1.out (by rw[gn.out];exact hown') hb');obtain⟨⟨t0,t1,t2,t3,t4,t5,t6⟩,f0,f1,f2,f3,f4,f5,f6⟩:=ag hOb;clear hown' hb' hOb)
  all_goals
   go_wp2_with fail
   go_meet
   case rel=>exact⟨_,hid (by have h:=hfin.out;rw[g1.out] at h;exact h)⟩
 case rest =>
 obtain⟨V4,O4⟩:=hcut
 clear p0 p1 p2 p3 p4 p5 p6 x3 O3 hlx hlo
 have v4:=hid (af v1.out O4.out.bel)
 obtain⟨⟨u0,u1,u2,u3,u4,u5,u6⟩,_⟩:=ag v4.out
 go_upto_region 31 with fail
 go_cut [] from 113 to 118 (fun w'=>∃V,Hid (OutArr (And1 A (w.heap.size+1+1+1)) w1 w' V (l.take F ++ lm)))
 case first =>
  obtain⟨G,g1,gn,gN⟩:=RdA.app RM.out O4.out.bel
  obtain⟨E,E1,E2⟩:=O4.out.row
  have hEl:E.length=(l.take F).length:=by rw[←E1];simp
  have gL:=hid (show (G.flatMap ZE.cs).length=zan * 7 by rw[bn,gn];rw[←HZL.out])
  have gn2:G.length=zan:=by rw[gn];rw[←HZL.out]
  replace gn:=hid gn2
  have HE1:=hid E1
  have HE2:=hid E2
  replace g1:=hid g1
  replace gN:=hid gN
  have hE0:E.length≤1048576:=by rw[hEl,List.length_take];omega
  clear E1 E2 gn2
  obtain⟨⟨o0,o1,o2,o3,o4,o5,o6⟩,_⟩:=ag O4.out.blk
  go_wp2_with (at_builtin;refine ig rfl _ _ _ rfl (w1.heap.size+1) _ i0 zz 7 112 Tryz.underlying25 j1.out j4.out j2.out j3.out j5.out (by decide) V4 E.length (E.flatMap ZE.cs) rfl HE2.out zaa zan zac (G.flatMap ZE.cs) rfl gL.out gN.out (mQ G) (by unfold maxLen;omega) (by omega) (by exact O4.out.size) ?_;intro v' w' hown' hb';obtain⟨va',vn',vc',rfl⟩:=IE hown';have hOb:=O4.out.box (Below.refl _ _) hb';have hfin:=hid (OutArr.more (O4.out.stay (Below.refl _ _)) HE1.out (by rw[gn.out];exact hown') hb');obtain⟨⟨t0,t1,t2,t3,t4,t5,t6⟩,f0,f1,f2,f3,f4,f5,f6⟩:=ag hOb;clear hown' hb' hOb)
  all_goals
   go_wp2_with fail
   go_meet
   case rel=>exact⟨_,hid (by have h:=hfin.out;rw[g1.out] at h;exact h)⟩
 case rest =>
 obtain⟨V5,O5'⟩:=hcut
 clear u0 u1 u2 u3 u4 u5 u6 v4 O4
 have x4:=hid (af x1.out O5'.out.bel)
 obtain⟨⟨p0,p1,p2,p3,p4,p5,p6⟩,_⟩:=ag x4.out
 have hlx:w.heap.size<wc.heap.size:=aC x4.out
 have hlo:w1.heap.size<wc.heap.size:=aC O5'.out.blk
 go_upto_region 32 with fail
 go_cut [] from 119 to 126 (fun w'=>∃V,Hid (OutArr (And1 A (w.heap.size+1+1+1)) w1 w' V (l.take F ++ (lm ++ l.drop T))))
 case first =>
  have hq1:=rV (T:=T) RL.out (ac:=xac) (by rw[←HXL.out];exact hc1)
  by_cases hcF:xac=T
  ·rw[if_pos hcF] at hq1
   have hcT:(xac=T) ↔ True:=iff_of_true hcF trivial
   clear hcF
   obtain⟨G,g1,gn,gN⟩:=RdA.app hq1 O5'.out.bel
   obtain⟨E,E1,E2⟩:=O5'.out.row
   have hEl:E.length=(l.take F ++ lm).length:=by rw[←E1];simp
   have gL:=hid (show (G.flatMap ZE.cs).length=(xan-T) * 7 by rw[bn,gn];rw[List.length_drop,←HXL.out])
   have gn2:G.length=(xan-T):=by rw[gn];rw[List.length_drop,←HXL.out]
   replace gn:=hid gn2
   have HE1:=hid E1
   have HE2:=hid E2
   replace g1:=hid g1
   replace gN:=hid gN
   have hE0:E.length≤1048576+274877906944:=by rw[hEl,List.length_append,List.length_take,←HZL.out];omega
   clear E1 E2 gn2
   obtain⟨⟨o0,o1,o2,o3,o4,o5,o6⟩,_⟩:=ag O5'.out.blk
   go_region_law (refine IJ rfl _ _ _ rfl (w1.heap.size+1) _ i0 zz 7 112 Tryz.underlying25 j1.out j4.out j2.out j3.out j5.out (by decide) V5 E.length (E.flatMap ZE.cs) (by simp[Act.eval,Act.put]) (by exact aP HE2.out (Below.refl _ _).drew) xaa (xan-T) (xac-T) (G.flatMap ZE.cs) (by simp[Act.eval,Act.put]) gL.out (fun j u h=>gN.out j u h) (mQ G) (by unfold maxLen;omega) (by omega) (by exact O5'.out.size) ?_;intro v' w' hown' hb';obtain⟨va',vn',vc',rfl⟩:=IE hown';have hOb:=O5'.out.box ((Below.refl _ _).drew) hb';have hfin:=hid (OutArr.more (O5'.out.stay ((Below.refl _ _).drew)) HE1.out (by rw[gn.out];exact hown') hb');obtain⟨⟨t0,t1,t2,t3,t4,t5,t6⟩,f0,f1,f2,f3,f4,f5,f6⟩:=ag hOb;clear hown' hb' hOb)
   all_goals
    go_wp2_with fail
    go_meet
    case rel=>exact⟨_,hid (by have h:=hfin.out;rw[g1.out] at h;exact (by rw[←List.append_assoc];exact h))⟩
  ·rw[if_neg hcF] at hq1
   obtain⟨G,g1,gn,gN⟩:=RdA.app hq1 O5'.out.bel
   obtain⟨E,E1,E2⟩:=O5'.out.row
   have hEl:E.length=(l.take F ++ lm).length:=by rw[←E1];simp
   have gL:=hid (show (G.flatMap ZE.cs).length=(xan-T) * 7 by rw[bn,gn];rw[List.length_drop,←HXL.out])
   have gn2:G.length=(xan-T):=by rw[gn];rw[List.length_drop,←HXL.out]
   replace gn:=hid gn2
   have HE1:=hid E1
   have HE2:=hid E2
   replace g1:=hid g1
   replace gN:=hid gN
   have hE0:E.length≤1048576+274877906944:=by rw[hEl,List.length_append,List.length_take,←HZL.out];omega
   clear E1 E2 gn2
   obtain⟨⟨o0,o1,o2,o3,o4,o5,o6⟩,_⟩:=ag O5'.out.blk
   go_region_law (refine IJ rfl _ _ _ rfl (w1.heap.size+1) _ i0 zz 7 112 Tryz.underlying25 j1.out j4.out j2.out j3.out j5.out (by decide) V5 E.length (E.flatMap ZE.cs) (by simp[Act.eval,Act.put]) (by exact aP HE2.out (Below.refl _ _).drew) (xaa.map (fun x=>x.add (T * 7))) (xan-T) (xac-T) (G.flatMap ZE.cs) (by simp[Act.eval,Act.put]) gL.out (fun j u h=>gN.out j u h) (mQ G) (by unfold maxLen;omega) (by omega) (by exact O5'.out.size) ?_;intro v' w' hown' hb';obtain⟨va',vn',vc',rfl⟩:=IE hown';have hOb:=O5'.out.box ((Below.refl _ _).drew) hb';have hfin:=hid (OutArr.more (O5'.out.stay ((Below.refl _ _).drew)) HE1.out (by rw[gn.out];exact hown') hb');obtain⟨⟨t0,t1,t2,t3,t4,t5,t6⟩,f0,f1,f2,f3,f4,f5,f6⟩:=ag hOb;clear hown' hb' hOb)
   all_goals
    go_wp2_with fail
    go_meet
    case rel=>exact⟨_,hid (by have h:=hfin.out;rw[g1.out] at h;exact (by rw[←List.append_assoc];exact h))⟩
 case rest =>
 obtain⟨V6,O6⟩:=hcut
 clear p0 p1 p2 p3 p4 p5 p6 x4 O5' hlx hlo
 obtain⟨FL,hFL⟩:∃FL,FL=l.take F ++ (lm ++ l.drop T):=⟨_,rfl⟩
 rw[←hFL] at O6 CD2 hR2
 clear hFL RL RM
 obtain⟨q,c,rfl,ra,rc⟩:=O6.out.final i1.out
 have C4:=hid (CD2.out wc _ (ae q1.out O6.out.bel) (RdX.rd (jI ra rc)))
 obtain⟨⟨o0,o1,o2,o3,o4,o5,o6⟩,_⟩:=ag O6.out.blk
 clear ra rc CD2
 go_wp2_with fail
 refine C4.out.mono ?_
 rintro en w5 ⟨rfl,hb⟩
 have O5:=hid (O6.out.stay hb)
 have q5:=hid (ae q1.out O5.out.bel)
 have z5:=hid (af z1.out O5.out.bel)
 clear hb C4 o0 o1 o2 o3 o4 o5 o6
 obtain⟨q9,c9,hV9,ra,rc⟩:=O5.out.final i1.out
 injection hV9 with e1 _ e3
 subst e1 e3
 obtain⟨⟨o0,o1,o2,o3,o4,o5,o6⟩,_⟩:=ag O5.out.blk
 obtain⟨⟨r0,r1,r2,r3,r4,r5,r6⟩,s0,s1,s2,s3,s4,s5,s6⟩:=ag z5.out
 by_cases hd:200<D
 ·have hd2:(D:Int) > 200:=by omega
  have hq:=hid (hn2.out hd _ q5.out)
  clear hn2 hR2 hd ra rc
  go_wp2_with fail
  refine bodyPost_ret (v:=.tuple #[.agg #[.int .i64 0,.bool false,.slice none 0 0,.int .i64 0,.string ⟨#[]⟩,.slice none 0 0,.slice none 0 0],.int .i64 6]) (by simp[results,Tryz.results60,go_sem,r0,r1,r2,r3,r4,r5,r6]) rfl ?_
  exact hq.out
 ·have hd2:¬ (D:Int) > 200:=by omega
  have hq:=hid (hR2.out hd w5 q c ra rc q5.out)
  clear hn2 hR2 hd ra rc
  go_wp2_with fail
  refine bodyPost_ret (v:=.tuple #[.agg #[.int .i64 5,.bool false,.slice none 0 0,.int .i64 0,.string ⟨#[]⟩,.slice q (FL).length c,.slice none 0 0],.int .i64 0]) (by simp[results,Tryz.results60,go_sem,r0,r1,r2,r3,r4,r5,r6]) rfl ?_
  exact hq.out
theorem KD (A:Nat→Prop)(v k z:JV)(cs ck cz:List Value)(w:World)(hIn:In A w)(sv:SmallV v)(hk:mayJ 200 k=true)(hne:readS k≠.none)(hzl:z.arr.length≤274877906944)(rv:RdX A w cs v)(rk:RdV w ck k)(rz:RdX A w cz z) :
  Calls Tryz.prog 60 #[.agg cs.toArray,.agg ck.toArray,.agg cz.toArray] w (OutX A w (layJ v k z).1 (layJ v k z).2):=by
 have hd:=BG k (bz.1 hk).2
 have CR:∀(s:Nat),stepN k=s→∀W,Below w.heap.size w W→Calls Tryz.prog 52 #[.agg ck.toArray] W fun e w'=>e=.returned (.int .i64 s)∧Below W.heap.size W w':=fun s hs W hb=>by subst hs;exact yE k ck W (rk.stay hb)
 have CS:stepN k=3→∀n,n≤1152921504606846976→∀W,Below w.heap.size w W→_:=fun h3 n hn W hb=>vU k ck n W (rk.stay hb) h3 hn
 have rvW:=fun W (hb:Below w.heap.size w W)=>RdV.sub rv (aH (A':=And1 A (w.heap.size+1+1+1)) (fun n hn h=>h.elim id fun e=>by omega) hb)
 have rzW:=fun W (hb:Below w.heap.size w W)=>RdV.sub rz (aH (A':=And1 A (w.heap.size+1+1+1)) (fun n hn h=>h.elim id fun e=>by omega) hb)
 obtain⟨va,vc,aa,ac,oa,oc,P⟩:=rv.parts
 obtain⟨ka,kc,kaa,kac,koa,koc,Pk⟩:=rk.parts
 obtain⟨za,zc,zaa,zac,zoa,zoc,Pz⟩:=rz.parts
 have e:=P.cells
 subst e
 have e:=Pk.cells
 subst e
 have e:=Pz.cells
 subst e
 have hal:=sv.al
 have hnull:∀err W,Below w.heap.size w W→OutX A w .null err (.returned (.tuple #[.agg #[.int .i64 0,.bool false,.slice none 0 0,.int .i64 0,.string ⟨#[]⟩,.slice none 0 0,.slice none 0 0],.int .i64 err])) (W.setCells (w.heap.size+1+1+1) 0 [.int .i64 0,.bool false,.slice none 0 0,.int .i64 0,.string ⟨#[]⟩,.slice none 0 0,.slice none 0 0]):=fun err W hb=>aK hb (by omega)
 unfold layJ
 by_cases k4:k.kind=4
 ·rw[if_pos k4] at hd
  rw[hd]
  exact KC A v.kind v.g va v.ls.length vc v.e ⟨v.s.toArray⟩ aa v.arr.length ac oa v.obj.length oc k.kind k.g ka k.ls.length kc k.e ⟨k.s.toArray⟩ kaa k.arr.length kac koa k.obj.length koc z.kind z.g za z.ls.length zc z.e ⟨z.s.toArray⟩ zaa z.arr.length zac zoa z.obj.length zoc _ _ w hIn (CR 1 (Gp k4))
   (fun W hb hi=>Jv (And1 A (w.heap.size+1+1+1)) v z _ _ k.s W Pk.s sv.obj hi (rvW W hb) (rzW W hb))
 rw[if_neg k4] at hd
 by_cases k3:k.kind=3
 ·have hs:=Gq k3
  rw[if_pos k3] at hd
  rw[hd]
  by_cases hv:v.kind≠0∧v.kind≠5
  ·have hx:layS v (.idx k) z=(.null,9):=by unfold layS;dsimp only;rw[if_pos hv]
   rw[hx]
   exact JL A v.kind v.g va v.ls.length vc v.e ⟨v.s.toArray⟩ aa v.arr.length ac oa v.obj.length oc k.kind k.g ka k.ls.length kc k.e ⟨k.s.toArray⟩ kaa k.arr.length kac koa k.obj.length koc z.kind z.g za z.ls.length zc z.e ⟨z.s.toArray⟩ zaa z.arr.length zac zoa z.obj.length zoc 2 w _ hIn (by omega) hv.1 hv.2 (CR 2 hs) (hnull 9)
  have e:layS v (.idx k) z=(if (putJ v.arr (.idx k) z).2≠0 then (.null,(putJ v.arr (.idx k) z).2) else if 200<depthJ 200 (arrJ (putJ v.arr (.idx k) z).1) then (.null,6) else (arrJ (putJ v.arr (.idx k) z).1,0)):=by
   unfold layS
   dsimp only
   rw[if_neg hv]
  rw[e]
  clear e
  have ep:∀(h1:(atJ k v.arr.length).2=0) (h2:0≤(atJ k v.arr.length).1) (h3:(atJ k v.arr.length).1≤65535),putJ v.arr (.idx k) z=(fillJ v.arr (atJ k v.arr.length).1.toNat z,0):=by
   intro h1 h2 h3
   unfold putJ
   dsimp only
   rw[if_neg (by omega),if_neg (by omega),if_neg (by omega)]
   rfl
  refine KE A v.kind v.g va v.ls.length vc v.e ⟨v.s.toArray⟩ aa v.arr.length ac oa v.obj.length oc k.kind k.g ka k.ls.length kc k.e ⟨k.s.toArray⟩ kaa k.arr.length kac koa k.obj.length koc z.kind z.g za z.ls.length zc z.e ⟨z.s.toArray⟩ zaa z.arr.length zac zoa z.obj.length zoc v.arr z (atJ k v.arr.length).1 (atJ k v.arr.length).2 (depthJ 200 (arrJ (fillJ v.arr (atJ k v.arr.length).1.toNat z))) w _ hIn (by omega) rfl (by omega) (gp 200 _) (CR 2 hs) (fun W hb=>vV k ka kc v.arr.length W (Pk.u.below hb) (by omega)) P.arr Pz.rd ?_ ?_ ?_
  ·intro _ _ _ W cs' hb hr
   exact IY _ cs' W hr
  ·intro err h W hb
   rcases h with ⟨h1,rfl⟩ | ⟨h1,h2,rfl⟩ | ⟨h1,h2,rfl⟩ | ⟨h1,h2,h3,h4,rfl⟩
   ·have hp:putJ v.arr (.idx k) z=([],(atJ k v.arr.length).2):=by unfold putJ;dsimp only;rw[if_pos h1]
    rw[hp,if_pos h1]
    exact hnull _ W hb
   ·have hp:putJ v.arr (.idx k) z=([],3):=by unfold putJ;dsimp only;rw[if_neg (by omega),if_pos h2]
    rw[hp,if_pos (by decide)]
    exact hnull _ W hb
   ·have hp:putJ v.arr (.idx k) z=([],10):=by unfold putJ;dsimp only;rw[if_neg (by omega),if_neg (by omega),if_pos (by omega)]
    rw[hp,if_pos (by decide)]
    exact hnull _ W hb
   ·rw[ep h1 h2 h3,if_neg (by simp),if_pos h4]
    exact hnull _ W hb
  ·intro h1 h2 h3 h4 W q c hra hc hb
   rw[ep h1 h2 h3,if_neg (by simp),if_neg h4]
   exact aW (jI hra hc) hb (by omega)
 rw[if_neg k3] at hd
 rcases EH k4 k3 with hs | hs
 ·rw[if_neg (by omega)] at hd
  exact absurd hd hne
 rw[if_pos hs] at hd
 rw[hd]
 have CS2:=CS hs
 generalize (getO startK k.obj).getD .null=ja at *
 generalize (getO endK k.obj).getD .null=jb at *
 by_cases hv:v.kind≠0∧v.kind≠5
 ·have hx:layS v (.slc ja jb) z=(.null,9):=by unfold layS;dsimp only;rw[if_pos hv]
  rw[hx]
  exact JL A v.kind v.g va v.ls.length vc v.e ⟨v.s.toArray⟩ aa v.arr.length ac oa v.obj.length oc k.kind k.g ka k.ls.length kc k.e ⟨k.s.toArray⟩ kaa k.arr.length kac koa k.obj.length koc z.kind z.g za z.ls.length zc z.e ⟨z.s.toArray⟩ zaa z.arr.length zac zoa z.obj.length zoc 3 w _ hIn (by omega) hv.1 hv.2 (CR 3 hs) (hnull 9)
 have e:layS v (.slc ja jb) z=(if (putJ v.arr (.slc ja jb) z).2≠0 then (.null,(putJ v.arr (.slc ja jb) z).2) else if 200<depthJ 200 (arrJ (putJ v.arr (.slc ja jb) z).1) then (.null,6) else (arrJ (putJ v.arr (.slc ja jb) z).1,0)):=by
  unfold layS
  dsimp only
  rw[if_neg hv]
 rw[e]
 clear e
 obtain⟨g1,g2,g3,g4⟩:(slice12 ja jb v.arr.length).1≤(slice12 ja jb v.arr.length).2.1∧(slice12 ja jb v.arr.length).2.1≤v.arr.length∧(slice12 ja jb v.arr.length).2.2=(boundsJ ja jb v.arr.length).2.2∧((boundsJ ja jb v.arr.length).2.2=0→slice12 ja jb v.arr.length=boundsJ ja jb v.arr.length):=by
  have:=dV ja jb v.arr.length
  unfold slice12
  split
  ·exact⟨by simp,by simp,rfl,fun h=>absurd h ‹_›⟩
  ·exact⟨this.1,this.2,rfl,fun _=>rfl⟩
 have ep:z.kind=5→(slice12 ja jb v.arr.length).2.2=0→putJ v.arr (.slc ja jb) z=(v.arr.take (slice12 ja jb v.arr.length).1 ++ (z.arr ++ v.arr.drop (slice12 ja jb v.arr.length).2.1),0):=by
  intro h1 h2
  rw[g4 (by omega)]
  unfold putJ
  dsimp only
  rw[if_neg (by omega),if_neg (by omega)]
 refine KF A v.kind v.g va v.ls.length vc v.e ⟨v.s.toArray⟩ aa v.arr.length ac oa v.obj.length oc k.kind k.g ka k.ls.length kc k.e ⟨k.s.toArray⟩ kaa k.arr.length kac koa k.obj.length koc z.kind z.g za z.ls.length zc z.e ⟨z.s.toArray⟩ zaa z.arr.length zac zoa z.obj.length zoc v.arr z.arr (slice12 ja jb v.arr.length).1 (slice12 ja jb v.arr.length).2.1 (slice12 ja jb v.arr.length).2.2 (depthJ 200 (arrJ (v.arr.take (slice12 ja jb v.arr.length).1 ++ (z.arr ++ v.arr.drop (slice12 ja jb v.arr.length).2.1)))) w _ hIn (by omega) rfl (by omega) rfl hzl P.ac g1 g2 (gp 200 _) (CR 3 hs) (CS2 _ (by omega)) P.arr Pz.arr ?_ ?_ ?_
 ·intro _ _ W cs' hb hr
  exact IY _ cs' W hr
 ·intro err h W hb
  rcases h with ⟨h1,rfl⟩ | ⟨h1,h2,rfl⟩ | ⟨h1,h2,h3,rfl⟩
  ·have hp:putJ v.arr (.slc ja jb) z=([],9):=by unfold putJ;dsimp only;rw[if_pos h1]
   rw[hp,if_pos (by decide)]
   exact hnull _ W hb
  ·have hp:putJ v.arr (.slc ja jb) z=([],(slice12 ja jb v.arr.length).2.2):=by unfold putJ;dsimp only;rw[if_neg (by omega),if_pos (by omega),g3]
   rw[hp,if_pos h2]
   exact hnull _ W hb
  ·rw[ep h1 h2,if_neg (by simp),if_pos h3]
   exact hnull _ W hb
 ·intro h1 h2 h3 W q c hra hc hb
  rw[ep h1 h2,if_neg (by simp),if_neg h3]
  exact aW (jI hra hc) hb (by omega)
end Go.Proofs.YtcgbmmalfbpjaaaGreatDoor
