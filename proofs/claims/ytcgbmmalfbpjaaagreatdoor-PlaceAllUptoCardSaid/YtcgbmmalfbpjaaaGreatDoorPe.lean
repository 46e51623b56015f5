/-  -/
import Derived.Test.YtcgbmmalfbpjaaaGreatDoorPd
import Derived.Test.YtcgbmmalfbpjaaaGreatDoorPc
set_option maxRecDepth 100000
set_option maxHeartbeats 16000000
namespace Go.Proofs.YtcgbmmalfbpjaaaGreatDoor
open Go.RowKit
theorem EJ (A:Nat→Prop)(xk:Int)(xg:Bool)(xa:Option Addr)(xl xc:Nat)(xe:Int)(xs:ByteArray)(xaa:Option Addr)(xan xac:Nat)(xoa:Option Addr)(xon xoc:Nat)(zk:Int)(zg:Bool)(za:Option Addr)(zl zc:Nat)(ze:Int)(zs:ByteArray)(zaa:Option Addr)(zan zac:Nat)(zoa:Option Addr)(zon zoc:Nat)(pa:Option Addr)(pc:Nat)(r:JV)(w:World)(rz:RdX A w [.int .i64 zk,.bool zg,.slice za zl zc,.int .i64 ze,.string zs,.slice zaa zan zac,.slice zoa zon zoc] r) :
  Calls Tryz.prog 32 #[.agg #[.int .i64 xk,.bool xg,.slice xa xl xc,.int .i64 xe,.string xs,.slice xaa xan xac,.slice xoa xon xoc],.slice pa 0 pc,.agg #[.int .i64 zk,.bool zg,.slice za zl zc,.int .i64 ze,.string zs,.slice zaa zan zac,.slice zoa zon zoc]] w (OutX A w r 0):=by
 obtain⟨W,hW⟩:∃W,W=((w.alloc (.cells #[.int .i64 xk,.bool xg,.slice xa xl xc,.int .i64 xe,.string xs,.slice xaa xan xac,.slice xoa xon xoc] 28)).alloc (.cells #[.int .i64 zk,.bool zg,.slice za zl zc,.int .i64 ze,.string zs,.slice zaa zan zac,.slice zoa zon zoc] 28)).alloc (.cells #[.int .i64 0,.bool false,.slice none 0 0,.int .i64 0,.string ⟨#[]⟩,.slice none 0 0,.slice none 0 0] 28):=⟨_,rfl⟩
 obtain⟨b0,b1,b2,b3⟩:=eP w #[.int .i64 xk,.bool xg,.slice xa xl xc,.int .i64 xe,.string xs,.slice xaa xan xac,.slice xoa xon xoc] #[.int .i64 zk,.bool zg,.slice za zl zc,.int .i64 ze,.string zs,.slice zaa zan zac,.slice zoa zon zoc] #[.int .i64 0,.bool false,.slice none 0 0,.int .i64 0,.string ⟨#[]⟩,.slice none 0 0,.slice none 0 0] 28 28 28
 rw[←hW] at b0 b1 b2 b3
 have hF:=hid (show OutX A w r 0 (.returned (.tuple #[.agg #[.int .i64 zk,.bool zg,.slice za zl zc,.int .i64 ze,.string zs,.slice zaa zan zac,.slice zoa zon zoc],.int .i64 0])) (W.setCells (w.heap.size+1+1) 0 [.int .i64 zk,.bool zg,.slice za zl zc,.int .i64 ze,.string zs,.slice zaa zan zac,.slice zoa zon zoc]) from di rz b0 (by omega))
 obtain⟨⟨p0,p1,p2,p3,p4,p5,p6⟩,_⟩:=ag b2
 obtain⟨⟨r0,r1,r2,r3,r4,r5,r6⟩,s0,s1,s2,s3,s4,s5,s6⟩:=ag b3
 replace hW:=hid hW.symm
 clear b0 b1 b2 b3 rz
 go_enter Tryz.func32,Tryz.ntmps32
 go_upto_region 1 with fail
 rw[hW.out]
 go_wp2_with fail
 refine bodyPost_ret (v:=.tuple #[.agg #[.int .i64 zk,.bool zg,.slice za zl zc,.int .i64 ze,.string zs,.slice zaa zan zac,.slice zoa zon zoc],.int .i64 0]) (by simp[results,Tryz.results32,go_sem,r0,r1,r2,r3,r4,r5,r6]) rfl ?_
 exact hF.out
theorem DC (A:Nat→Prop)(xk:Int)(xg:Bool)(xa:Option Addr)(xl xc:Nat)(xe:Int)(xs:ByteArray)(xaa:Option Addr)(xan xac:Nat)(xoa:Option Addr)(xon xoc:Nat)(kk:Int)(kg:Bool)(ka:Option Addr)(kl kc:Nat)(ke:Int)(ks:ByteArray)(kaa:Option Addr)(kan kac:Nat)(koa:Option Addr)(kon koc:Nat)(zk:Int)(zg:Bool)(za:Option Addr)(zl zc:Nat)(ze:Int)(zs:ByteArray)(zaa:Option Addr)(zan zac:Nat)(zoa:Option Addr)(zon zoc:Nat)(pb po n pc:Nat)(p:List JV)(t1 s1 r:JV)(et es er:Nat)(w:World)(hIn:In A w)(hn0:¬ ((n:Int)=0))(hnc:n≤pc)(hpc:pc≤9223372036854775807)(hpb:pb<w.heap.size)
  (hkc:w.cell? ⟨pb,po,none⟩=some (.int .i64 kk)∧w.cell? ⟨pb,po+1,none⟩=some (.bool kg)∧w.cell? ⟨pb,po+2,none⟩=some (.slice ka kl kc)∧w.cell? ⟨pb,po+3,none⟩=some (.int .i64 ke)∧w.cell? ⟨pb,po+4,none⟩=some (.string ks)∧w.cell? ⟨pb,po+5,none⟩=some (.slice kaa kan kac)∧w.cell? ⟨pb,po+6,none⟩=some (.slice koa kon koc))
  (hq1:RdA w (if pc=1 then some ⟨pb,po,none⟩ else some ⟨pb,po+7,none⟩) p)
  (CT:∀(A2:Nat→Prop) W,Below w.heap.size w W→In A2 W→(∀k,k<w.heap.size→A2 k→A k)→Calls Tryz.prog 27 #[.agg #[.int .i64 xk,.bool xg,.slice xa xl xc,.int .i64 xe,.string xs,.slice xaa xan xac,.slice xoa xon xoc],.agg #[.int .i64 kk,.bool kg,.slice ka kl kc,.int .i64 ke,.string ks,.slice kaa kan kac,.slice koa kon koc]] W (OutX A2 W t1 et))
  (CS:et=0→∀(A2:Nat→Prop) W cs qa qc,Below w.heap.size w W→In A2 W→(∀k,k<w.heap.size→A2 k→A k)→n-1≤qc→qc≤9223372036854775807→RdX A2 W cs t1→RdA w qa p→Calls Tryz.prog 32 #[.agg cs.toArray,.slice qa (n-1) qc,.agg #[.int .i64 zk,.bool zg,.slice za zl zc,.int .i64 ze,.string zs,.slice zaa zan zac,.slice zoa zon zoc]] W (OutX A2 W s1 es))
  (CL:et=0→es=0→∀(A2:Nat→Prop) W cs,Below w.heap.size w W→In A2 W→(∀k,k<w.heap.size→A2 k→A k)→RdX A2 W cs s1→Calls Tryz.prog 59 #[.agg #[.int .i64 xk,.bool xg,.slice xa xl xc,.int .i64 xe,.string xs,.slice xaa xan xac,.slice xoa xon xoc],.agg #[.int .i64 kk,.bool kg,.slice ka kl kc,.int .i64 ke,.string ks,.slice kaa kan kac,.slice koa kon koc],.agg cs.toArray] W (OutX A2 W r er))
  (hn:∀err:Nat,((et≠0∧err=et)∨(et=0∧es≠0∧err=es))→r=.null∧er=err) :
  Calls Tryz.prog 32 #[.agg #[.int .i64 xk,.bool xg,.slice xa xl xc,.int .i64 xe,.string xs,.slice xaa xan xac,.slice xoa xon xoc],.slice (some ⟨pb,po,none⟩) n pc,.agg #[.int .i64 zk,.bool zg,.slice za zl zc,.int .i64 ze,.string zs,.slice zaa zan zac,.slice zoa zon zoc]] w (OutX A w r er):=by
 obtain⟨W,hW⟩:∃W,W=((w.alloc (.cells #[.int .i64 xk,.bool xg,.slice xa xl xc,.int .i64 xe,.string xs,.slice xaa xan xac,.slice xoa xon xoc] 28)).alloc (.cells #[.int .i64 zk,.bool zg,.slice za zl zc,.int .i64 ze,.string zs,.slice zaa zan zac,.slice zoa zon zoc] 28)).alloc (.cells #[.int .i64 0,.bool false,.slice none 0 0,.int .i64 0,.string ⟨#[]⟩,.slice none 0 0,.slice none 0 0] 28):=⟨_,rfl⟩
 obtain⟨b0,b1,b2,b3⟩:=eP w #[.int .i64 xk,.bool xg,.slice xa xl xc,.int .i64 xe,.string xs,.slice xaa xan xac,.slice xoa xon xoc] #[.int .i64 zk,.bool zg,.slice za zl zc,.int .i64 ze,.string zs,.slice zaa zan zac,.slice zoa zon zoc] #[.int .i64 0,.bool false,.slice none 0 0,.int .i64 0,.string ⟨#[]⟩,.slice none 0 0,.slice none 0 0] 28 28 28
 rw[←hW] at b0 b1 b2 b3
 have HI:=hid (hIn.new b0 (aA b3))
 have HB:=hid b0
 have HX:=hid b1
 have HV:=hid b2
 have HZ:=hid b3
 replace hW:=hid hW.symm
 clear b0 b1 b2 b3 hIn
 replace CT:=hid CT
 replace CS:=hid CS
 replace CL:=hid CL
 replace hq1:=hid hq1
 have hwN:Hid (w.heap.size≤w.heap.size+1+1):=by show w.heap.size≤_;omega
 have hRlt:=hid (aA HZ.out)
 have hsub:Hid (∀k,k<w.heap.size→And1 A (w.heap.size+1+1) k→A k):=fun k hk h=>h.elim id fun e=>by omega
 obtain⟨Q,hQ⟩:∃Q,Q=OutX A w r er:=⟨_,rfl⟩
 have hput:=hid (show ∀W' z0 z1 z2 z3 z4 z5 z6,RdX (And1 A (w.heap.size+1+1)) W' [z0,z1,z2,z3,z4,z5,z6] r→Below w.heap.size w W'→Q (.returned (.tuple #[.agg #[z0,z1,z2,z3,z4,z5,z6],.int .i64 er])) (W'.setCells (w.heap.size+1+1) 0 [z0,z1,z2,z3,z4,z5,z6]) from fun W' z0 z1 z2 z3 z4 z5 z6 h1 h2=>by rw[hQ];exact aZ h1 h2 hwN.out)
 have hnone:=hid (show ∀err:Nat,((et≠0∧err=et)∨(et=0∧es≠0∧err=es))→∀W',Below w.heap.size w W'→Q (.returned (.tuple #[.agg #[.int .i64 0,.bool false,.slice none 0 0,.int .i64 0,.string ⟨#[]⟩,.slice none 0 0,.slice none 0 0],.int .i64 err])) (W'.setCells (w.heap.size+1+1) 0 [.int .i64 0,.bool false,.slice none 0 0,.int .i64 0,.string ⟨#[]⟩,.slice none 0 0,.slice none 0 0]) from fun err h W' hb=>by
  obtain⟨rfl,rfl⟩:=hn err h
  rw[hQ]
  exact aO hb hwN.out)
 rw[←hQ]
 clear hQ hn
 have hbx:w.heap.size<W.heap.size:=aA HX.out
 have hby:w.heap.size+1<W.heap.size:=aA HV.out
 have hpW:pb<W.heap.size:=by omega
 obtain⟨u0,u1,u2,u3,u4,u5,u6⟩:=hkc
 replace u0:=SubW.below HB.out _ _ u0
 replace u1:=SubW.below HB.out _ _ u1
 replace u2:=SubW.below HB.out _ _ u2
 replace u3:=SubW.below HB.out _ _ u3
 replace u4:=SubW.below HB.out _ _ u4
 replace u5:=SubW.below HB.out _ _ u5
 replace u6:=SubW.below HB.out _ _ u6
 have HU:=hid (And.intro u0 (And.intro u1 (And.intro u2 (And.intro u3 (And.intro u4 (And.intro u5 u6))))))
 obtain⟨⟨p0,p1,p2,p3,p4,p5,p6⟩,_⟩:=ag HX.out
 have hn1:(0:Int)<(n:Int):=by omega
 have hn2:0<n:=by omega
 have hi1:(1:Int)≤(n:Int):=by omega
 have hi2:(n:Int)≤(pc:Int):=by omega
 have hi3:(1:Int)≤(pc:Int):=by omega
 have g0:((n:Int) == 0)=false:=by rw[beq_eq_false_iff_ne];exact hn0
 go_enter Tryz.func32,Tryz.ntmps32
 go_upto_region 1 with fail
 rw[hW.out]
 go_upto_region 3 with fail
 have CT2:=hid (fun W' (hb:Below W.heap.size W W')=>CT.out (AndBox (And1 A (w.heap.size+1+1)) W W') W' (ae HB.out hb) (iE HI.out hb) (fun k hk h=>h.elim (hsub.out k hk) fun h=>by have:=HB.out.size;omega))
 go_cut [8,9] from 15 to 22 (fun v8 v9 w5=>Boxed (And1 A (w.heap.size+1+1)) W w5 v8 t1∧v9=.int .i64 et)
 case first =>
  have hN:=hid (fun w3 (hb:Below (W.alloc (.cells #[.int .i64 0,.bool false,.slice none 0 0,.int .i64 0,.string ⟨#[]⟩,.slice none 0 0,.slice none 0 0] 28)).drew.heap.size (W.alloc (.cells #[.int .i64 0,.bool false,.slice none 0 0,.int .i64 0,.string ⟨#[]⟩,.slice none 0 0,.slice none 0 0] 28)).drew w3)=>ag (af (aX W (.cells #[.int .i64 0,.bool false,.slice none 0 0,.int .i64 0,.string ⟨#[]⟩,.slice none 0 0,.slice none 0 0] 28)) hb))
  go_region_held3 (fun W'=>(∀b o,b<W.heap.size→W'.cell? ⟨b,o,none⟩=W.cell? ⟨b,o,none⟩)∧(∀b o,b<W.heap.size→W'.frozen? ⟨b,o,none⟩=W.frozen? ⟨b,o,none⟩)∧Below W.heap.size W W') (with_reducible first | exact bH _ | exact bI (by assumption) (by assumption) | exact bg (by assumption) _ | exact bJ (by assumption) _ | exact bn _ | exact bu (by assumption) _ | exact au (by assumption) (Nat.le_refl _) | exact au (by assumption) (dC (by assumption)) | exact au (by assumption) (by assumption) | exact au (by assumption) (Nat.le_succ_of_le (by assumption)) | exact au (by assumption) (Nat.le_succ_of_le (Nat.le_succ_of_le (by assumption))) | assumption) ((go_at_call 27;(with_reducible refine (CT2.out _ ?_).mono ?_);(simp only[*]);rintro e3 w3 ⟨cs3,rfl,hr3,hb3⟩;obtain⟨fk,fg,fa,fl,fc,fe,fs,faa,fan,fac,foa,fon,foc,rfl⟩:=RdV.sevenB hr3;(first | (with_reducible have mm:=hN.out _ hb3;obtain⟨⟨m0,m1,m2,m3,m4,m5,m6⟩,g0,g1,g2,g3,g4,g5,g6⟩:=mm) | skip)))
  all_goals
   go_wp2_with fail
   go_meet
   case rel=>first | with_reducible exact⟨dB hr3 hb3,rfl⟩ | exact⟨cu hr3 rfl hb3,rfl⟩
 case rest =>
  obtain⟨⟨N1,fk,fg,fa,fl,fc,fe,fs,faa,fan,fac,foa,fon,foc,rfl,y5,ry5,b5,_⟩,rfl⟩:=hcut
  have q5:=hid (ae HB.out b5.out)
  have x5:=hid (af HX.out b5.out)
  have v5:=hid (af HV.out b5.out)
  have z5:=hid (af HZ.out b5.out)
  have i5:=hid (HI.out.next b5.out)
  have h5:=HU.out
  have U5:=hid (And.intro (SubW.below b5.out _ _ h5.1) (And.intro (SubW.below b5.out _ _ h5.2.1) (And.intro (SubW.below b5.out _ _ h5.2.2.1) (And.intro (SubW.below b5.out _ _ h5.2.2.2.1) (And.intro (SubW.below b5.out _ _ h5.2.2.2.2.1) (And.intro (SubW.below b5.out _ _ h5.2.2.2.2.2.1) (SubW.below b5.out _ _ h5.2.2.2.2.2.2)))))))
  clear h5 HU HX HV HZ HI HB hW b5 CT CT2 p0 p1 p2 p3 p4 p5 p6 u0 u1 u2 u3 u4 u5 u6 hbx hby hpW
  by_cases he:et=0
  rotate_left
  ·have g:((et:Int) != 0)=true:=by rw[bne_iff_ne];omega
   have hq:=hid (hnone.out et (Or.inl ⟨he,rfl⟩) _ q5.out)
   obtain⟨⟨r0,r1,r2,r3,r4,r5,r6⟩,s0,s1,s2,s3,s4,s5,s6⟩:=ag z5.out
   clear hnone hput CS CL he y5 v5 x5 U5
   go_wp2_with fail
   refine bodyPost_ret (v:=.tuple #[.agg #[.int .i64 0,.bool false,.slice none 0 0,.int .i64 0,.string ⟨#[]⟩,.slice none 0 0,.slice none 0 0],.int .i64 et]) (by simp[results,Tryz.results32,go_sem,r0,r1,r2,r3,r4,r5,r6]) rfl ?_
   exact hq.out
  have CS2:=hid (CS.out he)
  have CL2:=hid (CL.out he)
  have hn3:=hid (fun err h=>hnone.out err (Or.inr ⟨he,h⟩))
  subst he
  clear CS CL hnone
  have hb5:w.heap.size+1<wc.heap.size:=aA v5.out
  have hN1:N1<wc.heap.size:=aA y5.out
  obtain⟨⟨p0,p1,p2,p3,p4,p5,p6⟩,_⟩:=ag y5.out
  obtain⟨⟨y0,y1,y2,y3,y4,y5',y6⟩,_⟩:=ag v5.out
  go_upto_region 6 with fail
  have CS3:=hid (fun qa qc h1 h2 h3 W' (hb:Below wc.heap.size wc W')=>CS2.out (AndBox (And1 A (w.heap.size+1+1)) wc W') W' [.int .i64 fk,.bool fg,.slice fa fl fc,.int .i64 fe,.string fs,.slice faa fan fac,.slice foa fon foc] qa qc (ae q5.out hb) (iE i5.out hb) (fun k hk h=>h.elim (hsub.out k hk) fun h=>by have:=q5.out.size;omega) h1 h2 (mO ry5.out hb) h3)
  clear CS2
  go_cut [10,9] from 27 to 34 (fun v10 v9 w6=>Boxed (And1 A (w.heap.size+1+1)) wc w6 v10 s1∧v9=.int .i64 es)
  case first =>
   have hN:=hid (fun w3 (hb:Below (wc.alloc (.cells #[.int .i64 0,.bool false,.slice none 0 0,.int .i64 0,.string ⟨#[]⟩,.slice none 0 0,.slice none 0 0] 28)).drew.heap.size (wc.alloc (.cells #[.int .i64 0,.bool false,.slice none 0 0,.int .i64 0,.string ⟨#[]⟩,.slice none 0 0,.slice none 0 0] 28)).drew w3)=>ag (af (aX wc (.cells #[.int .i64 0,.bool false,.slice none 0 0,.int .i64 0,.string ⟨#[]⟩,.slice none 0 0,.slice none 0 0] 28)) hb))
   by_cases hp1:pc=1
   ·have hq2:=hq1.out
    rw[if_pos hp1] at hq2
    have CS4:=hid (CS3.out (some ⟨pb,po,none⟩) (pc-1) (by omega) (by omega) hq2)
    have hp2:(pc=1) ↔ True:=iff_of_true hp1 trivial
    clear hq2 hp1
    go_region_held3 (fun W'=>(∀b o,b<wc.heap.size→W'.cell? ⟨b,o,none⟩=wc.cell? ⟨b,o,none⟩)∧(∀b o,b<wc.heap.size→W'.frozen? ⟨b,o,none⟩=wc.frozen? ⟨b,o,none⟩)∧Below wc.heap.size wc W') (with_reducible first | exact bH _ | exact bI (by assumption) (by assumption) | exact bg (by assumption) _ | exact bJ (by assumption) _ | exact bn _ | exact bu (by assumption) _ | exact au (by assumption) (Nat.le_refl _) | exact au (by assumption) (dC (by assumption)) | exact au (by assumption) (by assumption) | exact au (by assumption) (Nat.le_succ_of_le (by assumption)) | exact au (by assumption) (Nat.le_succ_of_le (Nat.le_succ_of_le (by assumption))) | assumption) ((go_at_call 32;(with_reducible refine (CS4.out _ ?_).mono ?_);(simp only[*]);rintro e3 w3 ⟨cs3,rfl,hr3,hb3⟩;obtain⟨jk,jg,ja,jl,jc,je,js,jaa,jan,jac,joa,jon,joc,rfl⟩:=RdV.sevenB hr3;(first | (with_reducible have mm:=hN.out _ hb3;obtain⟨⟨m0,m1,m2,m3,m4,m5,m6⟩,g0,g1,g2,g3,g4,g5,g6⟩:=mm) | skip)))
    all_goals
     go_wp2_with fail
     go_meet
     case rel=>first | with_reducible exact⟨dB hr3 hb3,rfl⟩ | exact⟨cu hr3 rfl hb3,rfl⟩
   ·have hq2:=hq1.out
    rw[if_neg hp1] at hq2
    have CS4:=hid (CS3.out (some ⟨pb,po+7,none⟩) (pc-1) (by omega) (by omega) hq2)
    clear hq2
    go_region_held3 (fun W'=>(∀b o,b<wc.heap.size→W'.cell? ⟨b,o,none⟩=wc.cell? ⟨b,o,none⟩)∧(∀b o,b<wc.heap.size→W'.frozen? ⟨b,o,none⟩=wc.frozen? ⟨b,o,none⟩)∧Below wc.heap.size wc W') (with_reducible first | exact bH _ | exact bI (by assumption) (by assumption) | exact bg (by assumption) _ | exact bJ (by assumption) _ | exact bn _ | exact bu (by assumption) _ | exact au (by assumption) (Nat.le_refl _) | exact au (by assumption) (dC (by assumption)) | exact au (by assumption) (by assumption) | exact au (by assumption) (Nat.le_succ_of_le (by assumption)) | exact au (by assumption) (Nat.le_succ_of_le (Nat.le_succ_of_le (by assumption))) | assumption) ((go_at_call 32;(with_reducible refine (CS4.out _ ?_).mono ?_);(simp only[*]);rintro e3 w3 ⟨cs3,rfl,hr3,hb3⟩;obtain⟨jk,jg,ja,jl,jc,je,js,jaa,jan,jac,joa,jon,joc,rfl⟩:=RdV.sevenB hr3;(first | (with_reducible have mm:=hN.out _ hb3;obtain⟨⟨m0,m1,m2,m3,m4,m5,m6⟩,g0,g1,g2,g3,g4,g5,g6⟩:=mm) | skip)))
    all_goals
     go_wp2_with fail
     go_meet
     case rel=>first | with_reducible exact⟨dB hr3 hb3,rfl⟩ | exact⟨cu hr3 rfl hb3,rfl⟩
  case rest =>
   obtain⟨⟨N2,jk,jg,ja,jl,jc,je,js,jaa,jan,jac,joa,jon,joc,rfl,y7,ry7,b7,hN2⟩,rfl⟩:=hcut
   replace hN2:N2≠w.heap.size+1+1:=by have:=hN2.out;have:=aA z5.out;omega
   have q7:=hid (ae q5.out b7.out)
   have x7:=hid (af x5.out b7.out)
   have z7:=hid (af z5.out b7.out)
   have i7:=hid (i5.out.next b7.out)
   have h7:=U5.out
   obtain⟨u0,u1,u2,u3,u4,u5,u6⟩:=h7
   replace u0:=SubW.below b7.out _ _ u0
   replace u1:=SubW.below b7.out _ _ u1
   replace u2:=SubW.below b7.out _ _ u2
   replace u3:=SubW.below b7.out _ _ u3
   replace u4:=SubW.below b7.out _ _ u4
   replace u5:=SubW.below b7.out _ _ u5
   replace u6:=SubW.below b7.out _ _ u6
   clear x5 v5 z5 i5 U5 b7 y5 ry5 CS3 q5 p0 p1 p2 p3 p4 p5 p6 y0 y1 y2 y3 y4 y5' y6 hb5 hN1
   obtain⟨⟨r0,r1,r2,r3,r4,r5,r6⟩,s0,s1',s2,s3,s4,s5,s6⟩:=ag z7.out
   by_cases he:es=0
   rotate_left
   ·have g:((es:Int) != 0)=true:=by rw[bne_iff_ne];omega
    have hq:=hid (hn3.out es ⟨he,rfl⟩ _ q7.out)
    clear hn3 hput CL2 he y7 x7 z7 u0 u1 u2 u3 u4 u5 u6
    go_wp2_with fail
    refine bodyPost_ret (v:=.tuple #[.agg #[.int .i64 0,.bool false,.slice none 0 0,.int .i64 0,.string ⟨#[]⟩,.slice none 0 0,.slice none 0 0],.int .i64 es]) (by simp[results,Tryz.results32,go_sem,r0,r1,r2,r3,r4,r5,r6]) rfl ?_
    exact hq.out
   have CL3:=hid (fun W' (hb:Below wc.heap.size wc W')=>CL2.out he (And1 A (w.heap.size+1+1)) W' [.int .i64 jk,.bool jg,.slice ja jl jc,.int .i64 je,.string js,.slice jaa jan jac,.slice joa jon joc] (ae q7.out hb) (i7.out.next hb) hsub.out (RdX.stay ry7.out hb))
   subst he
   clear CL2 hn3
   obtain⟨⟨p0,p1,p2,p3,p4,p5,p6⟩,_⟩:=ag x7.out
   obtain⟨⟨y0,y1,y2,y3,y4,y5',y6⟩,_⟩:=ag y7.out
   go_upto_region 9 with fail
   have hN:=hid (fun w8 (hb:Below wc.drew.heap.size wc.drew w8)=>ag (af (show wc.drew.heap[w.heap.size+1+1]? = _ from z7.out) hb))
   have hx1:w.heap.size<wc.heap.size:=aA x7.out
   have hx2:N2<wc.heap.size:=aA y7.out
   have hx3:N2≠w.heap.size+1+1:=hN2
   have hx6:w.heap.size≠w.heap.size+1+1:=by omega
   have hx4:pb<wc.heap.size:=by omega
   have hx5:pb≠w.heap.size+1+1:=by omega
   have hput2:=hid (fun z0 z1 z2 z3 z4 z5 z6 w8 h1 (h2:Below wc.drew.heap.size wc.drew w8)=>hput.out w8 z0 z1 z2 z3 z4 z5 z6 h1 (ae q7.out (ae ((Below.refl wc.heap.size wc).drew) h2)))
   clear hput
   go_region_held3 (fun W'=>(∀b o,b<wc.heap.size→b≠(w.heap.size+1+1)→W'.cell? ⟨b,o,none⟩=wc.cell? ⟨b,o,none⟩)∧wc.heap.size≤W'.heap.size) (with_reducible first | exact dP _ _ | exact dm _ _ _ | exact dw _ (by assumption) | exact dA (by assumption) (by assumption) | exact dQ (by assumption) | assumption) ((go_at_call 59;(with_reducible refine (CL3.out _ ?_).mono ?_);(exact (Below.refl _ _).drew);rintro e8 w8 ⟨cs8,rfl,hr8,hb8⟩;obtain⟨vk,vg,va,vl,vc,ve,vs,vaa,van,vac,voa,von,voc,rfl⟩:=RdV.sevenB hr8;have mm:=hN.out _ hb8;obtain⟨⟨m0,m1,m2,m3,m4,m5,m6⟩,g0,g1,g2,g3,g4,g5,g6⟩:=mm))
   all_goals
    have hF:=hid (hput2.out _ _ _ _ _ _ _ w8 hr8 hb8)
    go_wp2_with fail
    refine bodyPost_ret (v:=.tuple #[.agg #[.int .i64 vk,.bool vg,.slice va vl vc,.int .i64 ve,.string vs,.slice vaa van vac,.slice voa von voc],.int .i64 er]) (by simp[results,Tryz.results32,go_sem,m0,m1,m2,m3,m4,m5,m6]) rfl ?_
    exact hF.out
theorem pV:∀(path:List JV) (A:Nat→Prop) (v x:JV) (cs cx:List Value) (pa:Option Addr) (pc:Nat) (w:World),In A w→mayJ 200 v=true→(∀k ∈ path,mayJ 200 k=true)→SmallV v→x.arr.length≤1048576→path.length≤pc→pc≤9223372036854775807→RdX A w cs v→RdX A w cx x→RdA w pa path→Tabs w →
  Calls Tryz.prog 32 #[.agg cs.toArray,.slice pa path.length pc,.agg cx.toArray] w (OutX A w (setJ v path x).1 (setJ v path x).2)
 | [],A,v,x,cs,cx,pa,pc,w,hIn,hv,hp,sv,sx,hc1,hc2,rv,rx,rp,hT=>by
  obtain⟨xk,xg,xa,xl,xc,xe,xs,xaa,xan,xac,xoa,xon,xoc,rfl⟩:=RdV.sevenB rv
  obtain⟨zk,zg,za,zl,zc,ze,zs,zaa,zan,zac,zoa,zon,zoc,rfl⟩:=RdV.sevenB rx
  exact EJ A xk xg xa xl xc xe xs xaa xan xac xoa xon xoc zk zg za zl zc ze zs zaa zan zac zoa zon zoc pa pc x w rx
 | k :: p,A,v,x,cs,cx,pa,pc,w,hIn,hv,hp,sv,sx,hc1,hc2,rv,rx,rp,hT=>by
  have hk:=hp k (List.mem_cons_self ..)
  have hp2:∀k' ∈ p,mayJ 200 k'=true:=fun k' h=>hp k' (List.mem_cons_of_mem _ h)
  have hc3:p.length+1≤pc:=hc1
  obtain⟨ck,⟨pb,po,rfl,hcell⟩,rk⟩:=rp 0 k rfl
  have hq1:RdA w (if pc=1 then some ⟨pb,po,none⟩ else some ⟨pb,po+7,none⟩) p:=by
   split
   ·obtain rfl:p=[]:=List.eq_nil_of_length_eq_zero (by omega)
    exact fun i y hy=>by simp at hy
   ·have:=rp.drop 1
    rwa [Nat.one_mul] at this
  have hst:SmallV (takeJ v k).1:=ed sv (readS k) (fun h4=>fC hv h4)
  have hmt:mayJ 200 (takeJ v k).1=true:=dV hv
  have hsl:=yN (p:=p) (x:=x) hmt
  have hstl:=hst.al
  have hzl:(setJ (takeJ v k).1 p x).1.arr.length≤274877906944:=Nat.le_trans hsl (by omega)
  have CT:=fun (A2:Nat→Prop) W (hb:Below w.heap.size w W) (hi:In A2 W) (hs:∀k,k<w.heap.size→A2 k→A k)=>fV A2 v k cs ck W hi hv hk sv (RdV.sub rv (az hs hb)) (rk.stay hb) (hT.below hb)
  have CS:=fun (A2:Nat→Prop) W cs' qa qc (hb:Below w.heap.size w W) (hi:In A2 W) (hs:∀k,k<w.heap.size→A2 k→A k) (h1:p.length≤qc) (h2:qc≤9223372036854775807) (hr:RdX A2 W cs' (takeJ v k).1) (hqa:RdA w qa p)=>pV p A2 (takeJ v k).1 x cs' cx qa qc W hi hmt hp2 hst sx h1 h2 hr (RdV.sub rx (az hs hb)) (hqa.below hb) (hT.below hb)
  have CL:=fun (A2:Nat→Prop) W cs' (hb:Below w.heap.size w W) (hi:In A2 W) (hs:∀k,k<w.heap.size→A2 k→A k) (hr:RdX A2 W cs' (setJ (takeJ v k).1 p x).1)=>pG A2 v k (setJ (takeJ v k).1 p x).1 cs ck cs' W hi sv hzl (RdV.sub rv (az hs hb)) (rk.stay hb) hr (hT.below hb)
  obtain⟨xk,xg,xa,xl,xc,xe,xs,xaa,xan,xac,xoa,xon,xoc,rfl⟩:=RdV.sevenB rv
  obtain⟨kk,kg,ka,kl,kc,ke,ks,kaa,kan,kac,koa,kon,koc,rfl⟩:=rk.sevenB
  obtain⟨zk,zg,za,zl,zc,ze,zs,zaa,zan,zac,zoa,zon,zoc,rfl⟩:=RdV.sevenB rx
  refine DC A xk xg xa xl xc xe xs xaa xan xac xoa xon xoc kk kg ka kl kc ke ks kaa kan kac koa kon koc zk zg za zl zc ze zs zaa zan zac zoa zon zoc pb po (p.length+1) pc p (takeJ v k).1 (setJ (takeJ v k).1 p x).1 _ (takeJ v k).2 (setJ (takeJ v k).1 p x).2 _ w hIn (by omega) hc3 hc2 (ax (hcell 0 _ rfl)) ⟨hcell 0 _ rfl,hcell 1 _ rfl,hcell 2 _ rfl,hcell 3 _ rfl,hcell 4 _ rfl,hcell 5 _ rfl,hcell 6 _ rfl⟩ hq1 CT ?_ ?_ ?_
  ·intro _ A2 W cs' qa qc hb hi hs h1 h2 hr hqa
   exact CS A2 W cs' qa qc hb hi hs h1 h2 hr hqa
  ·intro h1 h2 A2 W cs' hb hi hs hr
   have e:setJ v (k :: p) x=layJ v k (setJ (takeJ v k).1 p x).1:=by
    rw[setJ,if_neg (by omega),if_neg (by omega)]
   rw[e]
   exact CL A2 W cs' hb hi hs hr
  ·intro err h
   rcases h with ⟨h1,rfl⟩ | ⟨h1,h2,rfl⟩
   ·rw[setJ,if_pos h1]
    exact⟨rfl,rfl⟩
   ·rw[setJ,if_neg (by omega),if_pos h2]
    exact⟨rfl,rfl⟩
theorem zY (A:Nat→Prop)(xk:Int)(xg:Bool)(xa:Option Addr)(xl xc:Nat)(xe:Int)(xs:ByteArray)(xaa:Option Addr)(xan xac:Nat)(xoa:Option Addr)(xon xoc:Nat)(yk:Int)(yg:Bool)(ya:Option Addr)(yl yc:Nat)(ye:Int)(ys:ByteArray)(yaa:Option Addr)(yan yac:Nat)(yoa:Option Addr)(yon yoc:Nat)(pa:Option Addr)(pl pc:Nat)(m m2:Bool)(r t:JV)(er et:Nat)(w:World)(hIn:In A w)
  (CM:∀W b,Below w.heap.size w W→W.heap[b]? = some (.cells #[.int .i64 xk,.bool xg,.slice xa xl xc,.int .i64 xe,.string xs,.slice xaa xan xac,.slice xoa xon xoc,.int .i64 yk,.bool yg,.slice ya yl yc,.int .i64 ye,.string ys,.slice yaa yan yac,.slice yoa yon yoc] 28 (0,0))→Calls Tryz.prog 26 #[.slice (some ⟨b,0,none⟩) 2 2] W fun e w'=>e=.returned (.bool m)∧Below W.heap.size W w')
  (CM2:∀W,Below w.heap.size w W→Calls Tryz.prog 26 #[.slice pa pl pc] W fun e w'=>e=.returned (.bool m2)∧Below W.heap.size W w')
  (CT:m=true→m2=true→∀W,Below w.heap.size w W→In (And1 A (w.heap.size+1+1)) W→Calls Tryz.prog 32 #[.agg #[.int .i64 xk,.bool xg,.slice xa xl xc,.int .i64 xe,.string xs,.slice xaa xan xac,.slice xoa xon xoc],.slice pa pl pc,.agg #[.int .i64 yk,.bool yg,.slice ya yl yc,.int .i64 ye,.string ys,.slice yaa yan yac,.slice yoa yon yoc]] W (OutX (And1 A (w.heap.size+1+1)) W t et))
  (hm:m=true→m2=true→r=t∧er=et)(hn:m=false∨m2=false→r=.null∧er=1) :
  Calls Tryz.prog 16 #[.agg #[.int .i64 xk,.bool xg,.slice xa xl xc,.int .i64 xe,.string xs,.slice xaa xan xac,.slice xoa xon xoc],.slice pa pl pc,.agg #[.int .i64 yk,.bool yg,.slice ya yl yc,.int .i64 ye,.string ys,.slice yaa yan yac,.slice yoa yon yoc]] w (OutX A w r er):=by
 obtain⟨W,hW⟩:∃W,W=((w.alloc (.cells #[.int .i64 xk,.bool xg,.slice xa xl xc,.int .i64 xe,.string xs,.slice xaa xan xac,.slice xoa xon xoc] 28)).alloc (.cells #[.int .i64 yk,.bool yg,.slice ya yl yc,.int .i64 ye,.string ys,.slice yaa yan yac,.slice yoa yon yoc] 28)).alloc (.cells #[.int .i64 0,.bool false,.slice none 0 0,.int .i64 0,.string ⟨#[]⟩,.slice none 0 0,.slice none 0 0] 28):=⟨_,rfl⟩
 obtain⟨b0,b1,b2,b3⟩:=eP w #[.int .i64 xk,.bool xg,.slice xa xl xc,.int .i64 xe,.string xs,.slice xaa xan xac,.slice xoa xon xoc] #[.int .i64 yk,.bool yg,.slice ya yl yc,.int .i64 ye,.string ys,.slice yaa yan yac,.slice yoa yon yoc] #[.int .i64 0,.bool false,.slice none 0 0,.int .i64 0,.string ⟨#[]⟩,.slice none 0 0,.slice none 0 0] 28 28 28
 rw[←hW] at b0 b1 b2 b3
 have HI:=hid (hIn.new b0 (aA b3))
 have HB:=hid b0
 have HX:=hid b1
 have HY:=hid b2
 have HZ:=hid b3
 replace hW:=hid hW.symm
 clear b0 b1 b2 b3 hIn
 replace CM:=hid CM
 replace CM2:=hid CM2
 replace CT:=hid CT
 have hwN:Hid (w.heap.size≤w.heap.size+1+1):=by show w.heap.size≤_;omega
 obtain⟨Q,hQ⟩:∃Q,Q=OutX A w r er:=⟨_,rfl⟩
 have hput:=hid (show m=true→m2=true→∀W' z0 z1 z2 z3 z4 z5 z6,RdX (And1 A (w.heap.size+1+1)) W' [z0,z1,z2,z3,z4,z5,z6] t→Below w.heap.size w W'→Q (.returned (.tuple #[.agg #[z0,z1,z2,z3,z4,z5,z6],.int .i64 et])) (W'.setCells (w.heap.size+1+1) 0 [z0,z1,z2,z3,z4,z5,z6]) from fun h h' W' z0 z1 z2 z3 z4 z5 z6 h1 h2=>by
  obtain⟨rfl,rfl⟩:=hm h h'
  rw[hQ];exact aZ h1 h2 hwN.out)
 have hnone:=hid (show m=false∨m2=false→∀W',Below w.heap.size w W'→Q (.returned (.tuple #[.agg #[.int .i64 0,.bool false,.slice none 0 0,.int .i64 0,.string ⟨#[]⟩,.slice none 0 0,.slice none 0 0],.int .i64 1])) (W'.setCells (w.heap.size+1+1) 0 [.int .i64 0,.bool false,.slice none 0 0,.int .i64 0,.string ⟨#[]⟩,.slice none 0 0,.slice none 0 0]) from fun h W' hb=>by
  obtain⟨rfl,rfl⟩:=hn h
  rw[hQ]
  exact aO hb hwN.out)
 rw[←hQ]
 clear hQ hn hm
 obtain⟨⟨p0,p1,p2,p3,p4,p5,p6⟩,_⟩:=ag HX.out
 obtain⟨⟨y0,y1,y2,y3,y4,y5,y6⟩,_⟩:=ag HY.out
 have hbA:=(Below.refl W.heap.size W).alloc (Nat.le_refl _) (.cells #[.int .i64 xk,.bool xg,.slice xa xl xc,.int .i64 xe,.string xs,.slice xaa xan xac,.slice xoa xon xoc,.int .i64 yk,.bool yg,.slice ya yl yc,.int .i64 ye,.string ys,.slice yaa yan yac,.slice yoa yon yoc] 28)
 have q0:=hid (ae HB.out hbA)
 have hnw:=hid (aj W (.cells #[.int .i64 xk,.bool xg,.slice xa xl xc,.int .i64 xe,.string xs,.slice xaa xan xac,.slice xoa xon xoc,.int .i64 yk,.bool yg,.slice ya yl yc,.int .i64 ye,.string ys,.slice yaa yan yac,.slice yoa yon yoc] 28))
 have x0:=hid (af HX.out hbA)
 have y0':=hid (af HY.out hbA)
 have z0':=hid (af HZ.out hbA)
 have i0:=hid (HI.out.next hbA)
 clear hbA
 go_enter Tryz.func16,Tryz.ntmps16
 go_upto_region 1 with fail
 rw[hW.out]
 go_wp2_with fail
 refine (CM.out _ _ q0.out hnw.out).mono ?_
 rintro en w1 ⟨rfl,hb⟩
 have q1:=hid (ae q0.out hb)
 have x1:=hid (af x0.out hb)
 have y1':=hid (af y0'.out hb)
 have z1:=hid (af z0'.out hb)
 have i1:=hid (i0.out.next hb)
 clear hb q0 hnw x0 y0' z0' i0 HB HX HY HZ HI hW CM p0 p1 p2 p3 p4 p5 p6 y0 y1 y2 y3 y4 y5 y6
 cases m with
 | false =>
  have hq:=hid (hnone.out (by simp))
  obtain⟨⟨r0,r1,r2,r3,r4,r5,r6⟩,s0,s1,s2,s3,s4,s5,s6⟩:=ag z1.out
  clear hnone hput CT CM2
  go_wp2_with fail
  refine bodyPost_ret (v:=.tuple #[.agg #[.int .i64 0,.bool false,.slice none 0 0,.int .i64 0,.string ⟨#[]⟩,.slice none 0 0,.slice none 0 0],.int .i64 1]) (by simp[results,Tryz.results16,go_sem,r0,r1,r2,r3,r4,r5,r6]) rfl ?_
  exact hq.out _ q1.out
 | true =>
  go_wp2_with fail
  refine (CM2.out _ q1.out).mono ?_
  rintro en w2 ⟨rfl,hb⟩
  have q2:=hid (ae q1.out hb)
  have x2:=hid (af x1.out hb)
  have y2':=hid (af y1'.out hb)
  have z2:=hid (af z1.out hb)
  have i2:=hid (i1.out.next hb)
  clear hb q1 x1 y1' z1 i1 CM2
  cases m2 with
  | false =>
   have hq:=hid (hnone.out (by simp))
   obtain⟨⟨r0,r1,r2,r3,r4,r5,r6⟩,s0,s1,s2,s3,s4,s5,s6⟩:=ag z2.out
   clear hnone hput CT
   go_wp2_with fail
   refine bodyPost_ret (v:=.tuple #[.agg #[.int .i64 0,.bool false,.slice none 0 0,.int .i64 0,.string ⟨#[]⟩,.slice none 0 0,.slice none 0 0],.int .i64 1]) (by simp[results,Tryz.results16,go_sem,r0,r1,r2,r3,r4,r5,r6]) rfl ?_
   exact hq.out _ q2.out
  | true =>
   have C:=hid (CT.out (by simp) (by simp) _ q2.out i2.out)
   have hp:=hid (hput.out (by simp) (by simp))
   clear hnone hput CT
   obtain⟨⟨p0,p1,p2,p3,p4,p5,p6⟩,_⟩:=ag x2.out
   obtain⟨⟨y0,y1,y2,y3,y4,y5,y6⟩,_⟩:=ag y2'.out
   go_wp2_with fail
   refine C.out.mono ?_
   rintro en w3 ⟨cs,rfl,hrd,hb⟩
   obtain⟨zk,zg,za,zl,zc,ze,zs,zaa,zan,zac,zoa,zon,zoc,rfl⟩:=RdV.sevenB hrd
   obtain⟨⟨r0,r1,r2,r3,r4,r5,r6⟩,s0,s1,s2,s3,s4,s5,s6⟩:=ag (af z2.out hb)
   have hF:=hid (hp.out w3 _ _ _ _ _ _ _ hrd (ae q2.out hb))
   clear hb hrd hp C p0 p1 p2 p3 p4 p5 p6 y0 y1 y2 y3 y4 y5 y6
   go_wp2_with fail
   refine bodyPost_ret (v:=.tuple #[.agg #[.int .i64 zk,.bool zg,.slice za zl zc,.int .i64 ze,.string zs,.slice zaa zan zac,.slice zoa zon zoc],.int .i64 et]) (by simp[results,Tryz.results16,go_sem,r0,r1,r2,r3,r4,r5,r6]) rfl ?_
   exact hF.out
open Classical in
theorem zZ (A:Nat→Prop)(v:JV)(path:List JV)(x:JV)(cs cx:List Value)(pa:Option Addr)(pc:Nat)(w:World)(hIn:In A w)(sv:SmallV v)(sx:x.arr.length≤1048576)(hp:path.length≤1048576)(hc:path.length≤pc∧pc≤9223372036854775807)(rv:RdX A w cs v)(rx:RdX A w cx x)(rp:RdA w pa path)(hT:Tabs w) :
  Calls Tryz.prog 16 #[.agg cs.toArray,.slice pa path.length pc,.agg cx.toArray] w (OutX A w (setPJ v path x).1 (setPJ v path x).2):=by
 have hmm:(∀y ∈ [v,x],mayJ 200 y=true) ↔ mayJ 200 v=true∧mayJ 200 x=true:=by simp
 have CT:=fun (h1:decide (∀y ∈ [v,x],mayJ 200 y=true)=true) (h2:decide (∀y ∈ path,mayJ 200 y=true)=true) W (hb:Below w.heap.size w W) (hi:In (And1 A (w.heap.size+1+1)) W) =>
  pV path (And1 A (w.heap.size+1+1)) v x cs cx pa pc W hi (hmm.1 (of_decide_eq_true h1)).1 (of_decide_eq_true h2) sv sx hc.1 hc.2 (RdV.sub rv (az (A':=And1 A (w.heap.size+1+1)) (fun n hn h=>h.elim id fun e=>by omega) hb)) (RdV.sub rx (az (A':=And1 A (w.heap.size+1+1)) (fun n hn h=>h.elim id fun e=>by omega) hb)) (rp.below hb) (hT.below hb)
 have rv':=RdX.rd rv
 have rx':=RdX.rd rx
 obtain⟨xk,xg,xa,xl,xc,xe,xs,xaa,xan,xac,xoa,xon,xoc,rfl⟩:=RdV.sevenB rv
 obtain⟨yk,yg,ya,yl,yc,ye,ys,yaa,yan,yac,yoa,yon,yoc,rfl⟩:=RdV.sevenB rx
 refine zY A xk xg xa xl xc xe xs xaa xan xac xoa xon xoc yk yg ya yl yc ye ys yaa yan yac yoa yon yoc pa path.length pc (decide (∀y ∈ [v,x],mayJ 200 y=true)) (decide (∀y ∈ path,mayJ 200 y=true)) _ (setJ v path x).1 _ (setJ v path x).2 w hIn ?_ ?_ CT ?_ ?_
 ·intro W b hb hh
  exact bP [v,x] _ 2 W (rda2 xk xg xa xl xc xe xs xaa xan xac xoa xon xoc yk yg ya yl yc ye ys yaa yan yac yoa yon yoc hh (rv'.stay hb) (rx'.stay hb)) (by simp) (hT.below hb)
 ·intro W hb
  exact bP path pa pc W (rp.below hb) (by omega) (hT.below hb)
 ·intro h1 h2
  have:=hmm.1 (of_decide_eq_true h1)
  unfold setPJ
  rw[if_pos ⟨this.1,this.2,of_decide_eq_true h2⟩]
  exact⟨rfl,rfl⟩
 ·intro h
  unfold setPJ
  rw[if_neg]
  ·exact⟨rfl,rfl⟩
  ·rintro ⟨h1,h2,h3⟩
   rcases h with h | h
   ·exact of_decide_eq_false h (hmm.2 ⟨h1,h2⟩)
   ·exact of_decide_eq_false h h3
end Go.Proofs.YtcgbmmalfbpjaaaGreatDoor
