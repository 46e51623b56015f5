/-  -/
import Derived.Test.YtcgbmmalfbpjaaaGreatDoorPd
import Derived.Test.YtcgbmmalfbpjaaaGreatDoorPh
set_option maxRecDepth 100000
set_option maxHeartbeats 16000000
namespace Go.Proofs.YtcgbmmalfbpjaaaGreatDoor
open Go.RowKit
theorem JH (A:Nat→Prop)(xk:Int)(xg:Bool)(xa:Option Addr)(xl xc:Nat)(xe:Int)(xs:ByteArray)(xaa:Option Addr)(xan xac:Nat)(xoa:Option Addr)(xon xoc:Nat)(pa:Option Addr)(pl pc:Nat)(v:JV)(path:List JV)(m1 m2:Bool)(r:JV)(er:Nat)(w:World)(hIn:In A w)(hpl:pl=path.length)(hpn:pl≤1048576)
  (rv:RdX A w [.int .i64 xk,.bool xg,.slice xa xl xc,.int .i64 xe,.string xs,.slice xaa xan xac,.slice xoa xon xoc] v)(rp:RdA w pa path)
  (CM:∀W,Below w.heap.size w W→Calls Tryz.prog 28 #[.agg #[.int .i64 xk,.bool xg,.slice xa xl xc,.int .i64 xe,.string xs,.slice xaa xan xac,.slice xoa xon xoc]] W fun e w'=>e=.returned (.bool m1)∧Below W.heap.size W w')
  (CM2:∀W,Below w.heap.size w W→Calls Tryz.prog 31 #[.slice pa pl pc] W fun e w'=>e=.returned (.bool m2)∧Below W.heap.size W w')
  (CT:m1=true→m2=true→∀(A2:Nat→Prop) (u k:JV) (cs ck:List Value) (W:World),k ∈ path→mayJ 200 u=true→SmallV u→In A2 W→RdX A2 W cs u→RdV W ck k→Below w.heap.size w W→Calls Tryz.prog 29 #[.agg cs.toArray,.agg ck.toArray] W (OutX A2 W (takeJ u k).1 (takeJ u k).2))
  (hv:m1=true→mayJ 200 v=true)(sv:SmallV v)
  (hm:m1=true→m2=true→goJ v path=(r,er))(hn:m1=false∨m2=false→r=.null∧er=1) :
  Calls Tryz.prog 15 #[.agg #[.int .i64 xk,.bool xg,.slice xa xl xc,.int .i64 xe,.string xs,.slice xaa xan xac,.slice xoa xon xoc],.slice pa pl pc] w (OutX A w r er):=by
 obtain⟨W,hW⟩:∃W,W=(w.alloc (.cells #[.int .i64 xk,.bool xg,.slice xa xl xc,.int .i64 xe,.string xs,.slice xaa xan xac,.slice xoa xon xoc] 28)).alloc (.cells #[.int .i64 0,.bool false,.slice none 0 0,.int .i64 0,.string ⟨#[]⟩,.slice none 0 0,.slice none 0 0] 28):=⟨_,rfl⟩
 obtain⟨b0,b1,b2⟩:=bT w #[.int .i64 xk,.bool xg,.slice xa xl xc,.int .i64 xe,.string xs,.slice xaa xan xac,.slice xoa xon xoc] #[.int .i64 0,.bool false,.slice none 0 0,.int .i64 0,.string ⟨#[]⟩,.slice none 0 0,.slice none 0 0] 28 28
 rw[←hW] at b0 b1 b2
 have HI:=hid (show In (And1 (And1 A w.heap.size) (w.heap.size+1)) W from fun k hk=>by
  have:=aC b2
  rcases hk with (hk | hk) | hk
  ·exact hIn.next b0 k hk
  ·omega
  ·omega)
 have hrv:=hid (show RdX (And1 (And1 A w.heap.size) (w.heap.size+1)) W [.int .i64 xk,.bool xg,.slice xa xl xc,.int .i64 xe,.string xs,.slice xaa xan xac,.slice xoa xon xoc] v from RdV.sub rv (aH (A':=And1 (And1 A w.heap.size) (w.heap.size+1)) (fun n hn h=>by rcases h with (h | h) | h;exact h;omega;omega) b0))
 have HB:=hid b0
 have HX:=hid b1
 have HZ:=hid b2
 replace hW:=hid hW.symm
 clear b0 b1 b2 hIn rv
 replace CM:=hid CM
 replace CM2:=hid CM2
 replace CT:=hid CT
 replace rp:=hid rp
 have hpl2:=hid hpl
 have hwN:Hid (w.heap.size≤w.heap.size+1):=by show w.heap.size≤_;omega
 obtain⟨Q,hQ⟩:∃Q,Q=OutX A w r er:=⟨_,rfl⟩
 have hgo:=hid hm
 have hput:=hid (show ∀t et W' z0 z1 z2 z3 z4 z5 z6,t=r→et=er→RdX (And1 (And1 A w.heap.size) (w.heap.size+1)) W' [z0,z1,z2,z3,z4,z5,z6] t→Below w.heap.size w W'→Q (.returned (.tuple #[.agg #[z0,z1,z2,z3,z4,z5,z6],.int .i64 et])) (W'.setCells (w.heap.size+1) 0 [z0,z1,z2,z3,z4,z5,z6]) from fun t et W' z0 z1 z2 z3 z4 z5 z6 e1 e2 h1 h2=>by
  subst e1 e2
  rw[hQ];exact aW (RdX.less h1 fun k hk=>hk.elim (fun h=>Or.inl (Or.inl h)) Or.inr) h2 hwN.out)
 have hnone:=hid (show m1=false∨m2=false→∀W',Below w.heap.size w W'→Q (.returned (.tuple #[.agg #[.int .i64 0,.bool false,.slice none 0 0,.int .i64 0,.string ⟨#[]⟩,.slice none 0 0,.slice none 0 0],.int .i64 1])) (W'.setCells (w.heap.size+1) 0 [.int .i64 0,.bool false,.slice none 0 0,.int .i64 0,.string ⟨#[]⟩,.slice none 0 0,.slice none 0 0]) from fun h W' hb=>by
  obtain⟨rfl,rfl⟩:=hn h
  rw[hQ]
  exact aK hb hwN.out)
 have hbad:=hid (show ∀et:Nat,r=.null→et=er→∀W',Below w.heap.size w W'→Q (.returned (.tuple #[.agg #[.int .i64 0,.bool false,.slice none 0 0,.int .i64 0,.string ⟨#[]⟩,.slice none 0 0,.slice none 0 0],.int .i64 et])) (W'.setCells (w.heap.size+1) 0 [.int .i64 0,.bool false,.slice none 0 0,.int .i64 0,.string ⟨#[]⟩,.slice none 0 0,.slice none 0 0]) from fun et h1 h2 W' hb=>by
  subst h1 h2
  rw[hQ]
  exact aK hb hwN.out)
 rw[←hQ]
 clear hQ hn hm
 have hv2:=hid hv
 have sv2:=hid sv
 clear hv sv hpl
 obtain⟨⟨p0,p1,p2,p3,p4,p5,p6⟩,_⟩:=ag HX.out
 go_enter Tryz.func15,Tryz.ntmps15
 go_upto_region 1 with fail
 rw[hW.out]
 go_wp2_with fail
 refine (CM.out _ HB.out).mono ?_
 rintro en w1 ⟨rfl,hb⟩
 have q1:=hid (ae HB.out hb)
 have x1:=hid (af HX.out hb)
 have z1:=hid (af HZ.out hb)
 have i1:=hid (HI.out.next hb)
 have r1':=hid (hrv.out.stay hb)
 clear hb hrv HB HX HZ HI hW CM p0 p1 p2 p3 p4 p5 p6
 cases m1 with
 | false =>
  have hq:=hid (hnone.out (by simp))
  obtain⟨⟨r0,r1,r2,r3,r4,r5,r6⟩,s0,s1,s2,s3,s4,s5,s6⟩:=ag z1.out
  clear hnone hput CT hbad hgo hv2 sv2 CM2
  go_wp2_with fail
  refine bodyPost_ret (v:=.tuple #[.agg #[.int .i64 0,.bool false,.slice none 0 0,.int .i64 0,.string ⟨#[]⟩,.slice none 0 0,.slice none 0 0],.int .i64 1]) (by simp[results,Tryz.results15,go_sem,r0,r1,r2,r3,r4,r5,r6]) rfl ?_
  exact hq.out _ q1.out
 | true =>
  go_wp2_with fail
  refine (CM2.out _ q1.out).mono ?_
  rintro en w2 ⟨rfl,hb⟩
  have q2:=hid (ae q1.out hb)
  have x2:=hid (af x1.out hb)
  have z2:=hid (af z1.out hb)
  have i2:=hid (i1.out.next hb)
  have r2':=hid (r1'.out.stay hb)
  clear hb q1 x1 z1 i1 r1' CM2
  cases m2 with
  | false =>
   have hq:=hid (hnone.out (by simp))
   obtain⟨⟨r0,r1,r2,r3,r4,r5,r6⟩,s0,s1,s2,s3,s4,s5,s6⟩:=ag z2.out
   clear hnone hput CT hbad hgo hv2 sv2
   go_wp2_with fail
   refine bodyPost_ret (v:=.tuple #[.agg #[.int .i64 0,.bool false,.slice none 0 0,.int .i64 0,.string ⟨#[]⟩,.slice none 0 0,.slice none 0 0],.int .i64 1]) (by simp[results,Tryz.results15,go_sem,r0,r1,r2,r3,r4,r5,r6]) rfl ?_
   exact hq.out _ q2.out
  | true =>
   have CT2:=hid (CT.out (by simp) (by simp))
   have hgo2:=hid (hgo.out (by simp) (by simp))
   have hmv:=hid (hv2.out (by simp))
   clear CT hgo hnone hv2
   go_upto_region 4 with fail
   go_loopw [6,7,8] (fun v21 _ _ wr=>∃(i:Nat) (u:JV),∃ck cg ca cl cc ce cs caa can cac coa con coc,i≤pl∧v21=.int .i64 i∧Hid (goJ u (path.drop i)=(r,er))∧Hid (mayJ 200 u=true)∧Hid (SmallV u)∧Hid (RdX (And1 (And1 A w.heap.size) (w.heap.size+1)) wr [.int .i64 ck,.bool cg,.slice ca cl cc,.int .i64 ce,.string cs,.slice caa can cac,.slice coa con coc] u) ∧
    Hid (wr.heap[w.heap.size]? = some (.cells #[.int .i64 ck,.bool cg,.slice ca cl cc,.int .i64 ce,.string cs,.slice caa can cac,.slice coa con coc] 28))∧Hid (wr.heap[w.heap.size+1]? = some (.cells #[.int .i64 0,.bool false,.slice none 0 0,.int .i64 0,.string ⟨#[]⟩,.slice none 0 0,.slice none 0 0] 28))∧Hid (Below w.heap.size w wr)∧Hid (In (And1 (And1 A w.heap.size) (w.heap.size+1)) wr)) (fun v21 _ _ _=>pl-(intOf v21).toNat)
   case atStart=>exact⟨0,v,xk,xg,xa,xl,xc,xe,xs,xaa,xan,xac,xoa,xon,xoc,Nat.zero_le _,rfl,hgo2,hmv,sv2,r2',x2,z2,q2,i2⟩
   case round =>
    obtain⟨i,u,ck,cg,ca,cl,cc,ce,cs,caa,can,cac,coa,con,coc,hi,rfl,hg,hmu,hsu,hru,hx,hz,hB,hI⟩:=hrel
    clear x2 z2 q2 i2 r2' hgo2 hmv sv2
    obtain⟨⟨p0,p1,p2,p3,p4,p5,p6⟩,f0,f1,f2,f3,f4,f5,f6⟩:=ag hx.out
    by_cases hlt:i<pl
    ·have hlt2:(i:Int)<(pl:Int):=by omega
     have hk1:i<path.length:=by rw[←hpl2.out];exact hlt
     obtain⟨kv,hkv⟩:∃kv,kv=path[i]:=⟨_,rfl⟩
     have hmem:=hid (show kv ∈ path by rw[hkv];exact List.getElem_mem hk1)
     have hg2:=hg.out
     rw[Eo hk1,←hkv] at hg2
     obtain⟨ck,⟨b,off,rfl,hc⟩,hrk⟩:=(rp.out.below hB.out) i kv (by rw[hkv];exact List.getElem?_eq_getElem hk1)
     obtain⟨kk,kg,ka,kl,kc,ke,ks,kaa,kan,kac,koa,kon,koc,rfl⟩:=hrk.sevenB
     have u0:=hc 0 _ rfl
     have u1:=hc 1 _ rfl
     have u2:=hc 2 _ rfl
     have u3:=hc 3 _ rfl
     have u4:=hc 4 _ rfl
     have u5:=hc 5 _ rfl
     have u6:=hc 6 _ rfl
     rw[Nat.add_zero] at u0
     have hlu:=au u0
     have hlx:w.heap.size<wr.heap.size:=aC hx.out
     have CT3:=hid (fun W' (hb:Below wr.heap.size wr W')=>CT2.out (AndBox (And1 (And1 A w.heap.size) (w.heap.size+1)) wr W') u kv [.int .i64 ck,.bool cg,.slice ca cl cc,.int .i64 ce,.string cs,.slice caa can cac,.slice coa con coc] [.int .i64 kk,.bool kg,.slice ka kl kc,.int .i64 ke,.string ks,.slice kaa kan kac,.slice koa kon koc] W' hmem.out hmu.out hsu.out (iM hI.out hb) (nC hru.out hb) (hrk.stay hb) (ae hB.out hb))
     have hmt:=hid (eQ (k:=kv) hmu.out)
     have hst:=hid (show SmallV (takeJ u kv).1 from dS hsu.out (readS kv) (fun h4=>dU hmu.out h4))
     replace hg2:=hid hg2
     clear hc hrk hg hmu hsu hru hkv hmem
     generalize takeJ u kv=tk at hg2 CT3 hmt hst
     obtain⟨t1,et⟩:=tk
     dsimp only at hg2 CT3 hmt hst
     go_upto_region 6 with fail
     go_cut [7,8] from 24 to 32 (fun v7 v8 w5=>Boxed (And1 (And1 A w.heap.size) (w.heap.size+1)) wr w5 v7 t1∧v8=.int .i64 et)
     case first =>
      have hN:=hid (fun w3 (hb:Below (wr.alloc (.cells #[.int .i64 0,.bool false,.slice none 0 0,.int .i64 0,.string ⟨#[]⟩,.slice none 0 0,.slice none 0 0] 28)).drew.heap.size (wr.alloc (.cells #[.int .i64 0,.bool false,.slice none 0 0,.int .i64 0,.string ⟨#[]⟩,.slice none 0 0,.slice none 0 0] 28)).drew w3)=>ag (af (aV wr (.cells #[.int .i64 0,.bool false,.slice none 0 0,.int .i64 0,.string ⟨#[]⟩,.slice none 0 0,.slice none 0 0] 28)) hb))
      go_region_held3 (fun W'=>(∀b o,b<wr.heap.size→W'.cell? ⟨b,o,none⟩=wr.cell? ⟨b,o,none⟩)∧(∀b o,b<wr.heap.size→W'.frozen? ⟨b,o,none⟩=wr.frozen? ⟨b,o,none⟩)∧Below wr.heap.size wr W') (with_reducible first | exact bM _ | exact bP (by assumption) (by assumption) | exact bC (by assumption) _ | exact bQ (by assumption) _ | exact bD _ | exact fZ (by assumption) _ | exact aA (by assumption) (Nat.le_refl _) | exact aA (by assumption) (dX (by assumption)) | exact aA (by assumption) (by assumption) | exact aA (by assumption) (Nat.le_succ_of_le (by assumption)) | exact aA (by assumption) (Nat.le_succ_of_le (Nat.le_succ_of_le (by assumption))) | assumption) ((go_at_call 29;(with_reducible refine (CT3.out _ ?_).mono ?_);(simp only[*]);rintro e3 w3 ⟨cs3,rfl,hr3,hb3⟩;obtain⟨fk,fg,fa,fl,fc,fe,fs,faa,fan,fac,foa,fon,foc,rfl⟩:=RdV.sevenB hr3;(first | (with_reducible have mm:=hN.out _ hb3;obtain⟨⟨m0,m1,m2,m3,m4,m5,m6⟩,g0,g1,g2,g3,g4,g5,g6⟩:=mm) | skip)))
      all_goals
       go_wp2_with fail
       go_meet
       case rel=>first | with_reducible exact⟨dR hr3 hb3,rfl⟩ | exact⟨dF hr3 rfl hb3,rfl⟩
     case rest =>
      obtain⟨⟨N1,fk,fg,fa,fl,fc,fe,fs,faa,fan,fac,foa,fon,foc,rfl,y5,ry5,b5,hN1⟩,rfl⟩:=hcut
      have q5:=hid (ae hB.out b5.out)
      have x5:=hid (af hx.out b5.out)
      have z5:=hid (af hz.out b5.out)
      have i5:=hid (hI.out.next b5.out)
      replace hN1:N1≠w.heap.size:=by have:=hN1.out;omega
      clear hx hz hB hI CT3 b5 p0 p1 p2 p3 p4 p5 p6 u0 u1 u2 u3 u4 u5 u6 f0 f1 f2 f3 f4 f5 f6 hlu hlx
      by_cases he:et=0
      ·have hg3:=hg2.out
       rw[if_neg (by omega)] at hg3
       subst he
       replace hg3:=hid hg3
       clear hg2 hput hbad
       obtain⟨⟨p0,p1,p2,p3,p4,p5,p6⟩,_⟩:=ag y5.out
       obtain⟨⟨g0,g1,g2,g3,g4,g5,g6⟩,f0',f1',f2',f3',f4',f5',f6'⟩:=ag x5.out
       obtain⟨W5,hW5⟩:∃W5,W5=wc.setCells w.heap.size 0 [.int .i64 fk,.bool fg,.slice fa fl fc,.int .i64 fe,.string fs,.slice faa fan fac,.slice foa fon foc]:=⟨_,rfl⟩
       have hN5:=hid (show (((((((wc.setCell ⟨w.heap.size,0,none⟩ (.int .i64 fk)).setCell ⟨w.heap.size,1,none⟩ (.bool fg)).setCell ⟨w.heap.size,2,none⟩ (.slice fa fl fc)).setCell ⟨w.heap.size,3,none⟩ (.int .i64 fe)).setCell ⟨w.heap.size,4,none⟩ (.string fs)).setCell ⟨w.heap.size,5,none⟩ (.slice faa fan fac)).setCell ⟨w.heap.size,6,none⟩ (.slice foa fon foc))=W5 by rw[hW5];rfl)
       have q6:=hid (aB w.heap.size (Nat.le_refl _) [.int .i64 fk,.bool fg,.slice fa fl fc,.int .i64 fe,.string fs,.slice faa fan fac,.slice foa fon foc] 0 wc q5.out)
       have x6:=hid (iq (d0:=.int .i64 fk) (d1:=.bool fg) (d2:=.slice fa fl fc) (d3:=.int .i64 fe) (d4:=.string fs) (d5:=.slice faa fan fac) (d6:=.slice foa fon foc) x5.out)
       have z6:=hid ((jL [.int .i64 fk,.bool fg,.slice fa fl fc,.int .i64 fe,.string fs,.slice faa fan fac,.slice foa fon foc] 0 wc (w.heap.size+1) (show w.heap.size+1≠w.heap.size by omega)).trans z5.out)
       have r6':=hid (RdX.keep (r:=w.heap.size) (o:=0) (zs:=[.int .i64 fk,.bool fg,.slice fa fl fc,.int .i64 fe,.string fs,.slice faa fan fac,.slice foa fon foc]) ry5.out (Or.inl (Or.inr rfl)))
       have i6:=hid (show In (And1 (And1 A w.heap.size) (w.heap.size+1)) (wc.setCells w.heap.size 0 [.int .i64 fk,.bool fg,.slice fa fl fc,.int .i64 fe,.string fs,.slice faa fan fac,.slice foa fon foc]) from fun k hk=>by rw[dm];exact i5.out k hk)
       rw[←hW5] at q6 x6 z6 r6' i6
       clear x5 z5 q5 i5 ry5 y5 hW5
       go_wp2_with fail
       rw[hN5.out]
       clear hN5 g0 g1 g2 g3 g4 g5 g6 f0' f1' f2' f3' f4' f5' f6' p0 p1 p2 p3 p4 p5 p6
       go_roundw
       case rel=>exact⟨i+1,t1,fk,fg,fa,fl,fc,fe,fs,faa,fan,fac,foa,fon,foc,by omega,by go_num,hg3,hmt,hst,r6',x6,z6,q6,i6⟩
       case measure=>simp[intOf];omega
      ·have hg3:=hg2.out
       rw[if_pos he] at hg3
       have hq:=hid (hbad.out et (congrArg Prod.fst hg3).symm (congrArg Prod.snd hg3) _ q5.out)
       have hne:((et:Int) != 0)=true:=by rw[bne_iff_ne];omega
       obtain⟨⟨r0,r1,r2,r3,r4,r5,r6⟩,s0,s1,s2,s3,s4,s5,s6⟩:=ag z5.out
       clear hg3 hg2 hput hbad he x5 q5 i5 ry5 y5
       go_wp2_with fail
       refine bodyPost_ret (v:=.tuple #[.agg #[.int .i64 0,.bool false,.slice none 0 0,.int .i64 0,.string ⟨#[]⟩,.slice none 0 0,.slice none 0 0],.int .i64 et]) (by simp[results,Tryz.results15,go_sem,r0,r1,r2,r3,r4,r5,r6]) rfl ?_
       exact hq.out
    ·obtain rfl:i=pl:=by omega
     have hlt2:¬ ((i:Nat):Int)<(i:Int):=by omega
     have hg2:=hg.out
     rw[List.drop_of_length_le (by rw[←hpl2.out];exact Nat.le_refl _)] at hg2
     have e1:u=r:=congrArg Prod.fst hg2
     have e2:0=er:=congrArg Prod.snd hg2
     have hF:=hid (hput.out u 0 wr _ _ _ _ _ _ _ e1 e2 hru.out hB.out)
     obtain⟨⟨r0,r1,r2,r3,r4,r5,r6⟩,s0,s1,s2,s3,s4,s5,s6⟩:=ag hz.out
     clear hg hg2 e1 e2 hput hbad
     go_wp2_with fail
     refine bodyPost_ret (v:=.tuple #[.agg #[.int .i64 ck,.bool cg,.slice ca cl cc,.int .i64 ce,.string cs,.slice caa can cac,.slice coa con coc],.int .i64 0]) (by simp[results,Tryz.results15,go_sem,r0,r1,r2,r3,r4,r5,r6]) rfl ?_
     exact hF.out
open Classical in
theorem JX (A:Nat→Prop)(v:JV)(path:List JV)(cs:List Value)(pa:Option Addr)(pc:Nat)(w:World)(hIn:In A w)(sv:SmallV v)(hp:path.length≤1048576)(rv:RdX A w cs v)(rp:RdA w pa path) :
  Calls Tryz.prog 15 #[.agg cs.toArray,.slice pa path.length pc] w (OutX A w (getPJ v path).1 (getPJ v path).2):=by
 have rv':=RdX.rd rv
 have C1:=fun W (hb:Below w.heap.size w W)=>qw v cs W (rv'.stay hb)
 obtain⟨xk,xg,xa,xl,xc,xe,xs,xaa,xan,xac,xoa,xon,xoc,rfl⟩:=RdV.sevenB rv
 refine JH A xk xg xa xl xc xe xs xaa xan xac xoa xon xoc pa path.length pc v path (mayJ 200 v) (decide (∀x ∈ path,mayJ 200 x=true)) _ _ w hIn rfl hp rv rp C1 ?_ ?_ ?_ sv ?_ ?_
 ·intro W hb
  exact Jk path pa pc W (rp.below hb) (by omega)
 ·intro _ h2 A2 u k cs ck W hk hu su hi ru rk hb
  exact yw A2 u k cs ck W hu (of_decide_eq_true h2 k hk) su ru rk
 ·intro h
  exact h
 ·intro h1 h2
  unfold getPJ
  rw[if_pos ⟨h1,of_decide_eq_true h2⟩]
 ·intro h
  unfold getPJ
  rw[if_neg]
  ·exact⟨rfl,rfl⟩
  ·rintro ⟨h1,h2⟩
   rcases h with h | h
   ·rw[h] at h1;cases h1
   ·exact of_decide_eq_false h h2
end Go.Proofs.YtcgbmmalfbpjaaaGreatDoor
