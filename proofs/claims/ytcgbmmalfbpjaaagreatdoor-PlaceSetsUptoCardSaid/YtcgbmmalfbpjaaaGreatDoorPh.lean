/-  -/
import Derived.Test.YtcgbmmalfbpjaaaGreatDoorPa
import Derived.Test.YtcgbmmalfbpjaaaGreatDoorPi
import Derived.Test.YtcgbmmalfbpjaaaGreatDoorMq
import Derived.Test.YtcgbmmalfbpjaaaGreatDoorPb
import Derived.Test.YtcgbmmalfbpjaaaGreatDoorPc
import Derived.Test.YtcgbmmalfbpjaaaGreatDoorFg
import Derived.Test.YtcgbmmalfbpjaaaGreatDoorPd
set_option maxRecDepth 100000
set_option maxHeartbeats 16000000
namespace Go.Proofs.YtcgbmmalfbpjaaaGreatDoor
open Go.RowKit
theorem lM (k:JV)(a:Option Addr)(c:Nat)(up:Bool)(w:World)(h:U32 w a k.ls) :
  Calls Tryz.prog 84 #[.agg #[.bool k.g,.slice a k.ls.length c,.int .i64 k.e],.bool up] w fun e w'=>e=.returned (.tuple #[.int .i64 (wholeJ k (if up=true then 2 else 1)).1,.int .i64 ((wholeJ k (if up=true then 2 else 1)).2:Nat)])∧Below w.heap.size w w':=by
 have CF:∀(way:Nat),way≤3→∀W,Below w.heap.size w W→Calls Tryz.prog 128 #[.agg #[.bool k.g,.slice a k.ls.length c,.int .i64 k.e],.int .i64 way] W (OutW W (wholeD k way)):=fun way hway W hb=>(yF k.g a c k.e k.ls W way hway (h.below hb)).mono fun _ _ h=>h.outW
 have CI:∀(way:Nat) W b cap,U32 W b (Num.limbs (wholeD k way).m)→Calls Tryz.prog 129 #[.agg #[.bool (wholeD k way).neg,.slice b (Num.limbs (wholeD k way).m).length cap,.int .i64 (wholeD k way).e]] W fun e w'=>e=.returned (.tuple #[.int .i64 (wholeJ k way).1,.int .i64 ((wholeJ k way).2:Nat)])∧Below W.heap.size W w':=fun way W b cap hu=>EJ (wholeD k way).neg b cap (wholeD k way).e _ W hu
 have CF1:=hid (show ∀W,Below w.heap.size w W→Calls Tryz.prog 128 #[.agg #[.bool k.g,.slice a k.ls.length c,.int .i64 k.e],.int .i64 1] W (OutW W (wholeD k 1)) from CF 1 (by omega))
 have CF2:=hid (show ∀W,Below w.heap.size w W→Calls Tryz.prog 128 #[.agg #[.bool k.g,.slice a k.ls.length c,.int .i64 k.e],.int .i64 2] W (OutW W (wholeD k 2)) from CF 2 (by omega))
 have CI1:=hid (CI 1)
 have CI2:=hid (CI 2)
 clear CF CI h
 unfold OutW at CF1 CF2
 generalize k.g=g at *
 generalize k.ls.length=m at *
 generalize k.e=e at *
 cases up
 ·simp only[Bool.false_eq_true,if_false]
  generalize wholeJ k 1=q at *
  generalize wholeD k 1=d at *
  generalize (Num.limbs d.m).length=dl at *
  generalize d.neg=dn at *
  generalize d.e=de at *
  obtain⟨q,er⟩:=q
  go_enter Tryz.func84,Tryz.ntmps84
  go_wp2_with fail
  refine (CF1.out _ ((Below.refl _ _).alloc (Nat.le_refl _) _)).mono ?_
  rintro en w1 ⟨b,cap,er1,rfl,hb1,hu1⟩
  have hb2:=hid (ae ((Below.refl _ _).alloc (Nat.le_refl _) _) hb1)
  replace hu1:=hid hu1
  clear hb1
  go_wp2_with fail
  have hbA:=hid (hb2.out.alloc hb2.out.size (.cells #[.bool dn,.slice b dl cap,.int .i64 de] 24))
  refine (CI1.out _ b cap (hu1.out.below ((Below.refl w1.heap.size w1).alloc (Nat.le_refl _) _))).mono ?_
  rintro en w2 ⟨rfl,hb⟩
  have hb3:=hid (ae hbA.out hb)
  clear hb hu1 hb2 hbA CF1 CI1
  go_wp2_with fail
  go_ret2
  exact⟨rfl,hb3.out⟩
 ·simp only[if_true]
  generalize wholeJ k 2=q at *
  generalize wholeD k 2=d at *
  generalize (Num.limbs d.m).length=dl at *
  generalize d.neg=dn at *
  generalize d.e=de at *
  obtain⟨q,er⟩:=q
  go_enter Tryz.func84,Tryz.ntmps84
  go_wp2_with fail
  refine (CF2.out _ ((Below.refl _ _).alloc (Nat.le_refl _) _)).mono ?_
  rintro en w1 ⟨b,cap,er1,rfl,hb1,hu1⟩
  have hb2:=hid (ae ((Below.refl _ _).alloc (Nat.le_refl _) _) hb1)
  replace hu1:=hid hu1
  clear hb1
  go_wp2_with fail
  have hbA:=hid (hb2.out.alloc hb2.out.size (.cells #[.bool dn,.slice b dl cap,.int .i64 de] 24))
  refine (CI2.out _ b cap (hu1.out.below ((Below.refl w1.heap.size w1).alloc (Nat.le_refl _) _))).mono ?_
  rintro en w2 ⟨rfl,hb⟩
  have hb3:=hid (ae hbA.out hb)
  clear hb hu1 hb2 hbA CF2 CI2
  go_wp2_with fail
  go_ret2
  exact⟨rfl,hb3.out⟩
theorem vV (k:JV)(a:Option Addr)(c n:Nat)(w:World)(h:U32 w a k.ls)(hn:n≤1152921504606846976) :
  Calls Tryz.prog 54 #[.agg #[.bool k.g,.slice a k.ls.length c,.int .i64 k.e],.int .i64 n] w fun e w'=>e=.returned (.tuple #[.int .i64 (atJ k n).1,.int .i64 ((atJ k n).2:Nat)])∧Below w.heap.size w w':=by
 have CW:=hid (fun W (hb:Below w.heap.size w W)=>lM k a c false W (h.below hb))
 have hr:=bJ k 1
 obtain⟨r,hR⟩:∃r,r=atJ k n:=⟨_,rfl⟩
 rw[←hR]
 unfold atJ at hR
 simp only[Bool.false_eq_true,if_false] at CW
 generalize wholeJ k 1=q at *
 generalize k.g=g at *
 generalize k.ls.length=m at *
 generalize k.e=e at *
 obtain⟨q,er⟩:=q
 simp only at hr hR
 obtain⟨h1,h2,h3⟩:=hr
 replace hR:=hid hR
 replace CW:=hid CW.out
 clear h
 go_enter Tryz.func54,Tryz.ntmps54
 go_wp2_with fail
 refine (CW.out _ ((Below.refl _ _).alloc (Nat.le_refl _) _)).mono ?_
 rintro en w1 ⟨rfl,hb1⟩
 have hb2:=hid (ae ((Below.refl _ _).alloc (Nat.le_refl _) _) hb1)
 clear hb1 CW
 by_cases he:er=0
 ·subst he
  clear h3
  by_cases hq:q<0
  ·obtain rfl:r=(q+n,0):=by rw[hR.out,if_pos hq]
   have hw:IntKind.i64.wrap (q+(n:Int))=q+(n:Int):=IntWalk.i64_in _ (by omega)
   clear hR
   go_wp2_with fail
   go_ret2
   exact⟨by first | rfl | (rw[hw]) | go_num,hb2.out⟩
  ·obtain rfl:r=(q,0):=by rw[hR.out,if_neg hq]
   clear hR
   go_wp2_with fail
   go_ret2
   exact⟨rfl,hb2.out⟩
 ·have hq0:=h3 he
  subst hq0
  obtain rfl:r=(0,er):=by rw[hR.out,if_neg (by omega)]
  have g:((er:Int) == 0)=false:=by rw[beq_eq_false_iff_ne];omega
  clear hR h3 h1 h2
  go_wp2_with fail
  go_ret2
  exact⟨rfl,hb2.out⟩
theorem jZ (i:Int)(n:Nat)(w:World)(h1:-9007199254740992≤i)(h2:i≤9007199254740992)(hn:n≤1152921504606846976) :
  Calls Tryz.prog 85 #[.int .i64 i,.int .i64 n] w fun e w'=>e=.returned (.int .i64 (withinJ i n:Nat))∧w'=w:=by
 obtain⟨r,hr⟩:∃r,r=withinJ i n:=⟨_,rfl⟩
 rw[←hr]
 unfold withinJ at hr
 by_cases hi:i<0
 ·rw[if_pos hi] at hr
  have hw:IntKind.i64.wrap (i+(n:Int))=i+(n:Int):=IntWalk.i64_in _ (by omega)
  by_cases h0:i+(n:Int)<0
  ·obtain rfl:r=0:=by omega
   clear hr
   go_enter Tryz.func85,Tryz.ntmps85
   go_wp2_with fail
   go_ret
   exact⟨rfl,rfl⟩
  ·have h3:¬ (i+(n:Int) > n):=by omega
   have hr2:(r:Int)=i+n:=by omega
   clear hr
   replace hr2:=hid hr2
   go_enter Tryz.func85,Tryz.ntmps85
   go_wp2_with fail
   go_ret
   exact⟨by rw[hr2.out];rfl,rfl⟩
 ·rw[if_neg hi] at hr
  by_cases h3:i > (n:Int)
  ·obtain rfl:r=n:=by omega
   clear hr
   go_enter Tryz.func85,Tryz.ntmps85
   go_wp2_with fail
   go_ret
   exact⟨rfl,rfl⟩
  ·have hr2:(r:Int)=i:=by omega
   clear hr
   replace hr2:=hid hr2
   go_enter Tryz.func85,Tryz.ntmps85
   go_wp2_with fail
   go_ret
   exact⟨by rw[hr2.out];rfl,rfl⟩
def OutHF (w0 w:World) (x:JV) (f:Bool) (e:Ending) (w':World):Prop:=∃cs,e=.returned (.tuple #[.agg cs.toArray,.bool f])∧RdV w0 cs x∧Below w.heap.size w w'
theorem xx {w0 w W:World}{r:Nat}{zs:List Value}{f:Bool}(hb:Below w.heap.size w W)(hr:w.heap.size≤r) :
  OutHF w0 w .null f (.returned (.tuple #[.agg #[.int .i64 0,.bool false,.slice none 0 0,.int .i64 0,.string ⟨#[]⟩,.slice none 0 0,.slice none 0 0],.bool f])) (W.setCells r 0 zs) :=
 ⟨valCs 0 false none 0 0 0 [] none 0 0 none 0 0,rfl,eu _,aB r hr _ _ _ hb⟩
theorem uF {w0 w W:World}{r:Nat}{f:Bool}{zs:List Value}{k:Int}{g:Bool}{a:Option Addr}{ln c:Nat}{e:Int}{s:List UInt8}{aa:Option Addr}{an ac:Nat}{oa:Option Addr}{on oc:Nat}{x:JV}(h:RdV w0 (valCs k g a ln c e s aa an ac oa on oc) x)(hb:Below w.heap.size w W)(hr:w.heap.size≤r) :
  OutHF w0 w x f (.returned (.tuple #[.agg #[.int .i64 k,.bool g,.slice a ln c,.int .i64 e,.string ⟨s.toArray⟩,.slice aa an ac,.slice oa on oc],.bool f])) (W.setCells r 0 zs) :=
 ⟨valCs k g a ln c e s aa an ac oa on oc,rfl,h,aB r hr _ _ _ hb⟩
theorem AU (v:JV)(key:List UInt8)(a:Option Addr)(c:Nat)(aa:Option Addr)(ac:Nat)(oa:Option Addr)(oc:Nat)(w0 w:World)(hw:SubW w0 w)
  (P:PartsV w0 (valCs v.kind v.g a v.ls.length c v.e v.s aa v.arr.length ac oa v.obj.length oc) v a c aa ac oa oc) :
  Calls Tryz.prog 53 #[valV v.kind v.g a v.ls.length c v.e v.s aa v.arr.length ac oa v.obj.length oc,strV key] w (OutHF w0 w ((getO key v.obj).getD .null) (getO key v.obj).isSome):=by
 have hO:=hid P.obj
 have hol:v.obj.length≤9223372036854775807:=by have:=P.oc;omega
 have HW:=hid hw
 clear P hw
 obtain⟨k,g,ls,e,s,arr,obj⟩:=v
 simp only[JV.kind,JV.g,JV.ls,JV.e,JV.s,JV.arr,JV.obj] at *
 unfold valV strV
 generalize (⟨s.toArray⟩:ByteArray)=sb at *
 generalize ls.length=l at *
 generalize arr.length=an at *
 generalize hol':obj.length=on at *
 have HOL:=hid hol'
 clear hol'
 obtain⟨kb,hkb⟩:∃kb:ByteArray,kb=⟨key.toArray⟩:=⟨_,rfl⟩
 rw[←hkb]
 replace hkb:=hid hkb
 obtain⟨W,hW⟩:∃W,W=(w.alloc (.cells #[.int .i64 k,.bool g,.slice a l c,.int .i64 e,.string sb,.slice aa an ac,.slice oa on oc] 28)).alloc (.cells #[.int .i64 0,.bool false,.slice none 0 0,.int .i64 0,.string ⟨#[]⟩,.slice none 0 0,.slice none 0 0] 28):=⟨_,rfl⟩
 have HB:=hid (show Below w.heap.size w W by rw[hW];exact aQ _ _ _)
 have HX:Hid (BoxV W w.heap.size k g a l c e sb aa an ac oa on oc):=by
  rw[hW]
  exact⟨by simp[go_sem],by simp[go_sem],by simp[go_sem],by simp[go_sem],by simp[go_sem],by simp[go_sem],by simp[go_sem]⟩
 have HZ:Hid (W.heap[w.heap.size+1]? = some (.cells #[.int .i64 0,.bool false,.slice none 0 0,.int .i64 0,.string ⟨#[]⟩,.slice none 0 0,.slice none 0 0] 28)):=by
  rw[hW]
  exact ax w _ _
 replace hW:=hid hW.symm
 have hr1:Hid (w.heap.size≤w.heap.size+1):=Nat.le_succ _
 obtain⟨⟨r0,r1,r2,r3,r4,r5,r6⟩,s0,s1,s2,s3,s4,s5,s6⟩:=ag HZ.out
 obtain⟨p0,p1,p2,p3,p4,p5,p6⟩:=HX.out
 go_enter Tryz.func53,Tryz.ntmps53
 go_upto_region 1 with fail
 rw[hW.out]
 go_upto_region 2 with fail
 go_loopw [6] (fun v6 wr=>∃i:Nat,i≤on∧Hid (∀p ∈ obj.take i,p.1≠key)∧v6=.int .i64 i∧wr=W) (fun v6 _=>on-(intOf v6).toNat)
 case atStart=>exact⟨0,Nat.zero_le _,hid (by simp),rfl,rfl⟩
 case round =>
  obtain⟨i,hi,hM,rfl,rfl⟩:=hrel
  by_cases hlt:i<on
  ·have hlt2:(i:Int)<(on:Int):=by omega
   have hi1:i<obj.length:=by rw[HOL.out];exact hlt
   obtain⟨b,off,a1,c1,aa1,ac1,oa1,oc1,rfl,_,P1,C1⟩:=hO.out.at hi1
   have rd:=hid P1.rd
   obtain⟨x,hx⟩:∃x,x=obj[i]:=⟨_,rfl⟩
   rw[←hx] at C1 rd
   have HXX:=hid hx
   clear hx P1
   obtain⟨kx,x⟩:=x
   simp only at C1 rd
   unfold Cells8f strV at C1
   have C2:=C1
   obtain⟨u0,u1,u2,u3,u4,u5,u6,u7⟩:=C2
   replace u0:=ai (HW.out _ _ u0) HB.out
   replace u1:=ai (HW.out _ _ u1) HB.out
   replace u2:=ai (HW.out _ _ u2) HB.out
   replace u3:=ai (HW.out _ _ u3) HB.out
   replace u4:=ai (HW.out _ _ u4) HB.out
   replace u5:=ai (HW.out _ _ u5) HB.out
   replace u6:=ai (HW.out _ _ u6) HB.out
   replace u7:=ai (HW.out _ _ u7) HB.out
   clear C1
   by_cases hkk:kx=key
   ·have hg:getO key obj=some x:=by
     have:=kM (l:=obj.take i) hM.out (obj.drop i)
     rw[List.take_append_drop] at this
     rw[this,List.drop_eq_getElem_cons hi1,←HXX.out]
     show (if kx=key then some x else getO key _)=_
     rw[if_pos hkk]
    rw[hg]
    have hOut:=hid (uF (f:=true) (zs:=[.int .i64 x.kind,.bool x.g,.slice a1 x.ls.length c1,.int .i64 x.e,.string ⟨x.s.toArray⟩,.slice aa1 x.arr.length ac1,.slice oa1 x.obj.length oc1]) rd.out HB.out hr1.out)
    have qk:((⟨kx.toArray⟩:ByteArray).toList == kb.toList)=true:=by rw[hkb.out,hkk];exact beq_self_eq_true _
    generalize (⟨kx.toArray⟩:ByteArray)=kc at *
    generalize (⟨x.s.toArray⟩:ByteArray)=xs at *
    clear hkk hg rd
    go_wp2_with fail
    refine bodyPost_ret (v:=.tuple #[.agg #[.int .i64 x.kind,.bool x.g,.slice a1 x.ls.length c1,.int .i64 x.e,.string xs,.slice aa1 x.arr.length ac1,.slice oa1 x.obj.length oc1],.bool true]) (by simp[results,Tryz.results53,go_sem,r0,r1,r2,r3,r4,r5,r6]) rfl ?_
    exact hOut.out
   ·have qk:((⟨kx.toArray⟩:ByteArray).toList == kb.toList)=false:=by rw[hkb.out];exact rC hkk
    have HKK:=hid hkk
    generalize (⟨kx.toArray⟩:ByteArray)=kc at *
    clear hkk rd
    go_wp2_with fail
    go_roundw
    case rel=>exact⟨i+1,by omega,hid (fun p hp=>by
     rw[List.take_succ_eq_append_getElem hi1] at hp
     rcases List.mem_append.1 hp with h | h
     ·exact hM.out p h
     ·simp only[List.mem_singleton] at h
      rw[h,←HXX.out]
      exact HKK.out),by first | rfl | go_num,by first | rfl | trivial⟩
    case measure=>simp[intOf];omega
  ·obtain rfl:i=on:=by omega
   have hlt2:¬ ((i:Nat):Int)<(i:Int):=by omega
   have hg:getO key obj=none:=by
    have:=kM (l:=obj.take i) hM.out []
    rw[List.append_nil,List.take_of_length_le (by rw[HOL.out];exact Nat.le_refl _)] at this
    rw[this]
    rfl
   rw[hg]
   have hOut:=hid (xx (w0:=w0) (f:=false) (zs:=[.int .i64 0,.bool false,.slice none 0 0,.int .i64 0,.string ⟨#[]⟩,.slice none 0 0,.slice none 0 0]) HB.out hr1.out)
   go_wp2_with fail
   refine bodyPost_ret (v:=.tuple #[.agg #[.int .i64 0,.bool false,.slice none 0 0,.int .i64 0,.string ⟨#[]⟩,.slice none 0 0,.slice none 0 0],.bool false]) (by simp[results,Tryz.results53,go_sem,r0,r1,r2,r3,r4,r5,r6]) rfl ?_
   exact hOut.out
theorem jw (v:JV)(cs:List Value)(key:List UInt8)(w0 w:World)(hw:SubW w0 w)(h:RdV w0 cs v):Calls Tryz.prog 53 #[.agg cs.toArray,strV key] w (OutHF w0 w ((getO key v.obj).getD .null) (getO key v.obj).isSome):=by
 obtain⟨a,c,aa,ac,oa,oc,P⟩:=h.parts
 have e:=P.cells
 subst e
 exact AU v key a c aa ac oa oc w0 w hw P
theorem vW (xk:Int)(xg:Bool)(xa:Option Addr)(xl xc:Nat)(xe:Int)(xs:ByteArray)(xaa:Option Addr)(xan xac:Nat)(xoa:Option Addr)(xon xoc:Nat)(f1 f2:Bool)(k1 k2:Int)(res:Nat)(w:World)
  (CH1:xk≠4→xk≠3→xk=6→xon=2→∀W,Below w.heap.size w W→Calls Tryz.prog 53 #[.agg #[.int .i64 xk,.bool xg,.slice xa xl xc,.int .i64 xe,.string xs,.slice xaa xan xac,.slice xoa xon xoc],.string ⟨#[115,116,97,114,116]⟩] W fun e w'=>∃qk qg qa ql qc qe qs qaa qan qac qoa qon qoc,e=.returned (.tuple #[.agg #[.int .i64 qk,.bool qg,.slice qa ql qc,.int .i64 qe,.string qs,.slice qaa qan qac,.slice qoa qon qoc],.bool f1])∧qk=k1∧Below W.heap.size W w')
  (CH2:xk≠4→xk≠3→xk=6→xon=2→∀W,Below w.heap.size w W→Calls Tryz.prog 53 #[.agg #[.int .i64 xk,.bool xg,.slice xa xl xc,.int .i64 xe,.string xs,.slice xaa xan xac,.slice xoa xon xoc],.string ⟨#[101,110,100]⟩] W fun e w'=>∃qk qg qa ql qc qe qs qaa qan qac qoa qon qoc,e=.returned (.tuple #[.agg #[.int .i64 qk,.bool qg,.slice qa ql qc,.int .i64 qe,.string qs,.slice qaa qan qac,.slice qoa qon qoc],.bool f2])∧qk=k2∧Below W.heap.size W w')
  (h4:xk=4→res=1)(h3:xk=3→res=2)(h0:xk≠4→xk≠3→¬ (xk=6∧xon=2)→res=0)
  (hres:xk≠4→xk≠3→xk=6→xon=2→res=if f1=true∧f2=true∧(k1=0∨k1=3)∧(k2=0∨k2=3) then 3 else 0) :
  Calls Tryz.prog 52 #[.agg #[.int .i64 xk,.bool xg,.slice xa xl xc,.int .i64 xe,.string xs,.slice xaa xan xac,.slice xoa xon xoc]] w fun e w'=>e=.returned (.int .i64 res)∧Below w.heap.size w w':=by
 obtain⟨W,hW⟩:∃W,W=w.alloc (.cells #[.int .i64 xk,.bool xg,.slice xa xl xc,.int .i64 xe,.string xs,.slice xaa xan xac,.slice xoa xon xoc] 28):=⟨_,rfl⟩
 have hb:Below w.heap.size w W:=by rw[hW];exact (Below.refl _ _).alloc (Nat.le_refl _) _
 have hz:W.heap[w.heap.size]? = some (.cells #[.int .i64 xk,.bool xg,.slice xa xl xc,.int .i64 xe,.string xs,.slice xaa xan xac,.slice xoa xon xoc] 28 (0,0)):=by rw[hW];exact ak w _
 have HB:=hid hb
 have HX:=hid hz
 clear hb hz
 replace hW:=hid hW.symm
 obtain⟨Q,hQ⟩:∃Q,Q=fun (e:Ending) w'=>e=.returned (.int .i64 res)∧Below w.heap.size w w':=⟨_,rfl⟩
 have hfin:=hid (show ∀(m:Nat) W',m=res→Below w.heap.size w W'→Q (.returned (.int .i64 m)) W' from fun m W' e h=>by subst e;rw[hQ];exact⟨rfl,h⟩)
 rw[←hQ]
 clear hQ
 obtain⟨⟨p0,p1,p2,p3,p4,p5,p6⟩,_⟩:=ag HX.out
 by_cases k4:xk=4
 ·have hq:=hid (show Q (.returned (.int .i64 1)) W from hfin.out 1 W (h4 k4).symm HB.out)
  subst k4
  clear CH1 CH2 h4 h3 h0 hres hfin
  go_enter Tryz.func52,Tryz.ntmps52
  go_upto_region 1 with fail
  rw[hW.out]
  go_wp2_with fail
  exact hq.out
 by_cases k3:xk=3
 ·have hq:=hid (show Q (.returned (.int .i64 2)) W from hfin.out 2 W (h3 k3).symm HB.out)
  subst k3
  clear CH1 CH2 h4 h3 h0 hres hfin
  go_enter Tryz.func52,Tryz.ntmps52
  go_upto_region 1 with fail
  rw[hW.out]
  go_wp2_with fail
  exact hq.out
 have g4:(xk == 4)=false:=by rw[beq_eq_false_iff_ne];exact k4
 have g3:(xk == 3)=false:=by rw[beq_eq_false_iff_ne];exact k3
 by_cases k6:xk=6
 rotate_left
 ·have hq:=hid (show Q (.returned (.int .i64 0)) W from hfin.out 0 W (h0 k4 k3 (fun h=>k6 h.1)).symm HB.out)
  have g6:(xk != 6)=true:=by rw[bne_iff_ne];exact k6
  clear CH1 CH2 h4 h3 h0 hres hfin k4 k3 k6
  go_enter Tryz.func52,Tryz.ntmps52
  go_upto_region 1 with fail
  rw[hW.out]
  go_wp2_with fail
  exact hq.out
 by_cases k2':xon=2
 rotate_left
 ·have hq:=hid (show Q (.returned (.int .i64 0)) W from hfin.out 0 W (h0 k4 k3 (fun h=>k2' h.2)).symm HB.out)
  have g2:((xon:Int) != 2)=true:=by rw[bne_iff_ne];omega
  subst k6
  clear CH1 CH2 h4 h3 h0 hres hfin k4 k3 g4 g3
  go_enter Tryz.func52,Tryz.ntmps52
  go_upto_region 1 with fail
  rw[hW.out]
  go_wp2_with fail
  exact hq.out
 have D1:=hid (CH1 k4 k3 k6 k2')
 have D2:=hid (CH2 k4 k3 k6 k2')
 have hr:=hid (hres k4 k3 k6 k2')
 subst k6 k2'
 clear CH1 CH2 h4 h3 h0 hres k4 k3 g4 g3
 go_enter Tryz.func52,Tryz.ntmps52
 go_upto_region 1 with fail
 rw[hW.out]
 go_wp2_with fail
 refine (D1.out _ HB.out).mono ?_
 rintro en w1 ⟨qk,qg,qa,ql,qc,qe,qs,qaa,qan,qac,qoa,qon,qoc,rfl,ha,hb⟩
 have hbA:=(Below.refl w1.heap.size w1).alloc (Nat.le_refl _) (.cells #[.int .i64 qk,.bool qg,.slice qa ql qc,.int .i64 qe,.string qs,.slice qaa qan qac,.slice qoa qon qoc] 28)
 have q1:=hid (ae (ae HB.out hb) hbA)
 have x1:=hid (af (af HX.out hb) hbA)
 have a1:=hid (ak w1 (.cells #[.int .i64 qk,.bool qg,.slice qa ql qc,.int .i64 qe,.string qs,.slice qaa qan qac,.slice qoa qon qoc] 28))
 have ha':=hid ha
 clear hb hbA ha D1 HB HX hW p0 p1 p2 p3 p4 p5 p6
 obtain⟨⟨p0,p1,p2,p3,p4,p5,p6⟩,_⟩:=ag x1.out
 go_wp2_with fail
 refine (D2.out _ q1.out).mono ?_
 rintro en w2 ⟨bk,bg,ba,bl,bc,be,bs,baa,ban,bac,boa,bon,boc,rfl,hb',hb⟩
 have q2:=hid (ae q1.out hb)
 have a2:=hid (af a1.out hb)
 have hbA:=(Below.refl w2.heap.size w2).alloc (Nat.le_refl _) (.cells #[.int .i64 bk,.bool bg,.slice ba bl bc,.int .i64 be,.string bs,.slice baa ban bac,.slice boa bon boc] 28)
 have q3:=hid (ae q2.out hbA)
 have a3:=hid (af a2.out hbA)
 have hb2:=hid hb'
 have b3:=hid (ak w2 (.cells #[.int .i64 bk,.bool bg,.slice ba bl bc,.int .i64 be,.string bs,.slice baa ban bac,.slice boa bon boc] 28))
 clear hb hbA hb' D2 q1 x1 a1 q2 p0 p1 p2 p3 p4 p5 p6
 obtain⟨⟨p0,p1,p2,p3,p4,p5,p6⟩,_⟩:=ag a3.out
 go_upto_region 9 with fail
 have fin0:=hid (fun h:res=0=>(hfin.out 0 _ h.symm q3.out:Q (.returned (.int .i64 0)) _))
 have fin3:=hid (fun h:res=3=>(hfin.out 3 _ h.symm q3.out:Q (.returned (.int .i64 3)) _))
 clear hfin
 obtain⟨⟨y0,y1,y2,y3,y4,y5,y6⟩,_⟩:=ag b3.out
 cases f1
 ·have hq:=hid (fin0.out (by rw[hr.out];simp))
  clear fin0 fin3 q3 a3
  go_wp2_with fail
  exact hq.out
 cases f2
 ·have hq:=hid (fin0.out (by rw[hr.out];simp))
  clear fin0 fin3 q3 a3
  go_wp2_with fail
  exact hq.out
 by_cases c1:qk=0∨qk=3
 rotate_left
 ·have hq:=hid (fin0.out (by rw[hr.out,if_neg];rintro ⟨_,_,h,_⟩;rw[←ha'.out] at h;exact c1 h))
  have g0:(qk != 0)=true:=by rw[bne_iff_ne];exact fun h=>c1 (Or.inl h)
  have g3:(qk != 3)=true:=by rw[bne_iff_ne];exact fun h=>c1 (Or.inr h)
  clear fin0 fin3 q3 a3 c1 hr
  go_wp2_with fail
  exact hq.out
 by_cases c2:bk=0∨bk=3
 rotate_left
 ·have hq:=hid (fin0.out (by rw[hr.out,if_neg];rintro ⟨_,_,_,h⟩;rw[←hb2.out] at h;exact c2 h))
  have g0:(bk != 0)=true:=by rw[bne_iff_ne];exact fun h=>c2 (Or.inl h)
  have g3:(bk != 3)=true:=by rw[bne_iff_ne];exact fun h=>c2 (Or.inr h)
  clear fin0 fin3 q3 a3 c2 hr
  rcases c1 with rfl | rfl
  all_goals
   go_wp2_with fail
   exact hq.out
 ·have hq:=hid (fin3.out (by rw[hr.out,if_pos];rw[←ha'.out,←hb2.out];exact⟨rfl,rfl,c1,c2⟩))
  clear fin0 fin3 q3 a3 hr
  rcases c1 with rfl | rfl
  all_goals
   rcases c2 with rfl | rfl
   all_goals
    go_wp2_with fail
    exact hq.out
theorem iG (v:JV):edgeB v=true ↔ v.kind=0∨v.kind=3:=by unfold edgeB;simp
theorem yE (k:JV)(cs:List Value)(w:World)(h:RdV w cs k):Calls Tryz.prog 52 #[.agg cs.toArray] w fun e w'=>e=.returned (.int .i64 (stepN k))∧Below w.heap.size w w':=by
 have CH:=fun (key:List UInt8) W (hb:Below w.heap.size w W)=>jw k cs key W W (fun _ _ h=>h) (h.stay hb)
 have CHk:∀(key:List UInt8) W,Below w.heap.size w W→Calls Tryz.prog 53 #[.agg cs.toArray,strV key] W fun e w'=>∃qk qg qa ql qc qe qs qaa qan qac qoa qon qoc,e=.returned (.tuple #[.agg #[.int .i64 qk,.bool qg,.slice qa ql qc,.int .i64 qe,.string qs,.slice qaa qan qac,.slice qoa qon qoc],.bool (getO key k.obj).isSome])∧qk=((getO key k.obj).getD .null).kind∧Below W.heap.size W w':=by
  intro key W hb
  refine (CH key W hb).mono ?_
  rintro e w' ⟨ca,rfl,hr,hb'⟩
  obtain⟨a,c,aa,ac,oa,oc,P⟩:=hr.parts
  have e:=P.cells
  subst e
  exact⟨_,_,_,_,_,_,_,_,_,_,_,_,_,rfl,rfl,hb'⟩
 obtain⟨a,c,aa,ac,oa,oc,P⟩:=h.parts
 have e:=P.cells
 subst e
 refine vW k.kind k.g a k.ls.length c k.e ⟨k.s.toArray⟩ aa k.arr.length ac oa k.obj.length oc (getO startK k.obj).isSome (getO endK k.obj).isSome ((getO startK k.obj).getD .null).kind ((getO endK k.obj).getD .null).kind (stepN k) w ?_ ?_ ?_ ?_ ?_ ?_
 ·intro _ _ _ _ W hb
  exact CHk startK W hb
 ·intro _ _ _ _ W hb
  exact CHk endK W hb
 ·intro h4
  unfold stepN
  rw[if_pos h4]
 ·intro h3
  unfold stepN
  rw[if_neg (by omega),if_pos h3]
 ·intro h4 h3 h6
  unfold stepN
  rw[if_neg h4,if_neg h3,if_neg]
  rintro ⟨a1,a2,_⟩
  exact h6 ⟨a1,a2⟩
 ·intro h4 h3 h6 h2
  unfold stepN
  rw[if_neg h4,if_neg h3]
  simp only[h6,h2,true_and,iG]
theorem rZ (xk:Int)(xg:Bool)(xa:Option Addr)(xl xc:Nat)(xe:Int)(xs:ByteArray)(xaa:Option Addr)(xan xac:Nat)(xoa:Option Addr)(xon xoc:Nat)(n:Nat)(k1 k2 i1 i2:Int)(e1 e2:Nat)(w:World)(Q:Ending→World→Prop)(hk1:k1=0∨k1=3)(hk2:k2=0∨k2=3)(hi1:-9007199254740992≤i1∧i1≤9007199254740992)(hi2:-9007199254740992≤i2∧i2≤9007199254740992)(hn:n≤1152921504606846976)
  (CH1:∀W,Below w.heap.size w W→Calls Tryz.prog 53 #[.agg #[.int .i64 xk,.bool xg,.slice xa xl xc,.int .i64 xe,.string xs,.slice xaa xan xac,.slice xoa xon xoc],.string ⟨#[115,116,97,114,116]⟩] W fun e w'=>∃qk qg qa ql qc qe qs qaa qan qac qoa qon qoc,∃f,e=.returned (.tuple #[.agg #[.int .i64 qk,.bool qg,.slice qa ql qc,.int .i64 qe,.string qs,.slice qaa qan qac,.slice qoa qon qoc],.bool f])∧qk=k1∧(∀W2,Below w'.heap.size w' W2→Calls Tryz.prog 84 #[.agg #[.bool qg,.slice qa ql qc,.int .i64 qe],.bool false] W2 fun e w3=>e=.returned (.tuple #[.int .i64 i1,.int .i64 e1])∧Below W2.heap.size W2 w3)∧Below W.heap.size W w')
  (CH2:∀W,Below w.heap.size w W→Calls Tryz.prog 53 #[.agg #[.int .i64 xk,.bool xg,.slice xa xl xc,.int .i64 xe,.string xs,.slice xaa xan xac,.slice xoa xon xoc],.string ⟨#[101,110,100]⟩] W fun e w'=>∃qk qg qa ql qc qe qs qaa qan qac qoa qon qoc,∃f,e=.returned (.tuple #[.agg #[.int .i64 qk,.bool qg,.slice qa ql qc,.int .i64 qe,.string qs,.slice qaa qan qac,.slice qoa qon qoc],.bool f])∧qk=k2∧(∀W2,Below w'.heap.size w' W2→Calls Tryz.prog 84 #[.agg #[.bool qg,.slice qa ql qc,.int .i64 qe],.bool true] W2 fun e w3=>e=.returned (.tuple #[.int .i64 i2,.int .i64 e2])∧Below W2.heap.size W2 w3)∧Below W.heap.size W w')
  (hfin:∀(f t e:Nat) W',((k1=3∧e1≠0∧f=0∧t=0∧e=e1)∨(¬ (k1=3∧e1≠0)∧k2=3∧e2≠0∧f=0∧t=0∧e=e2)∨(¬ (k1=3∧e1≠0)∧¬ (k2=3∧e2≠0)∧f=(if k1=3 then withinJ i1 n else 0)∧t=max f (if k2=3 then withinJ i2 n else n)∧e=0))→Below w.heap.size w W'→Q (.returned (.tuple #[.int .i64 f,.int .i64 t,.int .i64 e])) W') :
  Calls Tryz.prog 55 #[.agg #[.int .i64 xk,.bool xg,.slice xa xl xc,.int .i64 xe,.string xs,.slice xaa xan xac,.slice xoa xon xoc],.int .i64 n] w Q:=by
 obtain⟨W,hW⟩:∃W,W=w.alloc (.cells #[.int .i64 xk,.bool xg,.slice xa xl xc,.int .i64 xe,.string xs,.slice xaa xan xac,.slice xoa xon xoc] 28):=⟨_,rfl⟩
 have hb:Below w.heap.size w W:=by rw[hW];exact (Below.refl _ _).alloc (Nat.le_refl _) _
 have hz:W.heap[w.heap.size]? = some (.cells #[.int .i64 xk,.bool xg,.slice xa xl xc,.int .i64 xe,.string xs,.slice xaa xan xac,.slice xoa xon xoc] 28 (0,0)):=by rw[hW];exact ak w _
 have HB:=hid hb
 have HX:=hid hz
 clear hb hz
 replace hW:=hid hW.symm
 have CI1:=hid (fun W=>jZ i1 n W hi1.1 hi1.2 hn)
 have CI2:=hid (fun W=>jZ i2 n W hi2.1 hi2.2 hn)
 have l1:=kR i1 n
 have l2:=kR i2 n
 replace CH1:=hid CH1
 replace CH2:=hid CH2
 replace hfin:=hid hfin
 clear hi1 hi2
 generalize hF:withinJ i1 n=F at *
 generalize hT:withinJ i2 n=T at *
 clear hF hT
 obtain⟨⟨p0,p1,p2,p3,p4,p5,p6⟩,_⟩:=ag HX.out
 go_enter Tryz.func55,Tryz.ntmps55
 go_upto_region 1 with fail
 rw[hW.out]
 go_wp2_with fail
 refine (CH1.out _ HB.out).mono ?_
 rintro en w1 ⟨qk,qg,qa,ql,qc,qe,qs,qaa,qan,qac,qoa,qon,qoc,f1,rfl,ha,hc1,hb⟩
 have hbA:=(Below.refl w1.heap.size w1).alloc (Nat.le_refl _) (.cells #[.int .i64 qk,.bool qg,.slice qa ql qc,.int .i64 qe,.string qs,.slice qaa qan qac,.slice qoa qon qoc] 28)
 have q1:=hid (ae (ae HB.out hb) hbA)
 have x1:=hid (af (af HX.out hb) hbA)
 have a1:=hid (ak w1 (.cells #[.int .i64 qk,.bool qg,.slice qa ql qc,.int .i64 qe,.string qs,.slice qaa qan qac,.slice qoa qon qoc] 28))
 have c1:=hid (fun W2 h=>hc1 W2 (ae hbA h))
 clear hb hbA CH1 HB HX hW p0 p1 p2 p3 p4 p5 p6 hc1
 obtain⟨⟨p0,p1,p2,p3,p4,p5,p6⟩,_⟩:=ag x1.out
 subst ha
 go_wp2_with fail
 refine (CH2.out _ q1.out).mono ?_
 rintro en w2 ⟨bk,bg,ba,bl,bc,be,bs,baa,ban,bac,boa,bon,boc,f2,rfl,hb',hc2,hb⟩
 have hbA:=(Below.refl w2.heap.size w2).alloc (Nat.le_refl _) (.cells #[.int .i64 bk,.bool bg,.slice ba bl bc,.int .i64 be,.string bs,.slice baa ban bac,.slice boa bon boc] 28)
 have q2:=hid (ae (ae q1.out hb) hbA)
 have a2:=hid (af (af a1.out hb) hbA)
 have b2:=hid (ak w2 (.cells #[.int .i64 bk,.bool bg,.slice ba bl bc,.int .i64 be,.string bs,.slice baa ban bac,.slice boa bon boc] 28))
 have c1':=hid (fun W2 h=>c1.out W2 (ae (ae hb hbA) h))
 have c2:=hid (fun W2 h=>hc2 W2 (ae hbA h))
 clear hb hbA CH2 q1 x1 a1 c1 hc2 p0 p1 p2 p3 p4 p5 p6
 subst hb'
 obtain⟨⟨p0,p1,p2,p3,p4,p5,p6⟩,_⟩:=ag a2.out
 obtain⟨⟨y0,y1,y2,y3,y4,y5,y6⟩,_⟩:=ag b2.out
 have hy:=au p0
 have hy2:=au y0
 rcases hk1 with rfl | rfl
 ·rcases hk2 with rfl | rfl
  ·have hq:=hid (hfin.out 0 n 0 _ (Or.inr (Or.inr ⟨by simp,by simp,by simp,by simp,rfl⟩)) q2.out)
   clear hfin
   go_wp2_with fail
   go_ret3;exact hq.out
  ·clear c1'
   go_wp2_with fail
   refine (c2.out _ (Below.refl _ _)).mono ?_
   rintro en w3 ⟨rfl,hb⟩
   have q3:=hid (ae q2.out hb)
   clear hb c2 q2
   by_cases he:e2=0
   ·have hq:=hid (fun W'=>hfin.out 0 T 0 W' (Or.inr (Or.inr ⟨by simp,by simp[he],by simp,by simp,rfl⟩)))
    subst he
    clear hfin
    go_wp2_with fail
    refine (CI2.out _).mono ?_
    rintro en w4 ⟨rfl,hw⟩
    rw[hw]
    clear hw w4
    have hq2:=hid (hq.out _ q3.out)
    clear hq
    go_wp2_with fail
    go_ret3;exact hq2.out
   ·have hq:=hid (hfin.out 0 0 e2 _ (Or.inr (Or.inl ⟨by simp,by simp,he,rfl,rfl,rfl⟩)) q3.out)
    have g:((e2:Int) != 0)=true:=by rw[bne_iff_ne];omega
    clear hfin he
    go_wp2_with fail
    go_ret3;exact hq.out
 ·go_wp2_with fail
  refine (c1'.out _ (Below.refl _ _)).mono ?_
  rintro en w3 ⟨rfl,hb⟩
  have q3:=hid (ae q2.out hb)
  have b3:=hid (af b2.out hb)
  have c2':=hid (fun W2 h=>c2.out W2 (ae hb h))
  clear hb c1' q2 c2 a2 b2 p0 p1 p2 p3 p4 p5 p6 y0 y1 y2 y3 y4 y5 y6
  by_cases he1:e1=0
  rotate_left
  ·have hq:=hid (hfin.out 0 0 e1 _ (Or.inl ⟨by simp,he1,rfl,rfl,rfl⟩) q3.out)
   have g:((e1:Int) != 0)=true:=by rw[bne_iff_ne];omega
   clear hfin he1
   go_wp2_with fail
   go_ret3;exact hq.out
  subst he1
  obtain⟨⟨y0,y1,y2,y3,y4,y5,y6⟩,_⟩:=ag b3.out
  go_wp2_with fail
  refine (CI1.out _).mono ?_
  rintro en w4 ⟨rfl,hw⟩
  rw[hw]
  clear hw w4
  rcases hk2 with rfl | rfl
  ·have hq:=hid (hfin.out F n 0 _ (Or.inr (Or.inr ⟨by simp,by simp,by simp,by simp;omega,rfl⟩)) q3.out)
   have hlt:¬ (n:Int)<(F:Int):=by omega
   clear hfin
   go_wp2_with fail
   go_ret3;exact hq.out
  ·go_wp2_with fail
   refine (c2'.out _ (Below.refl _ _)).mono ?_
   rintro en w5 ⟨rfl,hb⟩
   have q5:=hid (ae q3.out hb)
   clear hb c2' q3 b3 y0 y1 y2 y3 y4 y5 y6
   by_cases he:e2=0
   ·have hq:=hid (fun t W' (ht:t=max F T)=>hfin.out F t 0 W' (Or.inr (Or.inr ⟨by simp,by simp[he],by simp,by simp[ht],rfl⟩)))
    subst he
    clear hfin
    go_wp2_with fail
    refine (CI2.out _).mono ?_
    rintro en w6 ⟨rfl,hw⟩
    rw[hw]
    clear hw w6
    by_cases hlt:T<F
    ·have hlt2:(T:Int)<(F:Int):=by omega
     have hq2:=hid (hq.out F _ (by omega) q5.out)
     clear hq hlt
     go_wp2_with fail
     go_ret3;exact hq2.out
    ·have hlt2:¬ (T:Int)<(F:Int):=by omega
     have hq2:=hid (hq.out T _ (by omega) q5.out)
     clear hq hlt
     go_wp2_with fail
     go_ret3;exact hq2.out
   ·have hq:=hid (hfin.out 0 0 e2 _ (Or.inr (Or.inl ⟨by simp,by simp,he,rfl,rfl,rfl⟩)) q5.out)
    have g:((e2:Int) != 0)=true:=by rw[bne_iff_ne];omega
    clear hfin he
    go_wp2_with fail
    go_ret3;exact hq.out
def slice12 (a b:JV) (n:Nat):Nat × Nat × Nat:=if (boundsJ a b n).2.2≠0 then (0,0,(boundsJ a b n).2.2) else boundsJ a b n
theorem vU (k:JV)(cs:List Value)(n:Nat)(w:World)(h:RdV w cs k)(hk:stepN k=3)(hn:n≤1152921504606846976) :
  Calls Tryz.prog 55 #[.agg cs.toArray,.int .i64 n] w fun e w'=>e=.returned (.tuple #[.int .i64 ((slice12 ((getO startK k.obj).getD .null) ((getO endK k.obj).getD .null) n).1:Nat),.int .i64 ((slice12 ((getO startK k.obj).getD .null) ((getO endK k.obj).getD .null) n).2.1:Nat),.int .i64 ((slice12 ((getO startK k.obj).getD .null) ((getO endK k.obj).getD .null) n).2.2:Nat)])∧Below w.heap.size w w':=by
 have hed:edgeB ((getO startK k.obj).getD .null)=true∧edgeB ((getO endK k.obj).getD .null)=true:=by
  unfold stepN at hk
  split at hk
  ·omega
  ·split at hk
   ·omega
   ·split at hk
    ·rename_i h
     exact⟨h.2.2.2.2.1,h.2.2.2.2.2⟩
    ·omega
 have CHk:∀(key:List UInt8) (up:Bool) W,Below w.heap.size w W→Calls Tryz.prog 53 #[.agg cs.toArray,strV key] W fun e w'=>∃qk qg qa ql qc qe qs qaa qan qac qoa qon qoc,∃f,e=.returned (.tuple #[.agg #[.int .i64 qk,.bool qg,.slice qa ql qc,.int .i64 qe,.string qs,.slice qaa qan qac,.slice qoa qon qoc],.bool f])∧qk=((getO key k.obj).getD .null).kind∧(∀W2,Below w'.heap.size w' W2→Calls Tryz.prog 84 #[.agg #[.bool qg,.slice qa ql qc,.int .i64 qe],.bool up] W2 fun e w3=>e=.returned (.tuple #[.int .i64 (wholeJ ((getO key k.obj).getD .null) (if up=true then 2 else 1)).1,.int .i64 ((wholeJ ((getO key k.obj).getD .null) (if up=true then 2 else 1)).2:Nat)])∧Below W2.heap.size W2 w3)∧Below W.heap.size W w':=by
  intro key up W hb
  refine (jw k cs key W W (fun _ _ h=>h) (h.stay hb)).mono ?_
  rintro e w' ⟨ca,rfl,hr,hb'⟩
  obtain⟨a,c,aa,ac,oa,oc,P⟩:=hr.parts
  have e:=P.cells
  subst e
  exact⟨_,_,_,_,_,_,_,_,_,_,_,_,_,_,rfl,rfl,fun W2 hb2=>lM _ a c up W2 ((P.u.below hb').below hb2),hb'⟩
 have H1:=fun W hb=>CHk startK false W hb
 have H2:=fun W hb=>CHk endK true W hb
 clear CHk
 generalize (getO startK k.obj).getD .null=va at *
 generalize (getO endK k.obj).getD .null=vb at *
 simp only[Bool.false_eq_true,if_false] at H1
 simp only[if_true] at H2
 obtain⟨xk,xg,xa,xl,xc,xe,xs,xaa,xan,xac,xoa,xon,xoc,rfl⟩:=h.sevenB
 refine rZ xk xg xa xl xc xe xs xaa xan xac xoa xon xoc n va.kind vb.kind (wholeJ va 1).1 (wholeJ vb 2).1 (wholeJ va 1).2 (wholeJ vb 2).2 w _ ((iG _).1 hed.1) ((iG _).1 hed.2) ⟨(bJ va 1).1,(bJ va 1).2.1⟩ ⟨(bJ vb 2).1,(bJ vb 2).2.1⟩ hn H1 H2 ?_
 intro f t e W' h hb
 have key:slice12 va vb n=(f,t,e):=by
  clear H1 H2 hb
  rcases (iG _).1 hed.1 with z1 | z1<;>rcases (iG _).1 hed.2 with z2 | z2<;>by_cases w1:(wholeJ va 1).2=0<;>by_cases w2:(wholeJ vb 2).2=0<;>simp[z1,z2,w1,w2] at h<;>simp[slice12,boundsJ,boundJ,z1,z2,w1,w2,h]
 rw[key]
 exact⟨rfl,hb⟩
theorem yx (xk:Int)(xg:Bool)(xa:Option Addr)(xl xc:Nat)(xe:Int)(xs:ByteArray)(xaa:Option Addr)(xan xac:Nat)(xoa:Option Addr)(xon xoc:Nat)(yk:Int)(yg:Bool)(ya:Option Addr)(yl yc:Nat)(ye:Int)(ys:ByteArray)(yaa:Option Addr)(yan yac:Nat)(yoa:Option Addr)(yon yoc:Nat)(w:World)(Q:Ending→World→Prop)  (CR:∀W,Below w.heap.size w W→Calls Tryz.prog 52 #[.agg #[.int .i64 yk,.bool yg,.slice ya yl yc,.int .i64 ye,.string ys,.slice yaa yan yac,.slice yoa yon yoc]] W fun e w'=>e=.returned (.int .i64 0)∧Below W.heap.size W w')
  (hn:∀W,Below w.heap.size w W→Q (.returned (.tuple #[.agg #[.int .i64 0,.bool false,.slice none 0 0,.int .i64 0,.string ⟨#[]⟩,.slice none 0 0,.slice none 0 0],.int .i64 9])) (W.setCells (w.heap.size+1+1) 0 [.int .i64 0,.bool false,.slice none 0 0,.int .i64 0,.string ⟨#[]⟩,.slice none 0 0,.slice none 0 0])) :
  Calls Tryz.prog 29 #[.agg #[.int .i64 xk,.bool xg,.slice xa xl xc,.int .i64 xe,.string xs,.slice xaa xan xac,.slice xoa xon xoc],.agg #[.int .i64 yk,.bool yg,.slice ya yl yc,.int .i64 ye,.string ys,.slice yaa yan yac,.slice yoa yon yoc]] w Q:=by
 replace hn:=hid hn
 obtain⟨W,hW⟩:∃W,W=((w.alloc (.cells #[.int .i64 xk,.bool xg,.slice xa xl xc,.int .i64 xe,.string xs,.slice xaa xan xac,.slice xoa xon xoc] 28)).alloc (.cells #[.int .i64 yk,.bool yg,.slice ya yl yc,.int .i64 ye,.string ys,.slice yaa yan yac,.slice yoa yon yoc] 28)).alloc (.cells #[.int .i64 0,.bool false,.slice none 0 0,.int .i64 0,.string ⟨#[]⟩,.slice none 0 0,.slice none 0 0] 28):=⟨_,rfl⟩
 obtain⟨b0,b1,b2,b3⟩:=bf w #[.int .i64 xk,.bool xg,.slice xa xl xc,.int .i64 xe,.string xs,.slice xaa xan xac,.slice xoa xon xoc] #[.int .i64 yk,.bool yg,.slice ya yl yc,.int .i64 ye,.string ys,.slice yaa yan yac,.slice yoa yon yoc] #[.int .i64 0,.bool false,.slice none 0 0,.int .i64 0,.string ⟨#[]⟩,.slice none 0 0,.slice none 0 0] 28 28 28
 rw[←hW] at b0 b1 b2 b3
 have HB:=hid b0
 have HX:=hid b1
 have HY:=hid b2
 have HZ:=hid b3
 replace hW:=hid hW.symm
 clear b0 b1 b2 b3
 replace CR:=hid CR
 obtain⟨⟨y0,y1,y2,y3,y4,y5,y6⟩,_⟩:=ag HY.out
 go_enter Tryz.func29,Tryz.ntmps29
 go_upto_region 1 with fail
 rw[hW.out]
 go_wp2_with fail
 refine (CR.out _ HB.out).mono ?_
 rintro en w1 ⟨rfl,hb⟩
 have q1:=hid (ae HB.out hb)
 have z1:=hid (af HZ.out hb)
 have x1:=hid (af HX.out hb)
 have k1:=hid (af HY.out hb)
 clear hb HB HX HY HZ hW y0 y1 y2 y3 y4 y5 y6 CR
 obtain⟨⟨p0,p1,p2,p3,p4,p5,p6⟩,_⟩:=ag x1.out
 obtain⟨⟨r0,r1,r2,r3,r4,r5,r6⟩,s0,s1,s2,s3,s4,s5,s6⟩:=ag z1.out
 have hq:=hid (hn.out _ q1.out)
 clear hn
 go_wp2_with fail
 refine bodyPost_ret (v:=.tuple #[.agg #[.int .i64 0,.bool false,.slice none 0 0,.int .i64 0,.string ⟨#[]⟩,.slice none 0 0,.slice none 0 0],.int .i64 9]) (by simp[results,Tryz.results29,go_sem,r0,r1,r2,r3,r4,r5,r6]) rfl ?_
 exact hq.out
theorem yz (xk:Int)(xg:Bool)(xa:Option Addr)(xl xc:Nat)(xe:Int)(xs:ByteArray)(xaa:Option Addr)(xan xac:Nat)(xoa:Option Addr)(xon xoc:Nat)(yk:Int)(yg:Bool)(ya:Option Addr)(yl yc:Nat)(ye:Int)(ys:ByteArray)(yaa:Option Addr)(yan yac:Nat)(yoa:Option Addr)(yon yoc:Nat)(w:World)(Q:Ending→World→Prop)(h6:xk≠6)(h0:xk≠0)(CR:∀W,Below w.heap.size w W→Calls Tryz.prog 52 #[.agg #[.int .i64 yk,.bool yg,.slice ya yl yc,.int .i64 ye,.string ys,.slice yaa yan yac,.slice yoa yon yoc]] W fun e w'=>e=.returned (.int .i64 1)∧Below W.heap.size W w')
  (hn:∀W,Below w.heap.size w W→Q (.returned (.tuple #[.agg #[.int .i64 0,.bool false,.slice none 0 0,.int .i64 0,.string ⟨#[]⟩,.slice none 0 0,.slice none 0 0],.int .i64 9])) (W.setCells (w.heap.size+1+1) 0 [.int .i64 0,.bool false,.slice none 0 0,.int .i64 0,.string ⟨#[]⟩,.slice none 0 0,.slice none 0 0])) :
  Calls Tryz.prog 29 #[.agg #[.int .i64 xk,.bool xg,.slice xa xl xc,.int .i64 xe,.string xs,.slice xaa xan xac,.slice xoa xon xoc],.agg #[.int .i64 yk,.bool yg,.slice ya yl yc,.int .i64 ye,.string ys,.slice yaa yan yac,.slice yoa yon yoc]] w Q:=by
 have f6:(xk == 6)=false:=by rw[beq_eq_false_iff_ne];exact h6
 have f0:(xk == 0)=false:=by rw[beq_eq_false_iff_ne];exact h0
 clear h6 h0
 replace hn:=hid hn
 obtain⟨W,hW⟩:∃W,W=((w.alloc (.cells #[.int .i64 xk,.bool xg,.slice xa xl xc,.int .i64 xe,.string xs,.slice xaa xan xac,.slice xoa xon xoc] 28)).alloc (.cells #[.int .i64 yk,.bool yg,.slice ya yl yc,.int .i64 ye,.string ys,.slice yaa yan yac,.slice yoa yon yoc] 28)).alloc (.cells #[.int .i64 0,.bool false,.slice none 0 0,.int .i64 0,.string ⟨#[]⟩,.slice none 0 0,.slice none 0 0] 28):=⟨_,rfl⟩
 obtain⟨b0,b1,b2,b3⟩:=bf w #[.int .i64 xk,.bool xg,.slice xa xl xc,.int .i64 xe,.string xs,.slice xaa xan xac,.slice xoa xon xoc] #[.int .i64 yk,.bool yg,.slice ya yl yc,.int .i64 ye,.string ys,.slice yaa yan yac,.slice yoa yon yoc] #[.int .i64 0,.bool false,.slice none 0 0,.int .i64 0,.string ⟨#[]⟩,.slice none 0 0,.slice none 0 0] 28 28 28
 rw[←hW] at b0 b1 b2 b3
 have HB:=hid b0
 have HX:=hid b1
 have HY:=hid b2
 have HZ:=hid b3
 replace hW:=hid hW.symm
 clear b0 b1 b2 b3
 replace CR:=hid CR
 obtain⟨⟨y0,y1,y2,y3,y4,y5,y6⟩,_⟩:=ag HY.out
 go_enter Tryz.func29,Tryz.ntmps29
 go_upto_region 1 with fail
 rw[hW.out]
 go_wp2_with fail
 refine (CR.out _ HB.out).mono ?_
 rintro en w1 ⟨rfl,hb⟩
 have q1:=hid (ae HB.out hb)
 have z1:=hid (af HZ.out hb)
 have x1:=hid (af HX.out hb)
 have k1:=hid (af HY.out hb)
 clear hb HB HX HY HZ hW y0 y1 y2 y3 y4 y5 y6 CR
 obtain⟨⟨p0,p1,p2,p3,p4,p5,p6⟩,_⟩:=ag x1.out
 obtain⟨⟨r0,r1,r2,r3,r4,r5,r6⟩,s0,s1,s2,s3,s4,s5,s6⟩:=ag z1.out
 have hq:=hid (hn.out _ q1.out)
 clear hn
 go_wp2_with fail
 refine bodyPost_ret (v:=.tuple #[.agg #[.int .i64 0,.bool false,.slice none 0 0,.int .i64 0,.string ⟨#[]⟩,.slice none 0 0,.slice none 0 0],.int .i64 9]) (by simp[results,Tryz.results29,go_sem,r0,r1,r2,r3,r4,r5,r6]) rfl ?_
 exact hq.out
theorem yA (xk:Int)(xg:Bool)(xa:Option Addr)(xl xc:Nat)(xe:Int)(xs:ByteArray)(xaa:Option Addr)(xan xac:Nat)(xoa:Option Addr)(xon xoc:Nat)(yk:Int)(yg:Bool)(ya:Option Addr)(yl yc:Nat)(ye:Int)(ys:ByteArray)(yaa:Option Addr)(yan yac:Nat)(yoa:Option Addr)(yon yoc:Nat)(w:World)(Q:Ending→World→Prop)(h0:xk≠0)(h5:xk≠5)(CR:∀W,Below w.heap.size w W→Calls Tryz.prog 52 #[.agg #[.int .i64 yk,.bool yg,.slice ya yl yc,.int .i64 ye,.string ys,.slice yaa yan yac,.slice yoa yon yoc]] W fun e w'=>e=.returned (.int .i64 2)∧Below W.heap.size W w')
  (hn:∀W,Below w.heap.size w W→Q (.returned (.tuple #[.agg #[.int .i64 0,.bool false,.slice none 0 0,.int .i64 0,.string ⟨#[]⟩,.slice none 0 0,.slice none 0 0],.int .i64 9])) (W.setCells (w.heap.size+1+1) 0 [.int .i64 0,.bool false,.slice none 0 0,.int .i64 0,.string ⟨#[]⟩,.slice none 0 0,.slice none 0 0])) :
  Calls Tryz.prog 29 #[.agg #[.int .i64 xk,.bool xg,.slice xa xl xc,.int .i64 xe,.string xs,.slice xaa xan xac,.slice xoa xon xoc],.agg #[.int .i64 yk,.bool yg,.slice ya yl yc,.int .i64 ye,.string ys,.slice yaa yan yac,.slice yoa yon yoc]] w Q:=by
 have f0:(xk == 0)=false:=by rw[beq_eq_false_iff_ne];exact h0
 have f5:(xk == 5)=false:=by rw[beq_eq_false_iff_ne];exact h5
 clear h0 h5
 replace hn:=hid hn
 obtain⟨W,hW⟩:∃W,W=((w.alloc (.cells #[.int .i64 xk,.bool xg,.slice xa xl xc,.int .i64 xe,.string xs,.slice xaa xan xac,.slice xoa xon xoc] 28)).alloc (.cells #[.int .i64 yk,.bool yg,.slice ya yl yc,.int .i64 ye,.string ys,.slice yaa yan yac,.slice yoa yon yoc] 28)).alloc (.cells #[.int .i64 0,.bool false,.slice none 0 0,.int .i64 0,.string ⟨#[]⟩,.slice none 0 0,.slice none 0 0] 28):=⟨_,rfl⟩
 obtain⟨b0,b1,b2,b3⟩:=bf w #[.int .i64 xk,.bool xg,.slice xa xl xc,.int .i64 xe,.string xs,.slice xaa xan xac,.slice xoa xon xoc] #[.int .i64 yk,.bool yg,.slice ya yl yc,.int .i64 ye,.string ys,.slice yaa yan yac,.slice yoa yon yoc] #[.int .i64 0,.bool false,.slice none 0 0,.int .i64 0,.string ⟨#[]⟩,.slice none 0 0,.slice none 0 0] 28 28 28
 rw[←hW] at b0 b1 b2 b3
 have HB:=hid b0
 have HX:=hid b1
 have HY:=hid b2
 have HZ:=hid b3
 replace hW:=hid hW.symm
 clear b0 b1 b2 b3
 replace CR:=hid CR
 obtain⟨⟨y0,y1,y2,y3,y4,y5,y6⟩,_⟩:=ag HY.out
 go_enter Tryz.func29,Tryz.ntmps29
 go_upto_region 1 with fail
 rw[hW.out]
 go_wp2_with fail
 refine (CR.out _ HB.out).mono ?_
 rintro en w1 ⟨rfl,hb⟩
 have q1:=hid (ae HB.out hb)
 have z1:=hid (af HZ.out hb)
 have x1:=hid (af HX.out hb)
 have k1:=hid (af HY.out hb)
 clear hb HB HX HY HZ hW y0 y1 y2 y3 y4 y5 y6 CR
 obtain⟨⟨p0,p1,p2,p3,p4,p5,p6⟩,_⟩:=ag x1.out
 obtain⟨⟨r0,r1,r2,r3,r4,r5,r6⟩,s0,s1,s2,s3,s4,s5,s6⟩:=ag z1.out
 have hq:=hid (hn.out _ q1.out)
 clear hn
 go_wp2_with fail
 refine bodyPost_ret (v:=.tuple #[.agg #[.int .i64 0,.bool false,.slice none 0 0,.int .i64 0,.string ⟨#[]⟩,.slice none 0 0,.slice none 0 0],.int .i64 9]) (by simp[results,Tryz.results29,go_sem,r0,r1,r2,r3,r4,r5,r6]) rfl ?_
 exact hq.out
theorem yB (xk:Int)(xg:Bool)(xa:Option Addr)(xl xc:Nat)(xe:Int)(xs:ByteArray)(xaa:Option Addr)(xan xac:Nat)(xoa:Option Addr)(xon xoc:Nat)(yk:Int)(yg:Bool)(ya:Option Addr)(yl yc:Nat)(ye:Int)(ys:ByteArray)(yaa:Option Addr)(yan yac:Nat)(yoa:Option Addr)(yon yoc:Nat)(w:World)(Q:Ending→World→Prop)(h0:xk≠0)(h5:xk≠5)(h4:xk≠4)(CR:∀W,Below w.heap.size w W→Calls Tryz.prog 52 #[.agg #[.int .i64 yk,.bool yg,.slice ya yl yc,.int .i64 ye,.string ys,.slice yaa yan yac,.slice yoa yon yoc]] W fun e w'=>e=.returned (.int .i64 3)∧Below W.heap.size W w')
  (hn:∀W,Below w.heap.size w W→Q (.returned (.tuple #[.agg #[.int .i64 0,.bool false,.slice none 0 0,.int .i64 0,.string ⟨#[]⟩,.slice none 0 0,.slice none 0 0],.int .i64 9])) (W.setCells (w.heap.size+1+1) 0 [.int .i64 0,.bool false,.slice none 0 0,.int .i64 0,.string ⟨#[]⟩,.slice none 0 0,.slice none 0 0])) :
  Calls Tryz.prog 29 #[.agg #[.int .i64 xk,.bool xg,.slice xa xl xc,.int .i64 xe,.string xs,.slice xaa xan xac,.slice xoa xon xoc],.agg #[.int .i64 yk,.bool yg,.slice ya yl yc,.int .i64 ye,.string ys,.slice yaa yan yac,.slice yoa yon yoc]] w Q:=by
 have f0:(xk == 0)=false:=by rw[beq_eq_false_iff_ne];exact h0
 have f5:(xk == 5)=false:=by rw[beq_eq_false_iff_ne];exact h5
 have f4:(xk == 4)=false:=by rw[beq_eq_false_iff_ne];exact h4
 clear h0 h5 h4
 replace hn:=hid hn
 obtain⟨W,hW⟩:∃W,W=((w.alloc (.cells #[.int .i64 xk,.bool xg,.slice xa xl xc,.int .i64 xe,.string xs,.slice xaa xan xac,.slice xoa xon xoc] 28)).alloc (.cells #[.int .i64 yk,.bool yg,.slice ya yl yc,.int .i64 ye,.string ys,.slice yaa yan yac,.slice yoa yon yoc] 28)).alloc (.cells #[.int .i64 0,.bool false,.slice none 0 0,.int .i64 0,.string ⟨#[]⟩,.slice none 0 0,.slice none 0 0] 28):=⟨_,rfl⟩
 obtain⟨b0,b1,b2,b3⟩:=bf w #[.int .i64 xk,.bool xg,.slice xa xl xc,.int .i64 xe,.string xs,.slice xaa xan xac,.slice xoa xon xoc] #[.int .i64 yk,.bool yg,.slice ya yl yc,.int .i64 ye,.string ys,.slice yaa yan yac,.slice yoa yon yoc] #[.int .i64 0,.bool false,.slice none 0 0,.int .i64 0,.string ⟨#[]⟩,.slice none 0 0,.slice none 0 0] 28 28 28
 rw[←hW] at b0 b1 b2 b3
 have HB:=hid b0
 have HX:=hid b1
 have HY:=hid b2
 have HZ:=hid b3
 replace hW:=hid hW.symm
 clear b0 b1 b2 b3
 replace CR:=hid CR
 obtain⟨⟨y0,y1,y2,y3,y4,y5,y6⟩,_⟩:=ag HY.out
 go_enter Tryz.func29,Tryz.ntmps29
 go_upto_region 1 with fail
 rw[hW.out]
 go_wp2_with fail
 refine (CR.out _ HB.out).mono ?_
 rintro en w1 ⟨rfl,hb⟩
 have q1:=hid (ae HB.out hb)
 have z1:=hid (af HZ.out hb)
 have x1:=hid (af HX.out hb)
 have k1:=hid (af HY.out hb)
 clear hb HB HX HY HZ hW y0 y1 y2 y3 y4 y5 y6 CR
 obtain⟨⟨p0,p1,p2,p3,p4,p5,p6⟩,_⟩:=ag x1.out
 obtain⟨⟨r0,r1,r2,r3,r4,r5,r6⟩,s0,s1,s2,s3,s4,s5,s6⟩:=ag z1.out
 have hq:=hid (hn.out _ q1.out)
 clear hn
 go_wp2_with fail
 refine bodyPost_ret (v:=.tuple #[.agg #[.int .i64 0,.bool false,.slice none 0 0,.int .i64 0,.string ⟨#[]⟩,.slice none 0 0,.slice none 0 0],.int .i64 9]) (by simp[results,Tryz.results29,go_sem,r0,r1,r2,r3,r4,r5,r6]) rfl ?_
 exact hq.out
theorem rW (xk:Int)(xg:Bool)(xa:Option Addr)(xl xc:Nat)(xe:Int)(xs:ByteArray)(xaa:Option Addr)(xan xac:Nat)(xoa:Option Addr)(xon xoc:Nat)(yk:Int)(yg:Bool)(ya:Option Addr)(yl yc:Nat)(ye:Int)(ys:ByteArray)(yaa:Option Addr)(yan yac:Nat)(yoa:Option Addr)(yon yoc:Nat)(w:World)(Q:Ending→World→Prop)(h0:xk=0)(CR:∀W,Below w.heap.size w W→Calls Tryz.prog 52 #[.agg #[.int .i64 yk,.bool yg,.slice ya yl yc,.int .i64 ye,.string ys,.slice yaa yan yac,.slice yoa yon yoc]] W fun e w'=>e=.returned (.int .i64 2)∧Below W.heap.size W w')
  (hn:∀W,Below w.heap.size w W→Q (.returned (.tuple #[.agg #[.int .i64 xk,.bool xg,.slice xa xl xc,.int .i64 xe,.string xs,.slice xaa xan xac,.slice xoa xon xoc],.int .i64 0])) (W.setCells (w.heap.size+1+1) 0 [.int .i64 xk,.bool xg,.slice xa xl xc,.int .i64 xe,.string xs,.slice xaa xan xac,.slice xoa xon xoc])) :
  Calls Tryz.prog 29 #[.agg #[.int .i64 xk,.bool xg,.slice xa xl xc,.int .i64 xe,.string xs,.slice xaa xan xac,.slice xoa xon xoc],.agg #[.int .i64 yk,.bool yg,.slice ya yl yc,.int .i64 ye,.string ys,.slice yaa yan yac,.slice yoa yon yoc]] w Q:=by
 subst h0
 replace hn:=hid hn
 obtain⟨W,hW⟩:∃W,W=((w.alloc (.cells #[.int .i64 0,.bool xg,.slice xa xl xc,.int .i64 xe,.string xs,.slice xaa xan xac,.slice xoa xon xoc] 28)).alloc (.cells #[.int .i64 yk,.bool yg,.slice ya yl yc,.int .i64 ye,.string ys,.slice yaa yan yac,.slice yoa yon yoc] 28)).alloc (.cells #[.int .i64 0,.bool false,.slice none 0 0,.int .i64 0,.string ⟨#[]⟩,.slice none 0 0,.slice none 0 0] 28):=⟨_,rfl⟩
 obtain⟨b0,b1,b2,b3⟩:=bf w #[.int .i64 0,.bool xg,.slice xa xl xc,.int .i64 xe,.string xs,.slice xaa xan xac,.slice xoa xon xoc] #[.int .i64 yk,.bool yg,.slice ya yl yc,.int .i64 ye,.string ys,.slice yaa yan yac,.slice yoa yon yoc] #[.int .i64 0,.bool false,.slice none 0 0,.int .i64 0,.string ⟨#[]⟩,.slice none 0 0,.slice none 0 0] 28 28 28
 rw[←hW] at b0 b1 b2 b3
 have HB:=hid b0
 have HX:=hid b1
 have HY:=hid b2
 have HZ:=hid b3
 replace hW:=hid hW.symm
 clear b0 b1 b2 b3
 replace CR:=hid CR
 obtain⟨⟨y0,y1,y2,y3,y4,y5,y6⟩,_⟩:=ag HY.out
 go_enter Tryz.func29,Tryz.ntmps29
 go_upto_region 1 with fail
 rw[hW.out]
 go_wp2_with fail
 refine (CR.out _ HB.out).mono ?_
 rintro en w1 ⟨rfl,hb⟩
 have q1:=hid (ae HB.out hb)
 have z1:=hid (af HZ.out hb)
 have x1:=hid (af HX.out hb)
 have k1:=hid (af HY.out hb)
 clear hb HB HX HY HZ hW y0 y1 y2 y3 y4 y5 y6 CR
 obtain⟨⟨p0,p1,p2,p3,p4,p5,p6⟩,_⟩:=ag x1.out
 obtain⟨⟨r0,r1,r2,r3,r4,r5,r6⟩,s0,s1,s2,s3,s4,s5,s6⟩:=ag z1.out
 have hq:=hid (hn.out _ q1.out)
 clear hn
 go_wp2_with fail
 refine bodyPost_ret (v:=.tuple #[.agg #[.int .i64 0,.bool xg,.slice xa xl xc,.int .i64 xe,.string xs,.slice xaa xan xac,.slice xoa xon xoc],.int .i64 0]) (by simp[results,Tryz.results29,go_sem,r0,r1,r2,r3,r4,r5,r6]) rfl ?_
 exact hq.out
theorem rX (xk:Int)(xg:Bool)(xa:Option Addr)(xl xc:Nat)(xe:Int)(xs:ByteArray)(xaa:Option Addr)(xan xac:Nat)(xoa:Option Addr)(xon xoc:Nat)(yk:Int)(yg:Bool)(ya:Option Addr)(yl yc:Nat)(ye:Int)(ys:ByteArray)(yaa:Option Addr)(yan yac:Nat)(yoa:Option Addr)(yon yoc:Nat)(w:World)(Q:Ending→World→Prop)(h0:xk=0)(CR:∀W,Below w.heap.size w W→Calls Tryz.prog 52 #[.agg #[.int .i64 yk,.bool yg,.slice ya yl yc,.int .i64 ye,.string ys,.slice yaa yan yac,.slice yoa yon yoc]] W fun e w'=>e=.returned (.int .i64 3)∧Below W.heap.size W w')
  (hn:∀W,Below w.heap.size w W→Q (.returned (.tuple #[.agg #[.int .i64 xk,.bool xg,.slice xa xl xc,.int .i64 xe,.string xs,.slice xaa xan xac,.slice xoa xon xoc],.int .i64 0])) (W.setCells (w.heap.size+1+1) 0 [.int .i64 xk,.bool xg,.slice xa xl xc,.int .i64 xe,.string xs,.slice xaa xan xac,.slice xoa xon xoc])) :
  Calls Tryz.prog 29 #[.agg #[.int .i64 xk,.bool xg,.slice xa xl xc,.int .i64 xe,.string xs,.slice xaa xan xac,.slice xoa xon xoc],.agg #[.int .i64 yk,.bool yg,.slice ya yl yc,.int .i64 ye,.string ys,.slice yaa yan yac,.slice yoa yon yoc]] w Q:=by
 subst h0
 replace hn:=hid hn
 obtain⟨W,hW⟩:∃W,W=((w.alloc (.cells #[.int .i64 0,.bool xg,.slice xa xl xc,.int .i64 xe,.string xs,.slice xaa xan xac,.slice xoa xon xoc] 28)).alloc (.cells #[.int .i64 yk,.bool yg,.slice ya yl yc,.int .i64 ye,.string ys,.slice yaa yan yac,.slice yoa yon yoc] 28)).alloc (.cells #[.int .i64 0,.bool false,.slice none 0 0,.int .i64 0,.string ⟨#[]⟩,.slice none 0 0,.slice none 0 0] 28):=⟨_,rfl⟩
 obtain⟨b0,b1,b2,b3⟩:=bf w #[.int .i64 0,.bool xg,.slice xa xl xc,.int .i64 xe,.string xs,.slice xaa xan xac,.slice xoa xon xoc] #[.int .i64 yk,.bool yg,.slice ya yl yc,.int .i64 ye,.string ys,.slice yaa yan yac,.slice yoa yon yoc] #[.int .i64 0,.bool false,.slice none 0 0,.int .i64 0,.string ⟨#[]⟩,.slice none 0 0,.slice none 0 0] 28 28 28
 rw[←hW] at b0 b1 b2 b3
 have HB:=hid b0
 have HX:=hid b1
 have HY:=hid b2
 have HZ:=hid b3
 replace hW:=hid hW.symm
 clear b0 b1 b2 b3
 replace CR:=hid CR
 obtain⟨⟨y0,y1,y2,y3,y4,y5,y6⟩,_⟩:=ag HY.out
 go_enter Tryz.func29,Tryz.ntmps29
 go_upto_region 1 with fail
 rw[hW.out]
 go_wp2_with fail
 refine (CR.out _ HB.out).mono ?_
 rintro en w1 ⟨rfl,hb⟩
 have q1:=hid (ae HB.out hb)
 have z1:=hid (af HZ.out hb)
 have x1:=hid (af HX.out hb)
 have k1:=hid (af HY.out hb)
 clear hb HB HX HY HZ hW y0 y1 y2 y3 y4 y5 y6 CR
 obtain⟨⟨p0,p1,p2,p3,p4,p5,p6⟩,_⟩:=ag x1.out
 obtain⟨⟨r0,r1,r2,r3,r4,r5,r6⟩,s0,s1,s2,s3,s4,s5,s6⟩:=ag z1.out
 have hq:=hid (hn.out _ q1.out)
 clear hn
 go_wp2_with fail
 refine bodyPost_ret (v:=.tuple #[.agg #[.int .i64 0,.bool xg,.slice xa xl xc,.int .i64 xe,.string xs,.slice xaa xan xac,.slice xoa xon xoc],.int .i64 0]) (by simp[results,Tryz.results29,go_sem,r0,r1,r2,r3,r4,r5,r6]) rfl ?_
 exact hq.out
theorem vP (xk:Int)(xg:Bool)(xa:Option Addr)(xl xc:Nat)(xe:Int)(xs:ByteArray)(xaa:Option Addr)(xan xac:Nat)(xoa:Option Addr)(xon xoc:Nat)(yk:Int)(yg:Bool)(ya:Option Addr)(yl yc:Nat)(ye:Int)(ys:ByteArray)(yaa:Option Addr)(yan yac:Nat)(yoa:Option Addr)(yon yoc:Nat)(w:World)(Q:Ending→World→Prop)(R:World→List Value→Prop)(h0:xk=6)(CR:∀W,Below w.heap.size w W→Calls Tryz.prog 52 #[.agg #[.int .i64 yk,.bool yg,.slice ya yl yc,.int .i64 ye,.string ys,.slice yaa yan yac,.slice yoa yon yoc]] W fun e w'=>e=.returned (.int .i64 1)∧Below W.heap.size W w')
  (CH:∀W,Below w.heap.size w W→Calls Tryz.prog 53 #[.agg #[.int .i64 xk,.bool xg,.slice xa xl xc,.int .i64 xe,.string xs,.slice xaa xan xac,.slice xoa xon xoc],.string ys] W fun e w'=>∃fk fg fa fl fc fe fs faa fan fac foa fon foc,∃b,e=.returned (.tuple #[.agg #[.int .i64 fk,.bool fg,.slice fa fl fc,.int .i64 fe,.string fs,.slice faa fan fac,.slice foa fon foc],.bool b])∧R w' [.int .i64 fk,.bool fg,.slice fa fl fc,.int .i64 fe,.string fs,.slice faa fan fac,.slice foa fon foc]∧Below W.heap.size W w')
  (hn:∀fk fg fa fl fc fe fs faa fan fac foa fon foc,∀W0 W,R W0 [.int .i64 fk,.bool fg,.slice fa fl fc,.int .i64 fe,.string fs,.slice faa fan fac,.slice foa fon foc]→Below w.heap.size w W0→Below W0.heap.size W0 W→Q (.returned (.tuple #[.agg #[.int .i64 fk,.bool fg,.slice fa fl fc,.int .i64 fe,.string fs,.slice faa fan fac,.slice foa fon foc],.int .i64 0])) (W.setCells (w.heap.size+1+1) 0 [.int .i64 fk,.bool fg,.slice fa fl fc,.int .i64 fe,.string fs,.slice faa fan fac,.slice foa fon foc])) :
  Calls Tryz.prog 29 #[.agg #[.int .i64 xk,.bool xg,.slice xa xl xc,.int .i64 xe,.string xs,.slice xaa xan xac,.slice xoa xon xoc],.agg #[.int .i64 yk,.bool yg,.slice ya yl yc,.int .i64 ye,.string ys,.slice yaa yan yac,.slice yoa yon yoc]] w Q:=by
 subst h0
 replace hn:=hid hn
 replace CH:=hid CH
 obtain⟨W,hW⟩:∃W,W=((w.alloc (.cells #[.int .i64 6,.bool xg,.slice xa xl xc,.int .i64 xe,.string xs,.slice xaa xan xac,.slice xoa xon xoc] 28)).alloc (.cells #[.int .i64 yk,.bool yg,.slice ya yl yc,.int .i64 ye,.string ys,.slice yaa yan yac,.slice yoa yon yoc] 28)).alloc (.cells #[.int .i64 0,.bool false,.slice none 0 0,.int .i64 0,.string ⟨#[]⟩,.slice none 0 0,.slice none 0 0] 28):=⟨_,rfl⟩
 obtain⟨b0,b1,b2,b3⟩:=bf w #[.int .i64 6,.bool xg,.slice xa xl xc,.int .i64 xe,.string xs,.slice xaa xan xac,.slice xoa xon xoc] #[.int .i64 yk,.bool yg,.slice ya yl yc,.int .i64 ye,.string ys,.slice yaa yan yac,.slice yoa yon yoc] #[.int .i64 0,.bool false,.slice none 0 0,.int .i64 0,.string ⟨#[]⟩,.slice none 0 0,.slice none 0 0] 28 28 28
 rw[←hW] at b0 b1 b2 b3
 have HB:=hid b0
 have HX:=hid b1
 have HY:=hid b2
 have HZ:=hid b3
 replace hW:=hid hW.symm
 clear b0 b1 b2 b3
 replace CR:=hid CR
 obtain⟨⟨y0,y1,y2,y3,y4,y5,y6⟩,_⟩:=ag HY.out
 go_enter Tryz.func29,Tryz.ntmps29
 go_upto_region 1 with fail
 rw[hW.out]
 go_wp2_with fail
 refine (CR.out _ HB.out).mono ?_
 rintro en w1 ⟨rfl,hb⟩
 have q1:=hid (ae HB.out hb)
 have z1:=hid (af HZ.out hb)
 have x1:=hid (af HX.out hb)
 have k1:=hid (af HY.out hb)
 clear hb HB HX HY HZ hW y0 y1 y2 y3 y4 y5 y6 CR
 obtain⟨⟨p0,p1,p2,p3,p4,p5,p6⟩,_⟩:=ag x1.out
 obtain⟨⟨y0,y1,y2,y3,y4,y5,y6⟩,_⟩:=ag k1.out
 go_upto_region 3 with fail
 go_wp2_with fail
 refine (CH.out _ q1.out).mono ?_
 rintro en w2 ⟨fk,fg,fa,fl,fc,fe,fs,faa,fan,fac,foa,fon,foc,b,rfl,hr,hb⟩
 have hbA:=(Below.refl w2.heap.size w2).alloc (Nat.le_refl _) (.cells #[.int .i64 fk,.bool fg,.slice fa fl fc,.int .i64 fe,.string fs,.slice faa fan fac,.slice foa fon foc] 28)
 have z2:=hid (af (af z1.out hb) hbA)
 have hq:=hid (hn.out fk fg fa fl fc fe fs faa fan fac foa fon foc w2 _ hr (ae q1.out hb) hbA)
 clear hb hbA hn hr CH p0 p1 p2 p3 p4 p5 p6 y0 y1 y2 y3 y4 y5 y6 z1 x1 k1 q1
 obtain⟨⟨r0,r1,r2,r3,r4,r5,r6⟩,s0,s1,s2,s3,s4,s5,s6⟩:=ag z2.out
 go_wp2_with fail
 refine bodyPost_ret (v:=.tuple #[.agg #[.int .i64 fk,.bool fg,.slice fa fl fc,.int .i64 fe,.string fs,.slice faa fan fac,.slice foa fon foc],.int .i64 0]) (by simp[results,Tryz.results29,go_sem,r0,r1,r2,r3,r4,r5,r6]) rfl ?_
 exact hq.out
theorem vS (xk:Int)(xg:Bool)(xa:Option Addr)(xl xc:Nat)(xe:Int)(xs:ByteArray)(xaa:Option Addr)(xan xac:Nat)(xoa:Option Addr)(xon xoc:Nat)(yk:Int)(yg:Bool)(ya:Option Addr)(yl yc:Nat)(ye:Int)(ys:ByteArray)(yaa:Option Addr)(yan yac:Nat)(yoa:Option Addr)(yon yoc:Nat)(w:World)(Q:Ending→World→Prop)(R:World→List Value→Prop)(h0:xk=0)(CR:∀W,Below w.heap.size w W→Calls Tryz.prog 52 #[.agg #[.int .i64 yk,.bool yg,.slice ya yl yc,.int .i64 ye,.string ys,.slice yaa yan yac,.slice yoa yon yoc]] W fun e w'=>e=.returned (.int .i64 1)∧Below W.heap.size W w')
  (CH:∀W,Below w.heap.size w W→Calls Tryz.prog 53 #[.agg #[.int .i64 xk,.bool xg,.slice xa xl xc,.int .i64 xe,.string xs,.slice xaa xan xac,.slice xoa xon xoc],.string ys] W fun e w'=>∃fk fg fa fl fc fe fs faa fan fac foa fon foc,∃b,e=.returned (.tuple #[.agg #[.int .i64 fk,.bool fg,.slice fa fl fc,.int .i64 fe,.string fs,.slice faa fan fac,.slice foa fon foc],.bool b])∧R w' [.int .i64 fk,.bool fg,.slice fa fl fc,.int .i64 fe,.string fs,.slice faa fan fac,.slice foa fon foc]∧Below W.heap.size W w')
  (hn:∀fk fg fa fl fc fe fs faa fan fac foa fon foc,∀W0 W,R W0 [.int .i64 fk,.bool fg,.slice fa fl fc,.int .i64 fe,.string fs,.slice faa fan fac,.slice foa fon foc]→Below w.heap.size w W0→Below W0.heap.size W0 W→Q (.returned (.tuple #[.agg #[.int .i64 fk,.bool fg,.slice fa fl fc,.int .i64 fe,.string fs,.slice faa fan fac,.slice foa fon foc],.int .i64 0])) (W.setCells (w.heap.size+1+1) 0 [.int .i64 fk,.bool fg,.slice fa fl fc,.int .i64 fe,.string fs,.slice faa fan fac,.slice foa fon foc])) :
  Calls Tryz.prog 29 #[.agg #[.int .i64 xk,.bool xg,.slice xa xl xc,.int .i64 xe,.string xs,.slice xaa xan xac,.slice xoa xon xoc],.agg #[.int .i64 yk,.bool yg,.slice ya yl yc,.int .i64 ye,.string ys,.slice yaa yan yac,.slice yoa yon yoc]] w Q:=by
 subst h0
 replace hn:=hid hn
 replace CH:=hid CH
 obtain⟨W,hW⟩:∃W,W=((w.alloc (.cells #[.int .i64 0,.bool xg,.slice xa xl xc,.int .i64 xe,.string xs,.slice xaa xan xac,.slice xoa xon xoc] 28)).alloc (.cells #[.int .i64 yk,.bool yg,.slice ya yl yc,.int .i64 ye,.string ys,.slice yaa yan yac,.slice yoa yon yoc] 28)).alloc (.cells #[.int .i64 0,.bool false,.slice none 0 0,.int .i64 0,.string ⟨#[]⟩,.slice none 0 0,.slice none 0 0] 28):=⟨_,rfl⟩
 obtain⟨b0,b1,b2,b3⟩:=bf w #[.int .i64 0,.bool xg,.slice xa xl xc,.int .i64 xe,.string xs,.slice xaa xan xac,.slice xoa xon xoc] #[.int .i64 yk,.bool yg,.slice ya yl yc,.int .i64 ye,.string ys,.slice yaa yan yac,.slice yoa yon yoc] #[.int .i64 0,.bool false,.slice none 0 0,.int .i64 0,.string ⟨#[]⟩,.slice none 0 0,.slice none 0 0] 28 28 28
 rw[←hW] at b0 b1 b2 b3
 have HB:=hid b0
 have HX:=hid b1
 have HY:=hid b2
 have HZ:=hid b3
 replace hW:=hid hW.symm
 clear b0 b1 b2 b3
 replace CR:=hid CR
 obtain⟨⟨y0,y1,y2,y3,y4,y5,y6⟩,_⟩:=ag HY.out
 go_enter Tryz.func29,Tryz.ntmps29
 go_upto_region 1 with fail
 rw[hW.out]
 go_wp2_with fail
 refine (CR.out _ HB.out).mono ?_
 rintro en w1 ⟨rfl,hb⟩
 have q1:=hid (ae HB.out hb)
 have z1:=hid (af HZ.out hb)
 have x1:=hid (af HX.out hb)
 have k1:=hid (af HY.out hb)
 clear hb HB HX HY HZ hW y0 y1 y2 y3 y4 y5 y6 CR
 obtain⟨⟨p0,p1,p2,p3,p4,p5,p6⟩,_⟩:=ag x1.out
 obtain⟨⟨y0,y1,y2,y3,y4,y5,y6⟩,_⟩:=ag k1.out
 go_upto_region 3 with fail
 go_wp2_with fail
 refine (CH.out _ q1.out).mono ?_
 rintro en w2 ⟨fk,fg,fa,fl,fc,fe,fs,faa,fan,fac,foa,fon,foc,b,rfl,hr,hb⟩
 have hbA:=(Below.refl w2.heap.size w2).alloc (Nat.le_refl _) (.cells #[.int .i64 fk,.bool fg,.slice fa fl fc,.int .i64 fe,.string fs,.slice faa fan fac,.slice foa fon foc] 28)
 have z2:=hid (af (af z1.out hb) hbA)
 have hq:=hid (hn.out fk fg fa fl fc fe fs faa fan fac foa fon foc w2 _ hr (ae q1.out hb) hbA)
 clear hb hbA hn hr CH p0 p1 p2 p3 p4 p5 p6 y0 y1 y2 y3 y4 y5 y6 z1 x1 k1 q1
 obtain⟨⟨r0,r1,r2,r3,r4,r5,r6⟩,s0,s1,s2,s3,s4,s5,s6⟩:=ag z2.out
 go_wp2_with fail
 refine bodyPost_ret (v:=.tuple #[.agg #[.int .i64 fk,.bool fg,.slice fa fl fc,.int .i64 fe,.string fs,.slice faa fan fac,.slice foa fon foc],.int .i64 0]) (by simp[results,Tryz.results29,go_sem,r0,r1,r2,r3,r4,r5,r6]) rfl ?_
 exact hq.out
theorem yC (xk:Int)(xg:Bool)(xa:Option Addr)(xl xc:Nat)(xe:Int)(xs:ByteArray)(xaa:Option Addr)(xan xac:Nat)(xoa:Option Addr)(xon xoc:Nat)(yk:Int)(yg:Bool)(ya:Option Addr)(yl yc:Nat)(ye:Int)(ys:ByteArray)(yaa:Option Addr)(yan yac:Nat)(yoa:Option Addr)(yon yoc:Nat)(i:Int)(er:Nat)(w:World)(Q:Ending→World→Prop)(hk:xk=5)(_hxan:xan≤1152921504606846976)(CR:∀W,Below w.heap.size w W→Calls Tryz.prog 52 #[.agg #[.int .i64 yk,.bool yg,.slice ya yl yc,.int .i64 ye,.string ys,.slice yaa yan yac,.slice yoa yon yoc]] W fun e w'=>e=.returned (.int .i64 2)∧Below W.heap.size W w')
  (CA:∀W,Below w.heap.size w W→Calls Tryz.prog 54 #[.agg #[.bool yg,.slice ya yl yc,.int .i64 ye],.int .i64 xan] W fun e w'=>e=.returned (.tuple #[.int .i64 i,.int .i64 er])∧Below W.heap.size W w')
  (hn:(er≠0∨i<0∨(xan:Int)≤i)→∀W,Below w.heap.size w W→Q (.returned (.tuple #[.agg #[.int .i64 0,.bool false,.slice none 0 0,.int .i64 0,.string ⟨#[]⟩,.slice none 0 0,.slice none 0 0],.int .i64 er])) (W.setCells (w.heap.size+1+1) 0 [.int .i64 0,.bool false,.slice none 0 0,.int .i64 0,.string ⟨#[]⟩,.slice none 0 0,.slice none 0 0]))
  (h5:er=0→0≤i→i<(xan:Int)→∃b off,xaa=some ⟨b,off,none⟩∧∃zk zg za zl zc ze zs zaa zan zac zoa zon zoc,(w.cell? ⟨b,off+i.toNat * 7,none⟩=some (.int .i64 zk)∧w.cell? ⟨b,off+i.toNat * 7+1,none⟩=some (.bool zg)∧w.cell? ⟨b,off+i.toNat * 7+2,none⟩=some (.slice za zl zc)∧w.cell? ⟨b,off+i.toNat * 7+3,none⟩=some (.int .i64 ze)∧w.cell? ⟨b,off+i.toNat * 7+4,none⟩=some (.string zs)∧w.cell? ⟨b,off+i.toNat * 7+5,none⟩=some (.slice zaa zan zac)∧w.cell? ⟨b,off+i.toNat * 7+6,none⟩=some (.slice zoa zon zoc)) ∧
   ∀W,Below w.heap.size w W→Q (.returned (.tuple #[.agg #[.int .i64 zk,.bool zg,.slice za zl zc,.int .i64 ze,.string zs,.slice zaa zan zac,.slice zoa zon zoc],.int .i64 0])) (W.setCells (w.heap.size+1+1) 0 [.int .i64 zk,.bool zg,.slice za zl zc,.int .i64 ze,.string zs,.slice zaa zan zac,.slice zoa zon zoc])) :
  Calls Tryz.prog 29 #[.agg #[.int .i64 xk,.bool xg,.slice xa xl xc,.int .i64 xe,.string xs,.slice xaa xan xac,.slice xoa xon xoc],.agg #[.int .i64 yk,.bool yg,.slice ya yl yc,.int .i64 ye,.string ys,.slice yaa yan yac,.slice yoa yon yoc]] w Q:=by
 subst hk
 replace hn:=hid hn
 replace h5:=hid h5
 replace CA:=hid CA
 obtain⟨W,hW⟩:∃W,W=((w.alloc (.cells #[.int .i64 5,.bool xg,.slice xa xl xc,.int .i64 xe,.string xs,.slice xaa xan xac,.slice xoa xon xoc] 28)).alloc (.cells #[.int .i64 yk,.bool yg,.slice ya yl yc,.int .i64 ye,.string ys,.slice yaa yan yac,.slice yoa yon yoc] 28)).alloc (.cells #[.int .i64 0,.bool false,.slice none 0 0,.int .i64 0,.string ⟨#[]⟩,.slice none 0 0,.slice none 0 0] 28):=⟨_,rfl⟩
 obtain⟨b0,b1,b2,b3⟩:=bf w #[.int .i64 5,.bool xg,.slice xa xl xc,.int .i64 xe,.string xs,.slice xaa xan xac,.slice xoa xon xoc] #[.int .i64 yk,.bool yg,.slice ya yl yc,.int .i64 ye,.string ys,.slice yaa yan yac,.slice yoa yon yoc] #[.int .i64 0,.bool false,.slice none 0 0,.int .i64 0,.string ⟨#[]⟩,.slice none 0 0,.slice none 0 0] 28 28 28
 rw[←hW] at b0 b1 b2 b3
 have HB:=hid b0
 have HX:=hid b1
 have HY:=hid b2
 have HZ:=hid b3
 replace hW:=hid hW.symm
 clear b0 b1 b2 b3
 replace CR:=hid CR
 obtain⟨⟨y0,y1,y2,y3,y4,y5,y6⟩,_⟩:=ag HY.out
 go_enter Tryz.func29,Tryz.ntmps29
 go_upto_region 1 with fail
 rw[hW.out]
 go_wp2_with fail
 refine (CR.out _ HB.out).mono ?_
 rintro en w1 ⟨rfl,hb⟩
 have q1:=hid (ae HB.out hb)
 have z1:=hid (af HZ.out hb)
 have x1:=hid (af HX.out hb)
 have k1:=hid (af HY.out hb)
 clear hb HB HX HY HZ hW y0 y1 y2 y3 y4 y5 y6 CR
 obtain⟨⟨p0,p1,p2,p3,p4,p5,p6⟩,_⟩:=ag x1.out
 obtain⟨⟨y0,y1,y2,y3,y4,y5,y6⟩,_⟩:=ag k1.out
 go_upto_region 8 with fail
 go_wp2_with fail
 refine (CA.out _ q1.out).mono ?_
 rintro en w2 ⟨rfl,hb⟩
 have q2:=hid (ae q1.out hb)
 have z2:=hid (af z1.out hb)
 have x2:=hid (af x1.out hb)
 clear hb p0 p1 p2 p3 p4 p5 p6 y0 y1 y2 y3 y4 y5 y6 CA z1 x1 k1 q1
 obtain⟨⟨p0,p1,p2,p3,p4,p5,p6⟩,_⟩:=ag x2.out
 obtain⟨⟨r0,r1,r2,r3,r4,r5,r6⟩,s0,s1,s2,s3,s4,s5,s6⟩:=ag z2.out
 by_cases he:er=0
 rotate_left
 ·have g:((er:Int) != 0)=true:=by rw[bne_iff_ne];omega
  have hq:=hid (hn.out (Or.inl he))
  clear hn h5 he
  go_wp2_with fail
  refine bodyPost_ret (v:=.tuple #[.agg #[.int .i64 0,.bool false,.slice none 0 0,.int .i64 0,.string ⟨#[]⟩,.slice none 0 0,.slice none 0 0],.int .i64 er]) (by simp[results,Tryz.results29,go_sem,r0,r1,r2,r3,r4,r5,r6]) rfl ?_
  exact hq.out _ q2.out
 subst he
 by_cases hi:i<0
 ·have hq:=hid (hn.out (Or.inr (Or.inl hi)))
  clear hn h5
  go_wp2_with fail
  refine bodyPost_ret (v:=.tuple #[.agg #[.int .i64 0,.bool false,.slice none 0 0,.int .i64 0,.string ⟨#[]⟩,.slice none 0 0,.slice none 0 0],.int .i64 0]) (by simp[results,Tryz.results29,go_sem,r0,r1,r2,r3,r4,r5,r6]) rfl ?_
  exact hq.out _ q2.out
 by_cases hi2:(xan:Int)≤i
 ·have hq:=hid (hn.out (Or.inr (Or.inr hi2)))
  have hi3:i ≥ (xan:Int):=hi2
  clear hn h5
  go_wp2_with fail
  refine bodyPost_ret (v:=.tuple #[.agg #[.int .i64 0,.bool false,.slice none 0 0,.int .i64 0,.string ⟨#[]⟩,.slice none 0 0,.slice none 0 0],.int .i64 0]) (by simp[results,Tryz.results29,go_sem,r0,r1,r2,r3,r4,r5,r6]) rfl ?_
  exact hq.out _ q2.out
 obtain⟨m,rfl⟩:∃m:Nat,i=(m:Int):=⟨i.toNat,by omega⟩
 have hm:(m:Int)<(xan:Int):=by omega
 have hm2:¬ (xan:Int)≤(m:Int):=by omega
 obtain⟨b,off,rfl,zk,zg,za,zl,zc,ze,zs,zaa,zan,zac,zoa,zon,zoc,⟨u0,u1,u2,u3,u4,u5,u6⟩,hQ⟩:=h5.out rfl (by omega) hm
 rw[Int.toNat_natCast] at u0 u1 u2 u3 u4 u5 u6
 have q:=q2.out
 replace u0:=ai u0 q
 replace u1:=ai u1 q
 replace u2:=ai u2 q
 replace u3:=ai u3 q
 replace u4:=ai u4 q
 replace u5:=ai u5 q
 replace u6:=ai u6 q
 replace hQ:=hid hQ
 clear hn h5 q hi hi2
 go_wp2_with fail
 refine bodyPost_ret (v:=.tuple #[.agg #[.int .i64 zk,.bool zg,.slice za zl zc,.int .i64 ze,.string zs,.slice zaa zan zac,.slice zoa zon zoc],.int .i64 0]) (by simp[results,Tryz.results29,go_sem,r0,r1,r2,r3,r4,r5,r6]) rfl ?_
 exact hQ.out _ q2.out
theorem yD (xk:Int)(xg:Bool)(xa:Option Addr)(xl xc:Nat)(xe:Int)(xs:ByteArray)(xaa:Option Addr)(xan xac:Nat)(xoa:Option Addr)(xon xoc:Nat)(yk:Int)(yg:Bool)(ya:Option Addr)(yl yc:Nat)(ye:Int)(ys:ByteArray)(yaa:Option Addr)(yan yac:Nat)(yoa:Option Addr)(yon yoc:Nat)(F T E:Nat)(w:World)(Q:Ending→World→Prop)(hk:xk=5)(hcap:xan≤xac∧xac≤9223372036854775807)(hFT:F≤T)(hT:T≤xan)(CR:∀W,Below w.heap.size w W→Calls Tryz.prog 52 #[.agg #[.int .i64 yk,.bool yg,.slice ya yl yc,.int .i64 ye,.string ys,.slice yaa yan yac,.slice yoa yon yoc]] W fun e w'=>e=.returned (.int .i64 3)∧Below W.heap.size W w')
  (CB:∀W,Below w.heap.size w W→Calls Tryz.prog 55 #[.agg #[.int .i64 yk,.bool yg,.slice ya yl yc,.int .i64 ye,.string ys,.slice yaa yan yac,.slice yoa yon yoc],.int .i64 xan] W fun e w'=>e=.returned (.tuple #[.int .i64 F,.int .i64 T,.int .i64 E])∧Below W.heap.size W w')
  (hn:E≠0→∀W,Below w.heap.size w W→Q (.returned (.tuple #[.agg #[.int .i64 0,.bool false,.slice none 0 0,.int .i64 0,.string ⟨#[]⟩,.slice none 0 0,.slice none 0 0],.int .i64 E])) (W.setCells (w.heap.size+1+1) 0 [.int .i64 0,.bool false,.slice none 0 0,.int .i64 0,.string ⟨#[]⟩,.slice none 0 0,.slice none 0 0]))
  (hR:E=0→∀W,Below w.heap.size w W→Q (.returned (.tuple #[.agg #[.int .i64 5,.bool false,.slice none 0 0,.int .i64 0,.string ⟨#[]⟩,.slice (if xac=F then xaa else xaa.map (fun x=>x.add (F * 7))) (T-F) (xac-F),.slice none 0 0],.int .i64 0])) (W.setCells (w.heap.size+1+1) 0 [.int .i64 5,.bool false,.slice none 0 0,.int .i64 0,.string ⟨#[]⟩,.slice (if xac=F then xaa else xaa.map (fun x=>x.add (F * 7))) (T-F) (xac-F),.slice none 0 0])) :
  Calls Tryz.prog 29 #[.agg #[.int .i64 xk,.bool xg,.slice xa xl xc,.int .i64 xe,.string xs,.slice xaa xan xac,.slice xoa xon xoc],.agg #[.int .i64 yk,.bool yg,.slice ya yl yc,.int .i64 ye,.string ys,.slice yaa yan yac,.slice yoa yon yoc]] w Q:=by
 subst hk
 replace hn:=hid hn
 replace hR:=hid hR
 replace CB:=hid CB
 obtain⟨W,hW⟩:∃W,W=((w.alloc (.cells #[.int .i64 5,.bool xg,.slice xa xl xc,.int .i64 xe,.string xs,.slice xaa xan xac,.slice xoa xon xoc] 28)).alloc (.cells #[.int .i64 yk,.bool yg,.slice ya yl yc,.int .i64 ye,.string ys,.slice yaa yan yac,.slice yoa yon yoc] 28)).alloc (.cells #[.int .i64 0,.bool false,.slice none 0 0,.int .i64 0,.string ⟨#[]⟩,.slice none 0 0,.slice none 0 0] 28):=⟨_,rfl⟩
 obtain⟨b0,b1,b2,b3⟩:=bf w #[.int .i64 5,.bool xg,.slice xa xl xc,.int .i64 xe,.string xs,.slice xaa xan xac,.slice xoa xon xoc] #[.int .i64 yk,.bool yg,.slice ya yl yc,.int .i64 ye,.string ys,.slice yaa yan yac,.slice yoa yon yoc] #[.int .i64 0,.bool false,.slice none 0 0,.int .i64 0,.string ⟨#[]⟩,.slice none 0 0,.slice none 0 0] 28 28 28
 rw[←hW] at b0 b1 b2 b3
 have HB:=hid b0
 have HX:=hid b1
 have HY:=hid b2
 have HZ:=hid b3
 replace hW:=hid hW.symm
 clear b0 b1 b2 b3
 replace CR:=hid CR
 obtain⟨⟨y0,y1,y2,y3,y4,y5,y6⟩,_⟩:=ag HY.out
 go_enter Tryz.func29,Tryz.ntmps29
 go_upto_region 1 with fail
 rw[hW.out]
 go_wp2_with fail
 refine (CR.out _ HB.out).mono ?_
 rintro en w1 ⟨rfl,hb⟩
 have q1:=hid (ae HB.out hb)
 have z1:=hid (af HZ.out hb)
 have x1:=hid (af HX.out hb)
 have k1:=hid (af HY.out hb)
 clear hb HB HX HY HZ hW y0 y1 y2 y3 y4 y5 y6 CR
 obtain⟨⟨p0,p1,p2,p3,p4,p5,p6⟩,_⟩:=ag x1.out
 obtain⟨⟨y0,y1,y2,y3,y4,y5,y6⟩,_⟩:=ag k1.out
 go_upto_region 13 with fail
 go_wp2_with fail
 refine (CB.out _ q1.out).mono ?_
 rintro en w2 ⟨rfl,hb⟩
 have q2:=hid (ae q1.out hb)
 have z2:=hid (af z1.out hb)
 have x2:=hid (af x1.out hb)
 clear hb p0 p1 p2 p3 p4 p5 p6 y0 y1 y2 y3 y4 y5 y6 CB z1 x1 k1 q1
 obtain⟨⟨p0,p1,p2,p3,p4,p5,p6⟩,_⟩:=ag x2.out
 obtain⟨⟨r0,r1,r2,r3,r4,r5,r6⟩,s0,s1,s2,s3,s4,s5,s6⟩:=ag z2.out
 by_cases he:E=0
 rotate_left
 ·have g:((E:Int) != 0)=true:=by rw[bne_iff_ne];omega
  have hq:=hid (hn.out he)
  clear hn hR he
  go_wp2_with fail
  refine bodyPost_ret (v:=.tuple #[.agg #[.int .i64 0,.bool false,.slice none 0 0,.int .i64 0,.string ⟨#[]⟩,.slice none 0 0,.slice none 0 0],.int .i64 E]) (by simp[results,Tryz.results29,go_sem,r0,r1,r2,r3,r4,r5,r6]) rfl ?_
  exact hq.out _ q2.out
 have hR2:=hR.out he _ q2.out
 subst he
 clear hn hR
 obtain⟨hc1,hc2⟩:=hcap
 have hTc:T≤xac:=by omega
 by_cases hcF:xac=F
 ·rw[if_pos hcF,hcF,Nat.sub_self] at hR2
  replace hR2:=hid hR2
  go_wp2_with fail
  refine bodyPost_ret (v:=.tuple #[.agg #[.int .i64 5,.bool false,.slice none 0 0,.int .i64 0,.string ⟨#[]⟩,.slice xaa (T-F) 0,.slice none 0 0],.int .i64 0]) (by simp[results,Tryz.results29,go_sem,r0,r1,r2,r3,r4,r5,r6]) rfl ?_
  exact hR2.out
 ·rw[if_neg hcF] at hR2
  replace hR2:=hid hR2
  go_wp2_with fail
  refine bodyPost_ret (v:=.tuple #[.agg #[.int .i64 5,.bool false,.slice none 0 0,.int .i64 0,.string ⟨#[]⟩,.slice (xaa.map (fun x=>x.add (F * 7))) (T-F) (xac-F),.slice none 0 0],.int .i64 0]) (by simp[results,Tryz.results29,go_sem,r0,r1,r2,r3,r4,r5,r6]) rfl ?_
  exact hR2.out
theorem vT (xk:Int)(xg:Bool)(xa:Option Addr)(xl xc:Nat)(xe:Int)(xs:ByteArray)(xaa:Option Addr)(xan xac:Nat)(xoa:Option Addr)(xon xoc:Nat)(yk:Int)(yg:Bool)(ya:Option Addr)(yl yc:Nat)(ye:Int)(ys:ByteArray)(yaa:Option Addr)(yan yac:Nat)(yoa:Option Addr)(yon yoc:Nat)(n F T E:Nat)(tb:ByteArray)(R:World→Option Addr→Prop)(w:World)(Q:Ending→World→Prop)(hk:xk=4)(hFT:F≤T)(hT:T≤n)(hR1:∀W W' a,R W a→Below W.heap.size W W'→R W' a)(CR:∀W,Below w.heap.size w W→Calls Tryz.prog 52 #[.agg #[.int .i64 yk,.bool yg,.slice ya yl yc,.int .i64 ye,.string ys,.slice yaa yan yac,.slice yoa yon yoc]] W fun e w'=>e=.returned (.int .i64 3)∧Below W.heap.size W w')
  (CE:∀W,Below w.heap.size w W→Calls Tryz.prog 56 #[.string xs] W fun e w'=>∃(a:Option Addr) (c:Nat),e=.returned (.slice a n c)∧R w' a∧(n≤c∧c≤9223372036854775807)∧Below W.heap.size W w')
  (CB:∀W,Below w.heap.size w W→Calls Tryz.prog 55 #[.agg #[.int .i64 yk,.bool yg,.slice ya yl yc,.int .i64 ye,.string ys,.slice yaa yan yac,.slice yoa yon yoc],.int .i64 n] W fun e w'=>e=.returned (.tuple #[.int .i64 F,.int .i64 T,.int .i64 E])∧Below W.heap.size W w')
  (CS:E=0→∀W a c,n≤c→R W a→Below w.heap.size w W→Calls Tryz.prog 57 #[.slice (if c=F then a else a.map (fun x=>x.add F)) (T-F) (c-F)] W fun e w'=>e=.returned (.string tb)∧Below W.heap.size W w')
  (hn:E≠0→∀W,Below w.heap.size w W→Q (.returned (.tuple #[.agg #[.int .i64 0,.bool false,.slice none 0 0,.int .i64 0,.string ⟨#[]⟩,.slice none 0 0,.slice none 0 0],.int .i64 E])) (W.setCells (w.heap.size+1+1) 0 [.int .i64 0,.bool false,.slice none 0 0,.int .i64 0,.string ⟨#[]⟩,.slice none 0 0,.slice none 0 0]))
  (hR:E=0→∀W,Below w.heap.size w W→Q (.returned (.tuple #[.agg #[.int .i64 4,.bool false,.slice none 0 0,.int .i64 0,.string tb,.slice none 0 0,.slice none 0 0],.int .i64 0])) (W.setCells (w.heap.size+1+1) 0 [.int .i64 4,.bool false,.slice none 0 0,.int .i64 0,.string tb,.slice none 0 0,.slice none 0 0])) :
  Calls Tryz.prog 29 #[.agg #[.int .i64 xk,.bool xg,.slice xa xl xc,.int .i64 xe,.string xs,.slice xaa xan xac,.slice xoa xon xoc],.agg #[.int .i64 yk,.bool yg,.slice ya yl yc,.int .i64 ye,.string ys,.slice yaa yan yac,.slice yoa yon yoc]] w Q:=by
 subst hk
 replace hn:=hid hn
 replace hR:=hid hR
 replace CB:=hid CB
 replace CE:=hid CE
 replace CS:=hid CS
 replace hR1:=hid hR1
 obtain⟨W,hW⟩:∃W,W=((w.alloc (.cells #[.int .i64 4,.bool xg,.slice xa xl xc,.int .i64 xe,.string xs,.slice xaa xan xac,.slice xoa xon xoc] 28)).alloc (.cells #[.int .i64 yk,.bool yg,.slice ya yl yc,.int .i64 ye,.string ys,.slice yaa yan yac,.slice yoa yon yoc] 28)).alloc (.cells #[.int .i64 0,.bool false,.slice none 0 0,.int .i64 0,.string ⟨#[]⟩,.slice none 0 0,.slice none 0 0] 28):=⟨_,rfl⟩
 obtain⟨b0,b1,b2,b3⟩:=bf w #[.int .i64 4,.bool xg,.slice xa xl xc,.int .i64 xe,.string xs,.slice xaa xan xac,.slice xoa xon xoc] #[.int .i64 yk,.bool yg,.slice ya yl yc,.int .i64 ye,.string ys,.slice yaa yan yac,.slice yoa yon yoc] #[.int .i64 0,.bool false,.slice none 0 0,.int .i64 0,.string ⟨#[]⟩,.slice none 0 0,.slice none 0 0] 28 28 28
 rw[←hW] at b0 b1 b2 b3
 have HB:=hid b0
 have HX:=hid b1
 have HY:=hid b2
 have HZ:=hid b3
 replace hW:=hid hW.symm
 clear b0 b1 b2 b3
 replace CR:=hid CR
 obtain⟨⟨y0,y1,y2,y3,y4,y5,y6⟩,_⟩:=ag HY.out
 go_enter Tryz.func29,Tryz.ntmps29
 go_upto_region 1 with fail
 rw[hW.out]
 go_wp2_with fail
 refine (CR.out _ HB.out).mono ?_
 rintro en w1 ⟨rfl,hb⟩
 have q1:=hid (ae HB.out hb)
 have z1:=hid (af HZ.out hb)
 have x1:=hid (af HX.out hb)
 have k1:=hid (af HY.out hb)
 clear hb HB HX HY HZ hW y0 y1 y2 y3 y4 y5 y6 CR
 obtain⟨⟨p0,p1,p2,p3,p4,p5,p6⟩,_⟩:=ag x1.out
 obtain⟨⟨y0,y1,y2,y3,y4,y5,y6⟩,_⟩:=ag k1.out
 go_upto_region 18 with fail
 go_wp2_with fail
 refine (CE.out _ q1.out).mono ?_
 rintro en w2 ⟨ea,ec,rfl,hr,hec,hb⟩
 have q2:=hid (ae q1.out hb)
 have z2:=hid (af z1.out hb)
 have k2:=hid (af k1.out hb)
 have r2':=hid hr
 have hec2:=hid hec
 clear hb hr hec p0 p1 p2 p3 p4 p5 p6 y0 y1 y2 y3 y4 y5 y6 CE z1 x1 k1 q1
 obtain⟨⟨y0,y1,y2,y3,y4,y5,y6⟩,_⟩:=ag k2.out
 go_wp2_with fail
 refine (CB.out _ q2.out).mono ?_
 rintro en w3 ⟨rfl,hb⟩
 have q3:=hid (ae q2.out hb)
 have z3:=hid (af z2.out hb)
 have r3':=hid (hR1.out _ _ _ r2'.out hb)
 clear hb y0 y1 y2 y3 y4 y5 y6 CB z2 k2 q2 r2' hR1
 by_cases he:E=0
 rotate_left
 ·have g:((E:Int) != 0)=true:=by rw[bne_iff_ne];omega
  have hq:=hid (hn.out he)
  obtain⟨⟨r0,r1,r2,r3,r4,r5,r6⟩,s0,s1,s2,s3,s4,s5,s6⟩:=ag z3.out
  clear hn hR he CS
  go_wp2_with fail
  refine bodyPost_ret (v:=.tuple #[.agg #[.int .i64 0,.bool false,.slice none 0 0,.int .i64 0,.string ⟨#[]⟩,.slice none 0 0,.slice none 0 0],.int .i64 E]) (by simp[results,Tryz.results29,go_sem,r0,r1,r2,r3,r4,r5,r6]) rfl ?_
  exact hq.out _ q3.out
 have hR2:=hid (hR.out he)
 have C:=CS.out he w3 ea ec hec2.out.1 r3'.out q3.out
 subst he
 clear hn hR CS
 obtain⟨hc1,hc2⟩:=hec2.out
 have hTc:T≤ec:=by omega
 by_cases hcF:ec=F
 ·rw[if_pos hcF,hcF,Nat.sub_self] at C
  replace C:=hid C
  go_wp2_with fail
  refine C.out.mono ?_
  rintro en w4 ⟨rfl,hb⟩
  have hq:=hid (hR2.out _ (ae q3.out hb))
  obtain⟨⟨r0,r1,r2,r3,r4,r5,r6⟩,s0,s1,s2,s3,s4,s5,s6⟩:=ag (af z3.out hb)
  clear hb C hR2
  go_wp2_with fail
  refine bodyPost_ret (v:=.tuple #[.agg #[.int .i64 4,.bool false,.slice none 0 0,.int .i64 0,.string tb,.slice none 0 0,.slice none 0 0],.int .i64 0]) (by simp[results,Tryz.results29,go_sem,r0,r1,r2,r3,r4,r5,r6]) rfl ?_
  exact hq.out
 ·rw[if_neg hcF] at C
  replace C:=hid C
  go_wp2_with fail
  refine C.out.mono ?_
  rintro en w4 ⟨rfl,hb⟩
  have hq:=hid (hR2.out _ (ae q3.out hb))
  obtain⟨⟨r0,r1,r2,r3,r4,r5,r6⟩,s0,s1,s2,s3,s4,s5,s6⟩:=ag (af z3.out hb)
  clear hb C hR2
  go_wp2_with fail
  refine bodyPost_ret (v:=.tuple #[.agg #[.int .i64 4,.bool false,.slice none 0 0,.int .i64 0,.string tb,.slice none 0 0,.slice none 0 0],.int .i64 0]) (by simp[results,Tryz.results29,go_sem,r0,r1,r2,r3,r4,r5,r6]) rfl ?_
  exact hq.out
theorem Gp {k:JV}(h:k.kind=4):stepN k=1:=by unfold stepN;rw[if_pos h]
theorem Gq {k:JV}(h:k.kind=3):stepN k=2:=by unfold stepN;rw[if_neg (by omega),if_pos h]
theorem EH {k:JV}(h4:k.kind≠4)(h3:k.kind≠3):stepN k=0∨stepN k=3:=by
 unfold stepN
 rw[if_neg h4,if_neg h3]
 split
 ·exact Or.inr rfl
 ·exact Or.inl rfl
theorem EI {w:World}{aa:Option Addr}{l:List JV}{ac F T:Nat}(h:RdA w aa l)(hc:l.length≤ac):RdA w (if ac=F then aa else aa.map (fun x=>x.add (F * 7))) ((l.take T).drop F) :=
 rV (h.take T) (by rw[List.length_take];omega)
theorem yw (A:Nat→Prop)(v k:JV)(cs ck:List Value)(w:World)(hv:mayJ 200 v=true)(hk:mayJ 200 k=true)(sv:SmallV v)(rv:RdX A w cs v)(rk:RdV w ck k) :
  Calls Tryz.prog 29 #[.agg cs.toArray,.agg ck.toArray] w (OutX A w (takeJ v k).1 (takeJ v k).2):=by
 have hd:=BG k (bz.1 hk).2
 have CR:∀(s:Nat),stepN k=s→∀W,Below w.heap.size w W→Calls Tryz.prog 52 #[.agg ck.toArray] W fun e w'=>e=.returned (.int .i64 s)∧Below W.heap.size W w':=fun s hs W hb=>by subst hs;exact yE k ck W (rk.stay hb)
 have CS:stepN k=3→∀n,n≤1152921504606846976→∀W,Below w.heap.size w W→_:=fun h3 n hn W hb=>vU k ck n W (rk.stay hb) h3 hn
 have rvW:=fun W (hb:Below w.heap.size w W)=>RdV.sub rv (aH (A':=And1 A (w.heap.size+1+1)) (fun n hn h=>h.elim id fun e=>by omega) hb)
 have rv0:=rv
 obtain⟨va,vc,aa,ac,oa,oc,P⟩:=rv.parts
 obtain⟨ka,kc,kaa,kac,koa,koc,Pk⟩:=rk.parts
 have e:=P.cells
 subst e
 have e:=Pk.cells
 subst e
 have hal:=sv.al
 have hsl:=sv.sl
 have hnull:∀err W,Below w.heap.size w W→OutX A w .null err (.returned (.tuple #[.agg #[.int .i64 0,.bool false,.slice none 0 0,.int .i64 0,.string ⟨#[]⟩,.slice none 0 0,.slice none 0 0],.int .i64 err])) (W.setCells (w.heap.size+1+1) 0 [.int .i64 0,.bool false,.slice none 0 0,.int .i64 0,.string ⟨#[]⟩,.slice none 0 0,.slice none 0 0]):=fun err W hb=>aK hb (by omega)
 unfold takeJ
 by_cases k4:k.kind=4
 ·have hs:=Gp k4
  rw[if_pos k4] at hd
  rw[hd]
  by_cases h6:v.kind=6∨v.kind=0
  ·have hx:takeS v (.key k.s)=((getO k.s v.obj).getD .null,0):=by unfold takeS;dsimp only;rw[if_pos h6]
   rw[hx]
   have CH:∀W,Below w.heap.size w W→Calls Tryz.prog 53 #[.agg (valCs v.kind v.g va v.ls.length vc v.e v.s aa v.arr.length ac oa v.obj.length oc).toArray,strV k.s] W fun e w'=>∃fk fg fa fl fc fe fs faa fan fac foa fon foc,∃b,e=.returned (.tuple #[.agg #[.int .i64 fk,.bool fg,.slice fa fl fc,.int .i64 fe,.string fs,.slice faa fan fac,.slice foa fon foc],.bool b])∧RdX (And1 A (w.heap.size+1+1)) w' [.int .i64 fk,.bool fg,.slice fa fl fc,.int .i64 fe,.string fs,.slice faa fan fac,.slice foa fon foc] ((getO k.s v.obj).getD .null)∧Below W.heap.size W w':=by
    intro W hb
    refine (jw v _ k.s (hideW (And1 A (w.heap.size+1+1)) W) W (aF _ _) (rvW W hb)).mono ?_
    rintro e w' ⟨ca,rfl,hr,hb'⟩
    obtain⟨fk,fg,fa,fl,fc,fe,fs,faa,fan,fac,foa,fon,foc,rfl⟩:=RdV.sevenB hr
    exact⟨fk,fg,fa,fl,fc,fe,fs,faa,fan,fac,foa,fon,foc,_,rfl,RdX.stay hr hb',hb'⟩
   have hn:∀fk fg fa fl fc fe fs faa fan fac foa fon foc,∀W0 W,RdX (And1 A (w.heap.size+1+1)) W0 [.int .i64 fk,.bool fg,.slice fa fl fc,.int .i64 fe,.string fs,.slice faa fan fac,.slice foa fon foc] ((getO k.s v.obj).getD .null)→Below w.heap.size w W0→Below W0.heap.size W0 W→OutX A w ((getO k.s v.obj).getD .null) 0 (.returned (.tuple #[.agg #[.int .i64 fk,.bool fg,.slice fa fl fc,.int .i64 fe,.string fs,.slice faa fan fac,.slice foa fon foc],.int .i64 0])) (W.setCells (w.heap.size+1+1) 0 [.int .i64 fk,.bool fg,.slice fa fl fc,.int .i64 fe,.string fs,.slice faa fan fac,.slice foa fon foc]):=by
    intro fk fg fa fl fc fe fs faa fan fac foa fon foc W0 W h0 h1 h2
    exact aW (RdX.stay h0 h2) (ae h1 h2) (by omega)
   rcases h6 with h6 | h6
   ·exact vP v.kind v.g va v.ls.length vc v.e ⟨v.s.toArray⟩ aa v.arr.length ac oa v.obj.length oc k.kind k.g ka k.ls.length kc k.e ⟨k.s.toArray⟩ kaa k.arr.length kac koa k.obj.length koc w _ (fun W' cs'=>RdX (And1 A (w.heap.size+1+1)) W' cs' ((getO k.s v.obj).getD .null)) h6 (CR 1 hs) CH hn
   ·exact vS v.kind v.g va v.ls.length vc v.e ⟨v.s.toArray⟩ aa v.arr.length ac oa v.obj.length oc k.kind k.g ka k.ls.length kc k.e ⟨k.s.toArray⟩ kaa k.arr.length kac koa k.obj.length koc w _ (fun W' cs'=>RdX (And1 A (w.heap.size+1+1)) W' cs' ((getO k.s v.obj).getD .null)) h6 (CR 1 hs) CH hn
  ·have hx:takeS v (.key k.s)=(.null,9):=by unfold takeS;dsimp only;rw[if_neg h6]
   rw[hx]
   exact yz v.kind v.g va v.ls.length vc v.e ⟨v.s.toArray⟩ aa v.arr.length ac oa v.obj.length oc k.kind k.g ka k.ls.length kc k.e ⟨k.s.toArray⟩ kaa k.arr.length kac koa k.obj.length koc w _ (fun h=>h6 (Or.inl h)) (fun h=>h6 (Or.inr h)) (CR 1 hs) (hnull 9)
 rw[if_neg k4] at hd
 by_cases k3:k.kind=3
 ·have hs:=Gq k3
  rw[if_pos k3] at hd
  rw[hd]
  by_cases h0:v.kind=0
  ·have hx:takeS v (.idx k)=(v,0):=by unfold takeS;dsimp only;rw[if_pos h0]
   rw[hx]
   exact rW v.kind v.g va v.ls.length vc v.e ⟨v.s.toArray⟩ aa v.arr.length ac oa v.obj.length oc k.kind k.g ka k.ls.length kc k.e ⟨k.s.toArray⟩ kaa k.arr.length kac koa k.obj.length koc w _ h0 (CR 2 hs) (fun W hb=>bu rv0 hb (by omega))
  by_cases h5:v.kind=5
  ·refine yC v.kind v.g va v.ls.length vc v.e ⟨v.s.toArray⟩ aa v.arr.length ac oa v.obj.length oc k.kind k.g ka k.ls.length kc k.e ⟨k.s.toArray⟩ kaa k.arr.length kac koa k.obj.length koc (atJ k v.arr.length).1 (atJ k v.arr.length).2 w _ h5 (by omega) (CR 2 hs) (fun W hb=>vV k ka kc v.arr.length W (Pk.u.below hb) (by omega)) ?_ ?_
   ·intro h W hb
    have hx:takeS v (.idx k)=(.null,(atJ k v.arr.length).2):=by
     unfold takeS
     dsimp only
     rw[if_neg h0,if_pos h5]
     by_cases h3:(atJ k v.arr.length).2=0
     ·rw[if_neg (by omega),if_neg (by omega),h3]
     ·rw[if_pos h3]
    rw[hx]
    exact hnull _ W hb
   ·intro h2 h3 h4
    have hlt:(atJ k v.arr.length).1.toNat<v.arr.length:=by omega
    obtain⟨zs,⟨b,off,e1,hc⟩,hz⟩:=P.arr _ _ (List.getElem?_eq_getElem hlt)
    have hx:takeS v (.idx k)=(v.arr[(atJ k v.arr.length).1.toNat],0):=by
     unfold takeS
     dsimp only
     rw[if_neg h0,if_pos h5,if_neg (by omega),if_pos ⟨h3,h4⟩,List.getD_eq_getElem?_getD,List.getElem?_eq_getElem hlt]
     rfl
    obtain⟨zk,zg,za,zl,zc,ze,zs,zaa,zan,zac,zoa,zon,zoc,rfl⟩:=hz.sevenB
    refine⟨b,off,e1,zk,zg,za,zl,zc,ze,zs,zaa,zan,zac,zoa,zon,zoc,⟨aF A w _ _ (hc 0 _ rfl),aF A w _ _ (hc 1 _ rfl),aF A w _ _ (hc 2 _ rfl),aF A w _ _ (hc 3 _ rfl),aF A w _ _ (hc 4 _ rfl),aF A w _ _ (hc 5 _ rfl),aF A w _ _ (hc 6 _ rfl)⟩,?_⟩
    intro W hb
    rw[hx]
    exact bu hz hb (by omega)
  ·have hx:takeS v (.idx k)=(.null,9):=by unfold takeS;dsimp only;rw[if_neg h0,if_neg h5]
   rw[hx]
   exact yA v.kind v.g va v.ls.length vc v.e ⟨v.s.toArray⟩ aa v.arr.length ac oa v.obj.length oc k.kind k.g ka k.ls.length kc k.e ⟨k.s.toArray⟩ kaa k.arr.length kac koa k.obj.length koc w _ h0 h5 (CR 2 hs) (hnull 9)
 rw[if_neg k3] at hd
 rcases EH k4 k3 with hs | hs
 ·rw[if_neg (by omega)] at hd
  rw[hd]
  exact yx v.kind v.g va v.ls.length vc v.e ⟨v.s.toArray⟩ aa v.arr.length ac oa v.obj.length oc k.kind k.g ka k.ls.length kc k.e ⟨k.s.toArray⟩ kaa k.arr.length kac koa k.obj.length koc w _ (CR 0 hs) (hnull 9)
 rw[if_pos hs] at hd
 rw[hd]
 have CS2:=CS hs
 generalize (getO startK k.obj).getD .null=ja at *
 generalize (getO endK k.obj).getD .null=jb at *
 by_cases h0:v.kind=0
 ·have hx:takeS v (.slc ja jb)=(v,0):=by unfold takeS;dsimp only;rw[if_pos h0]
  rw[hx]
  exact rX v.kind v.g va v.ls.length vc v.e ⟨v.s.toArray⟩ aa v.arr.length ac oa v.obj.length oc k.kind k.g ka k.ls.length kc k.e ⟨k.s.toArray⟩ kaa k.arr.length kac koa k.obj.length koc w _ h0 (CR 3 hs) (fun W hb=>bu rv0 hb (by omega))
 have hsl12:∀n,(slice12 ja jb n).1≤(slice12 ja jb n).2.1∧(slice12 ja jb n).2.1≤n∧(slice12 ja jb n).2.2=(boundsJ ja jb n).2.2∧((boundsJ ja jb n).2.2=0→slice12 ja jb n=boundsJ ja jb n):=by
  intro n
  have:=dV ja jb n
  unfold slice12
  split
  ·exact⟨by simp,by simp,rfl,fun h=>absurd h ‹_›⟩
  ·exact⟨this.1,this.2,rfl,fun _=>rfl⟩
 by_cases h5:v.kind=5
 ·obtain⟨g1,g2,g3,g4⟩:=hsl12 v.arr.length
  refine yD v.kind v.g va v.ls.length vc v.e ⟨v.s.toArray⟩ aa v.arr.length ac oa v.obj.length oc k.kind k.g ka k.ls.length kc k.e ⟨k.s.toArray⟩ kaa k.arr.length kac koa k.obj.length koc (slice12 ja jb v.arr.length).1 (slice12 ja jb v.arr.length).2.1 (slice12 ja jb v.arr.length).2.2 w _ h5 P.ac g1 g2 (CR 3 hs) (CS2 _ (by omega)) ?_ ?_
  ·intro hE W hb
   rw[g3] at hE ⊢
   have hx:takeS v (.slc ja jb)=(.null,(boundsJ ja jb v.arr.length).2.2):=by
    unfold takeS
    dsimp only
    rw[if_neg h0,if_pos h5,if_pos hE]
   rw[hx]
   exact hnull _ W hb
  ·intro hE W hb
   rw[g3] at hE
   have g5:=g4 hE
   rw[g5] at g1 g2 ⊢
   have hx:takeS v (.slc ja jb)=(arrJ ((v.arr.take (boundsJ ja jb v.arr.length).2.1).drop (boundsJ ja jb v.arr.length).1),0):=by
    unfold takeS
    dsimp only
    rw[if_neg h0,if_pos h5,if_neg (by omega)]
   rw[hx]
   have hlen:((v.arr.take (boundsJ ja jb v.arr.length).2.1).drop (boundsJ ja jb v.arr.length).1).length=(boundsJ ja jb v.arr.length).2.1-(boundsJ ja jb v.arr.length).1:=by rw[List.length_drop,List.length_take];omega
   have h2:=jI (A:=A) (c:=ac-(boundsJ ja jb v.arr.length).1) (EI (F:=(boundsJ ja jb v.arr.length).1) (T:=(boundsJ ja jb v.arr.length).2.1) P.arr P.ac.1) (by rw[hlen];have:=P.ac;omega)
   rw[hlen] at h2
   exact bu h2 hb (by omega)
 by_cases h4:v.kind=4
 ·obtain⟨g1,g2,g3,g4⟩:=hsl12 (pts v.s).length
  have hpl:=mi v.s.length v.s (Nat.le_refl _)
  obtain⟨ps,hp,he⟩:=oq (dU hv h4)
  have hpe:=ou ps v.s hp he
  refine vT v.kind v.g va v.ls.length vc v.e ⟨v.s.toArray⟩ aa v.arr.length ac oa v.obj.length oc k.kind k.g ka k.ls.length kc k.e ⟨k.s.toArray⟩ kaa k.arr.length kac koa k.obj.length koc (pts v.s).length (slice12 ja jb (pts v.s).length).1 (slice12 ja jb (pts v.s).length).2.1 (slice12 ja jb (pts v.s).length).2.2
   ⟨(u8L (encs (((pts v.s).take (slice12 ja jb (pts v.s).length).2.1).drop (slice12 ja jb (pts v.s).length).1))).toArray⟩ (fun W a=>Row W a (i64s (pts v.s))) w _ h4 g1 g2 (fun W W' a h hb=>h.below hb) (CR 3 hs) ?_ (CS2 _ (by omega)) ?_ ?_ ?_
  ·intro W hb
   rw[hpe]
   refine (rY v.s ps W (by omega) hp he).mono ?_
   rintro e w' ⟨a,cap,rfl,hb',ho⟩
   refine⟨a,cap,rfl,aN ho,?_,hb'⟩
   obtain⟨_,hh | ⟨g,c2,cur,hv2,_,_,hnc,hcm,_⟩⟩:=ho
   ·obtain⟨hv2,hz⟩:=hh
    injection hv2 with _ e2 e3
    subst e3
    rw[hz]
    omega
   ·injection hv2 with _ e2 e3
    subst e3
    exact⟨hnc,by unfold maxLen at hcm;exact hcm⟩
  ·intro hE W a c hnc hr hb
   have hlen:(((pts v.s).take (slice12 ja jb (pts v.s).length).2.1).drop (slice12 ja jb (pts v.s).length).1).length=(slice12 ja jb (pts v.s).length).2.1-(slice12 ja jb (pts v.s).length).1:=by rw[List.length_drop,List.length_take];omega
   have:=Dl (((pts v.s).take (slice12 ja jb (pts v.s).length).2.1).drop (slice12 ja jb (pts v.s).length).1) (if c=(slice12 ja jb (pts v.s).length).1 then a else a.map (fun x=>x.add (slice12 ja jb (pts v.s).length).1)) (c-(slice12 ja jb (pts v.s).length).1) W ?_ ?_ (by rw[hlen];omega)
   ·rw[hlen] at this
    exact this
   ·intro j x hx
    rw[show i64s (((pts v.s).take (slice12 ja jb (pts v.s).length).2.1).drop (slice12 ja jb (pts v.s).length).1)=((i64s (pts v.s)).take (slice12 ja jb (pts v.s).length).2.1).drop (slice12 ja jb (pts v.s).length).1 by unfold i64s;rw[List.map_drop,List.map_take]] at hx
    have hjl:=(List.getElem?_eq_some_iff.1 hx).1
    rw[List.length_drop,List.length_take] at hjl
    rw[List.getElem?_drop,List.getElem?_take] at hx
    split at hx
    ·obtain⟨b,off,rfl,hcell⟩:=hr _ _ hx
     rw[if_neg (by omega)]
     exact⟨b,off+(slice12 ja jb (pts v.s).length).1,by simp[Addr.add],by rw[Nat.add_assoc];exact hcell⟩
    ·cases hx
   ·intro p hp'
    exact rM _ _ (Nat.le_refl _) p (List.mem_of_mem_take (List.mem_of_mem_drop hp'))
  ·intro hE W hb
   rw[g3] at hE ⊢
   have hx:takeS v (.slc ja jb)=(.null,(boundsJ ja jb (pts v.s).length).2.2):=by
    unfold takeS
    dsimp only
    rw[if_neg h0,if_neg h5,if_pos h4,if_pos hE]
   rw[hx]
   exact hnull _ W hb
  ·intro hE W hb
   rw[g3] at hE
   rw[g4 hE]
   have hx:takeS v (.slc ja jb)=(textJ2 (u8L (encs (((pts v.s).take (boundsJ ja jb (pts v.s).length).2.1).drop (boundsJ ja jb (pts v.s).length).1))),0):=by
    unfold takeS
    dsimp only
    rw[if_neg h0,if_neg h5,if_pos h4,if_neg (by omega)]
   rw[hx]
   have hsm:(u8L (encs (((pts v.s).take (boundsJ ja jb (pts v.s).length).2.1).drop (boundsJ ja jb (pts v.s).length).1))).length≤1048576:=by
    have:=(dS sv (.slc ja jb) (fun h4=>dU hv h4)).sl
    rw[hx] at this
    exact this
   exact bu (nH (Nat.le_trans hsm (by omega))) hb (by omega)
 ·have hx:takeS v (.slc ja jb)=(.null,9):=by unfold takeS;dsimp only;rw[if_neg h0,if_neg h5,if_neg h4]
  rw[hx]
  exact yB v.kind v.g va v.ls.length vc v.e ⟨v.s.toArray⟩ aa v.arr.length ac oa v.obj.length oc k.kind k.g ka k.ls.length kc k.e ⟨k.s.toArray⟩ kaa k.arr.length kac koa k.obj.length koc w _ h0 h5 h4 (CR 3 hs) (hnull 9)
open Classical in
theorem Jk (l:List JV)(a:Option Addr)(c:Nat)(w:World)(hl:RdA w a l)(hn:l.length≤1152921504606846976) :
  Calls Tryz.prog 31 #[.slice a l.length c] w fun e w'=>e=.returned (.bool (decide (∀x ∈ l,mayJ 200 x=true)))∧Below w.heap.size w w':=by
 have hM:=hid fun (x:JV) (cs:List Value) (W:World) (_hb:Below w.heap.size w W) (r:RdV W cs x)=>qw x cs W r
 obtain⟨n,hnd⟩:∃n,n=l.length:=⟨_,rfl⟩
 have hnB:=hid hnd
 rw[←hnd] at hn ⊢
 have hLd:=hid hl
 obtain⟨R,hR⟩:∃R,R=decide (∀x ∈ l,mayJ 200 x=true):=⟨_,rfl⟩
 have hno:=hid (show (¬ ∀x ∈ l,mayJ 200 x=true)→R=false from fun h=>by rw[hR];exact decide_eq_false h)
 have hyes:=hid (show (∀x ∈ l,mayJ 200 x=true)→R=true from fun h=>by rw[hR];exact decide_eq_true h)
 rw[←hR]
 clear hR hl hnd
 go_enter Tryz.func31,Tryz.ntmps31
 go_upto_region 2 with fail
 go_loopw [3] (fun v9 wr=>∃k:Nat,k≤n∧v9=.int .i64 k∧Hid (∀x ∈ l.take k,mayJ 200 x=true)∧Hid (Below w.heap.size w wr)) (fun v9 _=>n-(intOf v9).toNat)
 case atStart=>exact⟨0,Nat.zero_le _,rfl,hid (by simp),hid (Below.refl _ _)⟩
 case round =>
  obtain⟨k,hk,rfl,hA,hb⟩:=hrel
  by_cases hlt:k<n
  ·have hlt2:(k:Int)<(n:Int):=by omega
   have hk1:k<l.length:=by have:=hnB.out;omega
   obtain⟨b,off,a1,c1,aa1,ac1,oa1,oc1,rfl,P1,C1⟩:=(hLd.out.below hb.out).at hk1
   have rd:=P1.rd
   clear P1
   unfold Cells7 strV at C1
   obtain⟨x,hx⟩:∃x,x=l[k]:=⟨_,rfl⟩
   rw[←hx] at C1 rd
   have hM2:=hid (fun W' (hb':Below wr.heap.size wr W')=>hM.out x _ W' (ae hb.out hb') (rd.stay hb'))
   unfold valCs strV at hM2
   obtain⟨C10,C11,C12,C13,C14,C15,C16⟩:=C1
   generalize (⟨x.s.toArray⟩:ByteArray)=sb at hM2 C14
   have hl1:=au C10
   obtain⟨d,hd⟩:∃d,d=mayJ 200 x:=⟨_,rfl⟩
   rw[←hd] at hM2
   have hxd:=hid (And.intro hx hd)
   have hst:=hid (show l.take (k+1)=l.take k ++ [x] by rw[List.take_succ_eq_append_getElem hk1,hx])
   clear hx hd rd
   cases d with
   | true =>
    have hA2:Hid (∀y ∈ l.take (k+1),mayJ 200 y=true):=by
     intro y hy
     rw[hst.out] at hy
     rcases List.mem_append.1 hy with h | h
     ·exact hA.out y h
     ·rw[List.mem_singleton.1 h];exact hxd.out.2.symm
    clear hA hst hxd hno hyes
    go_wp2_with fail
    refine (hM2.out _ (Below.refl _ _)).mono ?_
    rintro en w1 ⟨rfl,hb1⟩
    have hb2:=hid (ae hb.out (ae (Below.refl _ _) hb1))
    clear hb1 C10 C11 C12 C13 C14 C15 C16
    go_wp2_with fail
    go_roundw
    case rel=>exact⟨k+1,by omega,by go_num,hA2,hb2⟩
    case measure=>simp[intOf];omega
   | false =>
    have hnot:¬ ∀y ∈ l,mayJ 200 y=true:=by
     intro h
     have:=h x (by rw[hxd.out.1];exact List.getElem_mem hk1)
     rw[←hxd.out.2] at this
     cases this
    obtain rfl:=hno.out hnot
    clear hA hst hxd hno hyes hnot
    go_wp2_with fail
    refine (hM2.out _ (Below.refl _ _)).mono ?_
    rintro en w1 ⟨rfl,hb1⟩
    have hb2:=hid (ae hb.out (ae (Below.refl _ _) hb1))
    clear hb1 C10 C11 C12 C13 C14 C15 C16
    go_wp2_with fail
    go_ret
    exact⟨rfl,hb2.out⟩
  ·obtain rfl:k=n:=by omega
   have hlt2:¬ (k:Int)<(k:Int):=by omega
   have hall:∀x ∈ l,mayJ 200 x=true:=by
    have:=hA.out
    rw[List.take_of_length_le (by have:=hnB.out;omega)] at this
    exact this
   obtain rfl:=hyes.out hall
   clear hA hall hyes hno hM hLd
   go_wp2_with fail
   go_ret
   exact⟨rfl,hb.out⟩
end Go.Proofs.YtcgbmmalfbpjaaaGreatDoor
