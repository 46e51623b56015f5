/-  -/
import Derived.Test.YtcgbmmalfbpjaaaGreatDoorMp
import Derived.Test.YtcgbmmalfbpjaaaGreatDoorMq
set_option maxRecDepth 100000
set_option maxHeartbeats 16000000
namespace Go.Proofs.YtcgbmmalfbpjaaaGreatDoor
open Go.RowKit
def setL (k:List UInt8) (x:JV) (l:List Fld):List Fld:=l.map fun p=>if p.1=k then (k,x) else p
theorem Jm {k:List UInt8}{x:JV}:∀{l:List Fld},hasO k l=false→setL k x l=l
 | [],_=>rfl
 | p :: l,h=>by
  simp only[hasO,List.any_cons,Bool.or_eq_false_iff,decide_eq_false_iff_not] at h
  show (if p.1=k then (k,x) else p) :: setL k x l=p :: l
  rw[if_neg h.1,Jm (l:=l) h.2]
theorem Jw {k:List UInt8}{x:JV}{l:List Fld}(h:hasO k l=true):setO k x l=setL k x l:=by unfold setO;rw[if_pos h];rfl
theorem Jy {k:List UInt8}{x:JV}{l:List Fld}(h:hasO k l=false):setO k x l=setL k x l ++ [(k,x)]:=by unfold setO;rw[if_neg (by rw[h];decide),Jm h]
theorem Jz (k:List UInt8)(x:JV)(l m:List Fld):setL k x (l ++ m)=setL k x l ++ setL k x m:=by unfold setL;exact List.map_append
theorem JA (k:List UInt8)(l m:List Fld):hasO k (l ++ m)=(hasO k l || hasO k m):=by unfold hasO;exact List.any_append
theorem Kr {v x:JV}{k:List UInt8}(hv:mayJ 200 v=true)(hx:mayJ 200 x=true)(hk:soundB k=true):mayJ 200 (objV (setO k x v.obj))=!decide (depthJ 200 x=200):=by
 by_cases hd:depthJ 200 x=200
 ·rw[decide_eq_true hd]
  show _=false
  rw[Bool.eq_false_iff]
  intro h
  have h1:=(mr.1 h).1 (k,x) (zS (IK k x v.obj))
  have:=kW 199 200 x h1.2 (by omega)
  omega
 ·rw[decide_eq_false hd]
  have h0:=kW 200 200 x hx (Nat.le_refl _)
  exact FZ hv (jX 199 200 x hx (by omega) (by omega)) hk
theorem OutRow.rd {w W:World}{O:Nat}{V:Value}{L:List Fld}(h:OutRow w W O V L)(hL:L.length≤9223372036854775807):∃(oa:Option Addr) (oc:Nat),V=.slice oa L.length oc∧RdV W (valCs 6 false none 0 0 0 [] none 0 0 oa L.length oc) (objV L):=by
 obtain⟨oa,oc,e,hro,h1,h2⟩:=h.shut hL
 refine⟨oa,oc,e,?_⟩
 refine PartsV.rd (v:=objV L) (a:=none) (c:=0) (aa:=none) (ac:=0) (oa:=oa) (oc:=oc) ⟨rfl,(show I64 6 by unfold I64;decide),(show I64 0 by unfold I64;decide),by show (0:Nat)≤_;omega,⟨Nat.le_refl _,by omega⟩,⟨h1,h2⟩,⟨Nat.le_refl _,by omega⟩,⟨Row.nil _ _,fun x hx=>by cases hx⟩,fun j y hy=>by simp[objV,JV.arr] at hy,?_⟩
 intro i x hx
 obtain⟨cs,h3,h4,h5⟩:=hro i x hx
 exact⟨cs,h3,h4,h5.stay h.bel⟩
theorem Jn {w:World}{N:Nat}{x0 x1 x2 x3 x4 x5 x6 x7:Value}{T:TypeId}(h:w.heap[N]? = some (.cells #[x0,x1,x2,x3,x4,x5,x6,x7] T (0,0))) :
  (w.cell? ⟨N,0,none⟩=some x0∧w.cell? ⟨N,1,none⟩=some x1∧w.cell? ⟨N,2,none⟩=some x2∧w.cell? ⟨N,3,none⟩=some x3∧w.cell? ⟨N,4,none⟩=some x4∧w.cell? ⟨N,5,none⟩=some x5∧w.cell? ⟨N,6,none⟩=some x6∧w.cell? ⟨N,7,none⟩=some x7) ∧
  (w.frozen? ⟨N,0,none⟩=false∧w.frozen? ⟨N,1,none⟩=false∧w.frozen? ⟨N,2,none⟩=false∧w.frozen? ⟨N,3,none⟩=false∧w.frozen? ⟨N,4,none⟩=false∧w.frozen? ⟨N,5,none⟩=false∧w.frozen? ⟨N,6,none⟩=false∧w.frozen? ⟨N,7,none⟩=false) :=
 ⟨⟨az h 0,az h 1,az h 2,az h 3,az h 4,az h 5,az h 6,az h 7⟩,aX h 0,aX h 1,aX h 2,aX h 3,aX h 4,aX h 5,aX h 6,aX h 7⟩
theorem KG {w:World}{N:Nat}{x0 x1 x2 x3 x4 x5 x6 x7 y1 y2 y3 y4 y5 y6 y7:Value}{T:TypeId}(h:w.heap[N]? = some (.cells #[x0,x1,x2,x3,x4,x5,x6,x7] T (0,0))):(w.setCells N 1 [y1,y2,y3,y4,y5,y6,y7]).heap[N]? = some (.cells #[x0,y1,y2,y3,y4,y5,y6,y7] T (0,0)):=by
 simp[World.setCells,World.setCell,Array.getElem?_modify,h]
theorem IB {N M:Nat}(hn:M≠N):∀(vs:List Value) (o:Nat) (w:World),(w.setCells N o vs).heap[M]? = w.heap[M]?
 | [],_,_=>rfl
 | v :: vs,o,w=>by
  show ((w.setCell ⟨N,o,none⟩ v).setCells N (o+1) vs).heap[M]? = _
  rw[IB hn vs (o+1),Below.heap_setCell _ _ _ _ hn]
theorem IP {base:Nat}{e:TypeId}{size:Nat}{v:Value}{n:Nat}{xs:List Value}{w:World}{N:Nat}(h:w.ownsRow base e size v n xs)(hN:some N≠v.ownBlock)(o:Nat)(vs:List Value):(w.setCells N o vs).ownsRow base e size v n xs:=by
 refine⟨h.1,?_⟩
 rcases h.2 with hn | ⟨g,cap,cur,rfl,hb,hg,rest⟩
 ·exact .inl hn
 ·refine .inr ⟨g,cap,cur,rfl,hb,?_,rest⟩
  rw[IB (fun e=>hN (by rw[←e];rfl))]
  exact hg
/-- The refusals. -/
theorem JB (k:Int)(g g':Bool)(a a':Option Addr)(l l' c c':Nat)(k':Int)(e e':Int)(s s':List UInt8)(aa aa':Option Addr)(an an' ac ac':Nat)(oa oa':Option Addr)(on on' oc oc':Nat)(key:List UInt8)(w:World)(m1 m2 sd:Bool)(err:Nat)
  (h1:∀W,Below w.heap.size w W→Calls Tryz.prog 28 #[valV k g a l c e s aa an ac oa on oc] W fun en w'=>en=.returned (.bool m1)∧Below W.heap.size W w')
  (h2:∀W,Below w.heap.size w W→Calls Tryz.prog 28 #[valV k' g' a' l' c' e' s' aa' an' ac' oa' on' oc'] W fun en w'=>en=.returned (.bool m2)∧Below W.heap.size W w')
  (h3:∀W,Below w.heap.size w W→Calls Tryz.prog 83 #[strV key] W fun en w'=>en=.returned (.bool sd)∧Below W.heap.size W w')
  (hx:(m1=false∧err=1)∨(m1=true∧m2=false∧err=1)∨(m1=true∧m2=true∧sd=false∧err=1)∨(m1=true∧m2=true∧sd=true∧k≠6∧k≠0∧err=9)) :
  Calls Tryz.prog 92 #[valV k g a l c e s aa an ac oa on oc,strV key,valV k' g' a' l' c' e' s' aa' an' ac' oa' on' oc'] w (OutV w .null err):=by
 unfold valV strV at *
 generalize (⟨s.toArray⟩:ByteArray)=sb at *
 generalize (⟨s'.toArray⟩:ByteArray)=sb' at *
 generalize (⟨key.toArray⟩:ByteArray)=kb at *
 obtain⟨W,hW⟩:∃W,W=((w.alloc (.cells #[.int .i64 k,.bool g,.slice a l c,.int .i64 e,.string sb,.slice aa an ac,.slice oa on oc] 28)).alloc (.cells #[.int .i64 k',.bool g',.slice a' l' c',.int .i64 e',.string sb',.slice aa' an' ac',.slice oa' on' oc'] 28)).alloc (.cells #[.int .i64 0,.bool false,.slice none 0 0,.int .i64 0,.string ⟨#[]⟩,.slice none 0 0,.slice none 0 0] 28):=⟨_,rfl⟩
 have hB:=hid (show Below w.heap.size w W by rw[hW];exact (aQ _ _ _).alloc (by simp;omega) _)
 have hX:Hid (BoxV W w.heap.size k g a l c e sb aa an ac oa on oc):=by
  rw[hW]
  exact⟨by simp[go_sem],by simp[go_sem],by simp[go_sem],by simp[go_sem],by simp[go_sem],by simp[go_sem],by simp[go_sem]⟩
 have hY:Hid (BoxV W (w.heap.size+1) k' g' a' l' c' e' sb' aa' an' ac' oa' on' oc'):=by
  rw[hW]
  exact⟨by simp[go_sem],by simp[go_sem],by simp[go_sem],by simp[go_sem],by simp[go_sem],by simp[go_sem],by simp[go_sem]⟩
 have hZ0:(W.heap[w.heap.size+1+1]? = some (.cells #[.int .i64 0,.bool false,.slice none 0 0,.int .i64 0,.string ⟨#[]⟩,.slice none 0 0,.slice none 0 0] 28)):=by
  rw[hW]
  have:=ak ((w.alloc (.cells #[.int .i64 k,.bool g,.slice a l c,.int .i64 e,.string sb,.slice aa an ac,.slice oa on oc] 28)).alloc (.cells #[.int .i64 k',.bool g',.slice a' l' c',.int .i64 e',.string sb',.slice aa' an' ac',.slice oa' on' oc'] 28)) (.cells #[.int .i64 0,.bool false,.slice none 0 0,.int .i64 0,.string ⟨#[]⟩,.slice none 0 0,.slice none 0 0] 28)
  simpa[Nat.add_assoc] using this
 have hZ:=hid hZ0
 clear hZ0
 replace hW:=hid hW.symm
 replace h1:=hid h1
 replace h2:=hid h2
 replace h3:=hid h3
 have hZw:Hid (w.heap.size≤w.heap.size+1+1):=by show _≤_;omega
 rcases hx with ⟨rfl,rfl⟩ | ⟨rfl,rfl,rfl⟩ | ⟨rfl,rfl,rfl,rfl⟩ | ⟨rfl,rfl,rfl,hk6,hk0,rfl⟩
 ·go_enter Tryz.func92,Tryz.ntmps92
  go_wp2_with fail
  rw[hW.out]
  refine (h1.out _ hB.out).mono ?_
  rintro en w1 ⟨rfl,hb⟩
  replace hB:=hid (ae hB.out hb)
  replace hX:=hid (hX.out.stay hb)
  replace hY:=hid (hY.out.stay hb)
  replace hZ:=hid (af hZ.out hb)
  clear hb
  obtain⟨p0,p1,p2,p3,p4,p5,p6⟩:=hX.out
  obtain⟨q0,q1,q2,q3,q4,q5,q6⟩:=hY.out
  clear hW
  obtain⟨⟨r0,r1,r2,r3,r4,r5,r6⟩,s0,s1,s2,s3,s4,s5,s6⟩:=ag hZ.out
  go_wp2_with fail
  refine bodyPost_ret (v:=.tuple #[.agg #[.int .i64 0,.bool false,.slice none 0 0,.int .i64 0,.string ⟨#[]⟩,.slice none 0 0,.slice none 0 0],.int .i64 1]) (by simp[results,Tryz.results92,go_sem,r0,r1,r2,r3,r4,r5,r6]) rfl ?_
  exact dD (err:=1) (zs:=[.int .i64 0,.bool false,.slice none 0 0,.int .i64 0,.string ⟨#[]⟩,.slice none 0 0,.slice none 0 0]) hB.out hZw.out
 ·go_enter Tryz.func92,Tryz.ntmps92
  go_wp2_with fail
  rw[hW.out]
  refine (h1.out _ hB.out).mono ?_
  rintro en w1 ⟨rfl,hb⟩
  replace hB:=hid (ae hB.out hb)
  replace hX:=hid (hX.out.stay hb)
  replace hY:=hid (hY.out.stay hb)
  replace hZ:=hid (af hZ.out hb)
  clear hb
  obtain⟨p0,p1,p2,p3,p4,p5,p6⟩:=hX.out
  obtain⟨q0,q1,q2,q3,q4,q5,q6⟩:=hY.out
  go_wp2_with fail
  refine (h2.out _ hB.out).mono ?_
  rintro en w1 ⟨rfl,hb⟩
  replace hB:=hid (ae hB.out hb)
  replace hX:=hid (hX.out.stay hb)
  replace hY:=hid (hY.out.stay hb)
  replace hZ:=hid (af hZ.out hb)
  clear hb
  clear p0 p1 p2 p3 p4 p5 p6 q0 q1 q2 q3 q4 q5 q6
  obtain⟨p0,p1,p2,p3,p4,p5,p6⟩:=hX.out
  obtain⟨q0,q1,q2,q3,q4,q5,q6⟩:=hY.out
  clear hW
  obtain⟨⟨r0,r1,r2,r3,r4,r5,r6⟩,s0,s1,s2,s3,s4,s5,s6⟩:=ag hZ.out
  go_wp2_with fail
  refine bodyPost_ret (v:=.tuple #[.agg #[.int .i64 0,.bool false,.slice none 0 0,.int .i64 0,.string ⟨#[]⟩,.slice none 0 0,.slice none 0 0],.int .i64 1]) (by simp[results,Tryz.results92,go_sem,r0,r1,r2,r3,r4,r5,r6]) rfl ?_
  exact dD (err:=1) (zs:=[.int .i64 0,.bool false,.slice none 0 0,.int .i64 0,.string ⟨#[]⟩,.slice none 0 0,.slice none 0 0]) hB.out hZw.out
 ·go_enter Tryz.func92,Tryz.ntmps92
  go_wp2_with fail
  rw[hW.out]
  refine (h1.out _ hB.out).mono ?_
  rintro en w1 ⟨rfl,hb⟩
  replace hB:=hid (ae hB.out hb)
  replace hX:=hid (hX.out.stay hb)
  replace hY:=hid (hY.out.stay hb)
  replace hZ:=hid (af hZ.out hb)
  clear hb
  obtain⟨p0,p1,p2,p3,p4,p5,p6⟩:=hX.out
  obtain⟨q0,q1,q2,q3,q4,q5,q6⟩:=hY.out
  go_wp2_with fail
  refine (h2.out _ hB.out).mono ?_
  rintro en w1 ⟨rfl,hb⟩
  replace hB:=hid (ae hB.out hb)
  replace hX:=hid (hX.out.stay hb)
  replace hY:=hid (hY.out.stay hb)
  replace hZ:=hid (af hZ.out hb)
  clear hb
  clear p0 p1 p2 p3 p4 p5 p6 q0 q1 q2 q3 q4 q5 q6
  obtain⟨p0,p1,p2,p3,p4,p5,p6⟩:=hX.out
  obtain⟨q0,q1,q2,q3,q4,q5,q6⟩:=hY.out
  go_wp2_with fail
  refine (h3.out _ hB.out).mono ?_
  rintro en w1 ⟨rfl,hb⟩
  replace hB:=hid (ae hB.out hb)
  replace hX:=hid (hX.out.stay hb)
  replace hY:=hid (hY.out.stay hb)
  replace hZ:=hid (af hZ.out hb)
  clear hb
  clear p0 p1 p2 p3 p4 p5 p6 q0 q1 q2 q3 q4 q5 q6
  obtain⟨p0,p1,p2,p3,p4,p5,p6⟩:=hX.out
  obtain⟨q0,q1,q2,q3,q4,q5,q6⟩:=hY.out
  clear hW
  obtain⟨⟨r0,r1,r2,r3,r4,r5,r6⟩,s0,s1,s2,s3,s4,s5,s6⟩:=ag hZ.out
  go_wp2_with fail
  refine bodyPost_ret (v:=.tuple #[.agg #[.int .i64 0,.bool false,.slice none 0 0,.int .i64 0,.string ⟨#[]⟩,.slice none 0 0,.slice none 0 0],.int .i64 1]) (by simp[results,Tryz.results92,go_sem,r0,r1,r2,r3,r4,r5,r6]) rfl ?_
  exact dD (err:=1) (zs:=[.int .i64 0,.bool false,.slice none 0 0,.int .i64 0,.string ⟨#[]⟩,.slice none 0 0,.slice none 0 0]) hB.out hZw.out
 ·have f6:(k != 6)=true:=by rw[bne_iff_ne];exact hk6
  have f0:(k != 0)=true:=by rw[bne_iff_ne];exact hk0
  clear hk6 hk0
  go_enter Tryz.func92,Tryz.ntmps92
  go_wp2_with fail
  rw[hW.out]
  refine (h1.out _ hB.out).mono ?_
  rintro en w1 ⟨rfl,hb⟩
  replace hB:=hid (ae hB.out hb)
  replace hX:=hid (hX.out.stay hb)
  replace hY:=hid (hY.out.stay hb)
  replace hZ:=hid (af hZ.out hb)
  clear hb
  obtain⟨p0,p1,p2,p3,p4,p5,p6⟩:=hX.out
  obtain⟨q0,q1,q2,q3,q4,q5,q6⟩:=hY.out
  go_wp2_with fail
  refine (h2.out _ hB.out).mono ?_
  rintro en w1 ⟨rfl,hb⟩
  replace hB:=hid (ae hB.out hb)
  replace hX:=hid (hX.out.stay hb)
  replace hY:=hid (hY.out.stay hb)
  replace hZ:=hid (af hZ.out hb)
  clear hb
  clear p0 p1 p2 p3 p4 p5 p6 q0 q1 q2 q3 q4 q5 q6
  obtain⟨p0,p1,p2,p3,p4,p5,p6⟩:=hX.out
  obtain⟨q0,q1,q2,q3,q4,q5,q6⟩:=hY.out
  go_wp2_with fail
  refine (h3.out _ hB.out).mono ?_
  rintro en w1 ⟨rfl,hb⟩
  replace hB:=hid (ae hB.out hb)
  replace hX:=hid (hX.out.stay hb)
  replace hY:=hid (hY.out.stay hb)
  replace hZ:=hid (af hZ.out hb)
  clear hb
  clear p0 p1 p2 p3 p4 p5 p6 q0 q1 q2 q3 q4 q5 q6
  obtain⟨p0,p1,p2,p3,p4,p5,p6⟩:=hX.out
  obtain⟨q0,q1,q2,q3,q4,q5,q6⟩:=hY.out
  clear hW
  obtain⟨⟨r0,r1,r2,r3,r4,r5,r6⟩,s0,s1,s2,s3,s4,s5,s6⟩:=ag hZ.out
  go_wp2_with fail
  refine bodyPost_ret (v:=.tuple #[.agg #[.int .i64 0,.bool false,.slice none 0 0,.int .i64 0,.string ⟨#[]⟩,.slice none 0 0,.slice none 0 0],.int .i64 9]) (by simp[results,Tryz.results92,go_sem,r0,r1,r2,r3,r4,r5,r6]) rfl ?_
  exact dD (err:=9) (zs:=[.int .i64 0,.bool false,.slice none 0 0,.int .i64 0,.string ⟨#[]⟩,.slice none 0 0,.slice none 0 0]) hB.out hZw.out
end Go.Proofs.YtcgbmmalfbpjaaaGreatDoor
