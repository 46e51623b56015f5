/-  -/
import Derived.Test.YtcgbmmalfbpjaaaGreatDoorMn
import Derived.Test.YtcgbmmalfbpjaaaGreatDoorMl
import Derived.Test.YtcgbmmalfbpjaaaGreatDoorMf
set_option maxRecDepth 100000
set_option maxHeartbeats 16000000
namespace Go.Proofs.YtcgbmmalfbpjaaaGreatDoor
open Go.RowKit
theorem bZ {w W:World}{r err:Nat}{zs:List Value}(hb:Below w.heap.size w W)(hr:w.heap.size≤r) :
  OutV w .null err (.returned (.tuple #[.agg #[.int .i64 0,.bool false,.slice none 0 0,.int .i64 0,.string ⟨#[]⟩,.slice none 0 0,.slice none 0 0],.int .i64 err])) (W.setCells r 0 zs) :=
 ⟨valCs 0 false none 0 0 0 [] none 0 0 none 0 0,rfl,dZ _,aF r hr _ _ _ hb⟩
theorem kE (key:List UInt8):∀(l:List Fld) (k:Nat),(idxO key l k=-1∧getO key l=none∧¬ hasO key l=true)∨∃(i:Nat) (h:i<l.length),idxO key l k=((k+i:Nat):Int)∧(l[i]).1=key∧getO key l=some (l[i]).2∧hasO key l=true
 | [],k=>Or.inl ⟨rfl,rfl,by simp[hasO]⟩
 | x :: l,k=>by
  by_cases h:x.1=key
  ·refine Or.inr ⟨0,by simp,?_,h,?_,?_⟩
   ·simp only[idxO];rw[if_pos h];rfl
   ·simp only[getO];rw[if_pos h];rfl
   ·simp[hasO,h]
  ·have hh:hasO key (x :: l)=hasO key l:=by simp[hasO,h]
   rcases kE key l (k+1) with ⟨e1,e2,e3⟩ | ⟨i,hi,e1,e2,e3,e4⟩
   ·refine Or.inl ⟨?_,?_,by rw[hh];exact e3⟩
    ·simp only[idxO];rw[if_neg h];exact e1
    ·simp only[getO];rw[if_neg h];exact e2
   ·refine Or.inr ⟨i+1,by simpa using hi,?_,by simpa using e2,?_,by rw[hh];exact e4⟩
    ·simp only[idxO]
     rw[if_neg h,e1]
     congr 1
     omega
    ·simp only[getO];rw[if_neg h];simpa using e3
theorem yu {key:List UInt8}{x:JV}:∀{l:List Fld} {i:Nat} (_:(l.map (·.1)).Nodup) (h:i<l.length),(l[i]).1=key→l.map (fun p=>if p.1=key then (key,x) else p)=l.set i (key,x)
 | [],i,_,h,_=>by simp at h
 | p :: l,0,hn,_,e=>by
  simp only[List.getElem_cons_zero] at e
  simp only[List.map_cons,List.nodup_cons] at hn
  rw[List.map_cons,if_pos e,List.set_cons_zero]
  congr 1
  refine (List.map_congr_left fun q hq=>?_).trans (List.map_id' l)
  rw[if_neg]
  intro h
  exact hn.1 (by rw[e,←h];exact List.mem_map_of_mem hq)
 | p :: l,i+1,hn,h,e=>by
  simp only[List.getElem_cons_succ] at e
  simp only[List.map_cons,List.nodup_cons] at hn
  have hi:i<l.length:=by simpa using h
  rw[List.map_cons,List.set_cons_succ,yu hn.2 hi e,if_neg]
  intro hp
  exact hn.1 (by rw[hp,←e];exact List.mem_map_of_mem (List.getElem_mem hi))
theorem Bd {w:World}{base:Nat}{e:TypeId}{size:Nat}{v:Value}{n:Nat}{xs:List Value}(h:w.ownsRow base e size v n xs){p:Nat}{cs:Array Value}{T:TypeId}{fz:Nat × Nat}(hp:w.heap[p]? = some (.cells cs T fz))(hT:T≠e)(o:Nat)(u:Value):(w.setCell ⟨p,o,none⟩ u).ownsRow base e size v n xs:=by
 refine⟨h.1,?_⟩
 rcases h.2 with hn | ⟨g,cap,cur,hv,hb,hg,rest⟩
 ·exact .inl hn
 ·refine .inr ⟨g,cap,cur,hv,hb,?_,rest⟩
  have hne:g≠p:=by
   rintro rfl
   rw[hg] at hp
   simp only[Option.some.injEq,Obj.cells.injEq] at hp
   exact hT hp.2.1.symm
  rw[Below.heap_setCell _ _ _ _ hne]
  exact hg
theorem jW {w:World}{base:Nat}{e:TypeId}{size:Nat}{v:Value}{n:Nat}{xs:List Value}(h:w.ownsRow base e size v n xs){p:Nat}{cs:Array Value}{T:TypeId}{fz:Nat × Nat}(hp:w.heap[p]? = some (.cells cs T fz))(hT:T≠e):some p≠v.ownBlock:=by
 rcases h.2 with ⟨rfl,_⟩ | ⟨g,cap,cur,rfl,_,hg,_⟩
 ·intro h;cases h
 ·intro hh
  have:p=g:=by
   have hh:some p=some g:=hh
   injection hh
  subst this
  rw[hg] at hp
  simp only[Option.some.injEq,Obj.cells.injEq] at hp
  exact hT hp.2.1.symm
theorem gG {w w':World}{base:Nat}{e:TypeId}{size:Nat}{v:Value}{n:Nat}{xs:List Value}(h:w.ownsRow base e size v n xs)(hb:Below w.heap.size w w'):w'.ownsRow base e size v n xs:=by
 refine⟨h.1,?_⟩
 rcases h.2 with hn | ⟨g,cap,cur,hv,hbb,hg,rest⟩
 ·exact .inl hn
 ·exact .inr ⟨g,cap,cur,hv,hbb,af hg hb,rest⟩
theorem DU {w:World}{N:Nat}{x0 x1 x2 x3 x4 x5 x6:Value}{T:TypeId}(h:w.heap[N]? = some (.cells #[x0,x1,x2,x3,x4,x5,x6] T (0,0)))(u:Value):(w.setCell ⟨N,6,none⟩ u).heap[N]? = some (.cells #[x0,x1,x2,x3,x4,x5,u] T (0,0)):=by
 simp[World.setCell,Array.getElem?_modify,h]
theorem Bc {w:World}{b b':Nat}{e:TypeId}{size:Nat}{v:Value}{n:Nat}{xs:List Value}(h:w.ownsRow b e size v n xs)(hb:b'≤b):w.ownsRow b' e size v n xs:=by
 refine⟨h.1,?_⟩
 rcases h.2 with hn | ⟨g,cap,cur,hv,hbb,rest⟩
 ·exact .inl hn
 ·exact .inr ⟨g,cap,cur,hv,Nat.le_trans hb hbb,rest⟩
theorem qA {w:World}{base:Nat}{e:TypeId}{size:Nat}{v:Value}{n:Nat}{xs:List Value}(h:w.ownsRow base e size v (n+1) xs):∃g cap,v=.slice (some ⟨g,0,none⟩) (n+1) cap:=by
 rcases h.2 with ⟨_,h0⟩ | ⟨g,cap,cur,hv,_⟩
 ·cases h0
 ·exact⟨g,cap,hv⟩
theorem eU (k:Int)(g:Bool)(a:Option Addr)(l c:Nat)(e:Int)(s:List UInt8)(aa:Option Addr)(an ac:Nat)(oa:Option Addr)(on oc:Nat)(key:List UInt8)(w:World)(m1 sd:Bool)(err:Nat)
  (h1:∀W,Below w.heap.size w W→Calls Tryz.prog 20 #[valV k g a l c e s aa an ac oa on oc] W fun en w'=>en=.returned (.bool m1)∧Below W.heap.size W w')
  (h2:∀W,Below w.heap.size w W→Calls Tryz.prog 76 #[strV key] W fun en w'=>en=.returned (.bool sd)∧Below W.heap.size W w')
  (hx:((m1=false∨sd=false)∧err=1)∨(m1=true∧sd=true∧k≠6∧k≠0∧err=9)∨(m1=true∧sd=true∧k=0∧err=0)) :
  Calls Tryz.prog 103 #[valV k g a l c e s aa an ac oa on oc,strV key] w (OutV w .null err):=by
 unfold valV strV at *
 generalize (⟨s.toArray⟩:ByteArray)=sb at *
 generalize (⟨key.toArray⟩:ByteArray)=kb at *
 obtain⟨W,hW⟩:∃W,W=(w.alloc (.cells #[.int .i64 k,.bool g,.slice a l c,.int .i64 e,.string sb,.slice aa an ac,.slice oa on oc] 28)).alloc (.cells #[.int .i64 0,.bool false,.slice none 0 0,.int .i64 0,.string ⟨#[]⟩,.slice none 0 0,.slice none 0 0] 28):=⟨_,rfl⟩
 have HB:=hid (show Below w.heap.size w W by rw[hW];exact aW _ _ _)
 have HX:Hid (BoxV W w.heap.size k g a l c e sb aa an ac oa on oc):=by
  rw[hW]
  exact⟨by simp[go_sem],by simp[go_sem],by simp[go_sem],by simp[go_sem],by simp[go_sem],by simp[go_sem],by simp[go_sem]⟩
 have HZ:Hid (W.heap[w.heap.size+1]? = some (.cells #[.int .i64 0,.bool false,.slice none 0 0,.int .i64 0,.string ⟨#[]⟩,.slice none 0 0,.slice none 0 0] 28)):=by
  rw[hW]
  exact aB w _ _
 replace hW:=hid hW.symm
 replace h1:=hid h1
 replace h2:=hid h2
 have hr1:Hid (w.heap.size≤w.heap.size+1):=Nat.le_succ _
 rcases hx with ⟨hm,rfl⟩ | ⟨rfl,rfl,hk6,hk0,rfl⟩ | ⟨rfl,rfl,rfl,rfl⟩
 ·have hOut:=hid fun W' (hb:Below w.heap.size w W')=>bZ (err:=1) (zs:=[.int .i64 0,.bool false,.slice none 0 0,.int .i64 0,.string ⟨#[]⟩,.slice none 0 0,.slice none 0 0]) hb hr1.out
  cases m1 with
  | false =>
   clear hm
   go_enter Tryz.func103,Tryz.ntmps103
   go_wp2_with fail
   rw[hW.out]
   refine (h1.out _ HB.out).mono ?_
   rintro en w1 ⟨rfl,hb⟩
   have q1:=hid (ae HB.out hb)
   obtain⟨⟨r0,r1,r2,r3,r4,r5,r6⟩,s0,s1,s2,s3,s4,s5,s6⟩:=ag (af HZ.out hb)
   clear hb
   go_wp2_with fail
   refine bodyPost_ret (v:=.tuple #[.agg #[.int .i64 0,.bool false,.slice none 0 0,.int .i64 0,.string ⟨#[]⟩,.slice none 0 0,.slice none 0 0],.int .i64 1]) (by simp[results,Tryz.results103,go_sem,r0,r1,r2,r3,r4,r5,r6]) rfl ?_
   exact hOut.out _ q1.out
  | true =>
   obtain rfl:sd=false:=by rcases hm with h | h;cases h;exact h
   clear hm
   go_enter Tryz.func103,Tryz.ntmps103
   go_wp2_with fail
   rw[hW.out]
   refine (h1.out _ HB.out).mono ?_
   rintro en w1 ⟨rfl,hb⟩
   have q1:=hid (ae HB.out hb)
   have z1:=hid (af HZ.out hb)
   clear hb
   go_wp2_with fail
   refine (h2.out _ q1.out).mono ?_
   rintro en w2 ⟨rfl,hb⟩
   have q2:=hid (ae q1.out hb)
   obtain⟨⟨r0,r1,r2,r3,r4,r5,r6⟩,s0,s1,s2,s3,s4,s5,s6⟩:=ag (af z1.out hb)
   clear hb
   go_wp2_with fail
   refine bodyPost_ret (v:=.tuple #[.agg #[.int .i64 0,.bool false,.slice none 0 0,.int .i64 0,.string ⟨#[]⟩,.slice none 0 0,.slice none 0 0],.int .i64 1]) (by simp[results,Tryz.results103,go_sem,r0,r1,r2,r3,r4,r5,r6]) rfl ?_
   exact hOut.out _ q2.out
 ·have hOut:=hid fun W' (hb:Below w.heap.size w W')=>bZ (err:=9) (zs:=[.int .i64 0,.bool false,.slice none 0 0,.int .i64 0,.string ⟨#[]⟩,.slice none 0 0,.slice none 0 0]) hb hr1.out
  have f6:(k != 6)=true:=by rw[bne_iff_ne];exact hk6
  have f0:(k == 0)=false:=by rw[beq_eq_false_iff_ne];exact hk0
  clear hk6 hk0
  go_enter Tryz.func103,Tryz.ntmps103
  go_wp2_with fail
  rw[hW.out]
  refine (h1.out _ HB.out).mono ?_
  rintro en w1 ⟨rfl,hb⟩
  have q1:=hid (ae HB.out hb)
  have z1:=hid (af HZ.out hb)
  have x1:=hid (HX.out.stay hb)
  clear hb
  go_wp2_with fail
  refine (h2.out _ q1.out).mono ?_
  rintro en w2 ⟨rfl,hb⟩
  have q2:=hid (ae q1.out hb)
  obtain⟨⟨r0,r1,r2,r3,r4,r5,r6⟩,s0,s1,s2,s3,s4,s5,s6⟩:=ag (af z1.out hb)
  obtain⟨p0,p1,p2,p3,p4,p5,p6⟩:=x1.out.stay hb
  clear hb
  go_wp2_with fail
  refine bodyPost_ret (v:=.tuple #[.agg #[.int .i64 0,.bool false,.slice none 0 0,.int .i64 0,.string ⟨#[]⟩,.slice none 0 0,.slice none 0 0],.int .i64 9]) (by simp[results,Tryz.results103,go_sem,r0,r1,r2,r3,r4,r5,r6]) rfl ?_
  exact hOut.out _ q2.out
 ·have hOut:=hid fun W' (hb:Below w.heap.size w W')=>bZ (err:=0) (zs:=[.int .i64 0,.bool false,.slice none 0 0,.int .i64 0,.string ⟨#[]⟩,.slice none 0 0,.slice none 0 0]) hb hr1.out
  go_enter Tryz.func103,Tryz.ntmps103
  go_wp2_with fail
  rw[hW.out]
  refine (h1.out _ HB.out).mono ?_
  rintro en w1 ⟨rfl,hb⟩
  have q1:=hid (ae HB.out hb)
  have z1:=hid (af HZ.out hb)
  have x1:=hid (HX.out.stay hb)
  clear hb
  go_wp2_with fail
  refine (h2.out _ q1.out).mono ?_
  rintro en w2 ⟨rfl,hb⟩
  have q2:=hid (ae q1.out hb)
  obtain⟨⟨r0,r1,r2,r3,r4,r5,r6⟩,s0,s1,s2,s3,s4,s5,s6⟩:=ag (af z1.out hb)
  obtain⟨p0,p1,p2,p3,p4,p5,p6⟩:=x1.out.stay hb
  clear hb
  go_wp2_with fail
  refine bodyPost_ret (v:=.tuple #[.agg #[.int .i64 0,.bool false,.slice none 0 0,.int .i64 0,.string ⟨#[]⟩,.slice none 0 0,.slice none 0 0],.int .i64 0]) (by simp[results,Tryz.results103,go_sem,r0,r1,r2,r3,r4,r5,r6]) rfl ?_
  exact hOut.out _ q2.out
/-- The refusals. -/
theorem xQ (k:Int)(g g':Bool)(a a':Option Addr)(l l' c c':Nat)(k':Int)(e e':Int)(s s':List UInt8)(aa aa':Option Addr)(an an' ac ac':Nat)(oa oa':Option Addr)(on on' oc oc':Nat)(key:List UInt8)(D:Nat)(w:World)(m1 m2 sd:Bool)(err:Nat)
  (h1:∀W,Below w.heap.size w W→Calls Tryz.prog 20 #[valV k g a l c e s aa an ac oa on oc] W fun en w'=>en=.returned (.bool m1)∧Below W.heap.size W w')
  (h2:∀W,Below w.heap.size w W→Calls Tryz.prog 20 #[valV k' g' a' l' c' e' s' aa' an' ac' oa' on' oc'] W fun en w'=>en=.returned (.bool m2)∧Below W.heap.size W w')
  (h3:∀W,Below w.heap.size w W→Calls Tryz.prog 76 #[strV key] W fun en w'=>en=.returned (.bool sd)∧Below W.heap.size W w')
  (h4:∀W,Below w.heap.size w W→Calls Tryz.prog 91 #[valV k' g' a' l' c' e' s' aa' an' ac' oa' on' oc'] W fun en w'=>en=.returned (.int .i64 (D:Int))∧Below W.heap.size W w')
  (hx:(m1=false∧err=1)∨(m1=true∧m2=false∧err=1)∨(m1=true∧m2=true∧sd=false∧err=1)∨(m1=true∧m2=true∧sd=true∧k≠6∧k≠0∧err=9)∨(m1=true∧m2=true∧sd=true∧(k=6∨k=0)∧D=200∧err=6)) :
  Calls Tryz.prog 89 #[valV k g a l c e s aa an ac oa on oc,strV key,valV k' g' a' l' c' e' s' aa' an' ac' oa' on' oc'] w (OutV w .null err):=by
 unfold valV strV at *
 generalize (⟨s.toArray⟩:ByteArray)=sb at *
 generalize (⟨s'.toArray⟩:ByteArray)=sb' at *
 generalize (⟨key.toArray⟩:ByteArray)=kb at *
 obtain⟨W,hW⟩:∃W,W=((w.alloc (.cells #[.int .i64 k,.bool g,.slice a l c,.int .i64 e,.string sb,.slice aa an ac,.slice oa on oc] 28)).alloc (.cells #[.int .i64 k',.bool g',.slice a' l' c',.int .i64 e',.string sb',.slice aa' an' ac',.slice oa' on' oc'] 28)).alloc (.cells #[.int .i64 0,.bool false,.slice none 0 0,.int .i64 0,.string ⟨#[]⟩,.slice none 0 0,.slice none 0 0] 28):=⟨_,rfl⟩
 have hB:=hid (show Below w.heap.size w W by rw[hW];exact (aW _ _ _).alloc (by simp;omega) _)
 have hX:Hid (BoxV W w.heap.size k g a l c e sb aa an ac oa on oc):=by
  rw[hW]
  exact⟨by simp[go_sem],by simp[go_sem],by simp[go_sem],by simp[go_sem],by simp[go_sem],by simp[go_sem],by simp[go_sem]⟩
 have hY:Hid (BoxV W (w.heap.size+1) k' g' a' l' c' e' sb' aa' an' ac' oa' on' oc'):=by
  rw[hW]
  exact⟨by simp[go_sem],by simp[go_sem],by simp[go_sem],by simp[go_sem],by simp[go_sem],by simp[go_sem],by simp[go_sem]⟩
 have hZ0:(W.heap[w.heap.size+1+1]? = some (.cells #[.int .i64 0,.bool false,.slice none 0 0,.int .i64 0,.string ⟨#[]⟩,.slice none 0 0,.slice none 0 0] 28)):=by
  rw[hW]
  have:=aj ((w.alloc (.cells #[.int .i64 k,.bool g,.slice a l c,.int .i64 e,.string sb,.slice aa an ac,.slice oa on oc] 28)).alloc (.cells #[.int .i64 k',.bool g',.slice a' l' c',.int .i64 e',.string sb',.slice aa' an' ac',.slice oa' on' oc'] 28)) (.cells #[.int .i64 0,.bool false,.slice none 0 0,.int .i64 0,.string ⟨#[]⟩,.slice none 0 0,.slice none 0 0] 28)
  simpa[Nat.add_assoc] using this
 have hZ:=hid hZ0
 clear hZ0
 replace hW:=hid hW.symm
 replace h1:=hid h1
 replace h2:=hid h2
 replace h3:=hid h3
 replace h4:=hid h4
 have hZw:Hid (w.heap.size≤w.heap.size+1+1):=by show _≤_;omega
 rcases hx with ⟨rfl,rfl⟩ | ⟨rfl,rfl,rfl⟩ | ⟨rfl,rfl,rfl,rfl⟩ | ⟨rfl,rfl,rfl,hk6,hk0,rfl⟩ | ⟨rfl,rfl,rfl,hk,rfl,rfl⟩
 ·go_enter Tryz.func89,Tryz.ntmps89
  go_wp2_with fail
  rw[hW.out]
  refine (h1.out _ hB.out).mono ?_
  rintro en w1 ⟨rfl,hb⟩
  replace hB:=hid (ae hB.out hb)
  replace hX:=hid (hX.out.stay hb)
  replace hY:=hid (hY.out.stay hb)
  replace hZ:=hid (af hZ.out hb)
  clear hb
  obtain⟨p0,p1,p2,p3,p4,p5,p6⟩:=hX.out
  obtain⟨q0,q1,q2,q3,q4,q5,q6⟩:=hY.out
  clear hW
  obtain⟨⟨r0,r1,r2,r3,r4,r5,r6⟩,s0,s1,s2,s3,s4,s5,s6⟩:=ag hZ.out
  go_wp2_with fail
  refine bodyPost_ret (v:=.tuple #[.agg #[.int .i64 0,.bool false,.slice none 0 0,.int .i64 0,.string ⟨#[]⟩,.slice none 0 0,.slice none 0 0],.int .i64 1]) (by simp[results,Tryz.results89,go_sem,r0,r1,r2,r3,r4,r5,r6]) rfl ?_
  exact bZ (err:=1) (zs:=[.int .i64 0,.bool false,.slice none 0 0,.int .i64 0,.string ⟨#[]⟩,.slice none 0 0,.slice none 0 0]) hB.out hZw.out
 ·go_enter Tryz.func89,Tryz.ntmps89
  go_wp2_with fail
  rw[hW.out]
  refine (h1.out _ hB.out).mono ?_
  rintro en w1 ⟨rfl,hb⟩
  replace hB:=hid (ae hB.out hb)
  replace hX:=hid (hX.out.stay hb)
  replace hY:=hid (hY.out.stay hb)
  replace hZ:=hid (af hZ.out hb)
  clear hb
  obtain⟨p0,p1,p2,p3,p4,p5,p6⟩:=hX.out
  obtain⟨q0,q1,q2,q3,q4,q5,q6⟩:=hY.out
  go_wp2_with fail
  refine (h2.out _ hB.out).mono ?_
  rintro en w1 ⟨rfl,hb⟩
  replace hB:=hid (ae hB.out hb)
  replace hX:=hid (hX.out.stay hb)
  replace hY:=hid (hY.out.stay hb)
  replace hZ:=hid (af hZ.out hb)
  clear hb
  clear p0 p1 p2 p3 p4 p5 p6 q0 q1 q2 q3 q4 q5 q6
  obtain⟨p0,p1,p2,p3,p4,p5,p6⟩:=hX.out
  obtain⟨q0,q1,q2,q3,q4,q5,q6⟩:=hY.out
  clear hW
  obtain⟨⟨r0,r1,r2,r3,r4,r5,r6⟩,s0,s1,s2,s3,s4,s5,s6⟩:=ag hZ.out
  go_wp2_with fail
  refine bodyPost_ret (v:=.tuple #[.agg #[.int .i64 0,.bool false,.slice none 0 0,.int .i64 0,.string ⟨#[]⟩,.slice none 0 0,.slice none 0 0],.int .i64 1]) (by simp[results,Tryz.results89,go_sem,r0,r1,r2,r3,r4,r5,r6]) rfl ?_
  exact bZ (err:=1) (zs:=[.int .i64 0,.bool false,.slice none 0 0,.int .i64 0,.string ⟨#[]⟩,.slice none 0 0,.slice none 0 0]) hB.out hZw.out
 ·go_enter Tryz.func89,Tryz.ntmps89
  go_wp2_with fail
  rw[hW.out]
  refine (h1.out _ hB.out).mono ?_
  rintro en w1 ⟨rfl,hb⟩
  replace hB:=hid (ae hB.out hb)
  replace hX:=hid (hX.out.stay hb)
  replace hY:=hid (hY.out.stay hb)
  replace hZ:=hid (af hZ.out hb)
  clear hb
  obtain⟨p0,p1,p2,p3,p4,p5,p6⟩:=hX.out
  obtain⟨q0,q1,q2,q3,q4,q5,q6⟩:=hY.out
  go_wp2_with fail
  refine (h2.out _ hB.out).mono ?_
  rintro en w1 ⟨rfl,hb⟩
  replace hB:=hid (ae hB.out hb)
  replace hX:=hid (hX.out.stay hb)
  replace hY:=hid (hY.out.stay hb)
  replace hZ:=hid (af hZ.out hb)
  clear hb
  clear p0 p1 p2 p3 p4 p5 p6 q0 q1 q2 q3 q4 q5 q6
  obtain⟨p0,p1,p2,p3,p4,p5,p6⟩:=hX.out
  obtain⟨q0,q1,q2,q3,q4,q5,q6⟩:=hY.out
  go_wp2_with fail
  refine (h3.out _ hB.out).mono ?_
  rintro en w1 ⟨rfl,hb⟩
  replace hB:=hid (ae hB.out hb)
  replace hX:=hid (hX.out.stay hb)
  replace hY:=hid (hY.out.stay hb)
  replace hZ:=hid (af hZ.out hb)
  clear hb
  clear p0 p1 p2 p3 p4 p5 p6 q0 q1 q2 q3 q4 q5 q6
  obtain⟨p0,p1,p2,p3,p4,p5,p6⟩:=hX.out
  obtain⟨q0,q1,q2,q3,q4,q5,q6⟩:=hY.out
  clear hW
  obtain⟨⟨r0,r1,r2,r3,r4,r5,r6⟩,s0,s1,s2,s3,s4,s5,s6⟩:=ag hZ.out
  go_wp2_with fail
  refine bodyPost_ret (v:=.tuple #[.agg #[.int .i64 0,.bool false,.slice none 0 0,.int .i64 0,.string ⟨#[]⟩,.slice none 0 0,.slice none 0 0],.int .i64 1]) (by simp[results,Tryz.results89,go_sem,r0,r1,r2,r3,r4,r5,r6]) rfl ?_
  exact bZ (err:=1) (zs:=[.int .i64 0,.bool false,.slice none 0 0,.int .i64 0,.string ⟨#[]⟩,.slice none 0 0,.slice none 0 0]) hB.out hZw.out
 ·have f6:(k != 6)=true:=by rw[bne_iff_ne];exact hk6
  have f0:(k != 0)=true:=by rw[bne_iff_ne];exact hk0
  clear hk6 hk0
  go_enter Tryz.func89,Tryz.ntmps89
  go_wp2_with fail
  rw[hW.out]
  refine (h1.out _ hB.out).mono ?_
  rintro en w1 ⟨rfl,hb⟩
  replace hB:=hid (ae hB.out hb)
  replace hX:=hid (hX.out.stay hb)
  replace hY:=hid (hY.out.stay hb)
  replace hZ:=hid (af hZ.out hb)
  clear hb
  obtain⟨p0,p1,p2,p3,p4,p5,p6⟩:=hX.out
  obtain⟨q0,q1,q2,q3,q4,q5,q6⟩:=hY.out
  go_wp2_with fail
  refine (h2.out _ hB.out).mono ?_
  rintro en w1 ⟨rfl,hb⟩
  replace hB:=hid (ae hB.out hb)
  replace hX:=hid (hX.out.stay hb)
  replace hY:=hid (hY.out.stay hb)
  replace hZ:=hid (af hZ.out hb)
  clear hb
  clear p0 p1 p2 p3 p4 p5 p6 q0 q1 q2 q3 q4 q5 q6
  obtain⟨p0,p1,p2,p3,p4,p5,p6⟩:=hX.out
  obtain⟨q0,q1,q2,q3,q4,q5,q6⟩:=hY.out
  go_wp2_with fail
  refine (h3.out _ hB.out).mono ?_
  rintro en w1 ⟨rfl,hb⟩
  replace hB:=hid (ae hB.out hb)
  replace hX:=hid (hX.out.stay hb)
  replace hY:=hid (hY.out.stay hb)
  replace hZ:=hid (af hZ.out hb)
  clear hb
  clear p0 p1 p2 p3 p4 p5 p6 q0 q1 q2 q3 q4 q5 q6
  obtain⟨p0,p1,p2,p3,p4,p5,p6⟩:=hX.out
  obtain⟨q0,q1,q2,q3,q4,q5,q6⟩:=hY.out
  clear hW
  obtain⟨⟨r0,r1,r2,r3,r4,r5,r6⟩,s0,s1,s2,s3,s4,s5,s6⟩:=ag hZ.out
  go_wp2_with fail
  refine bodyPost_ret (v:=.tuple #[.agg #[.int .i64 0,.bool false,.slice none 0 0,.int .i64 0,.string ⟨#[]⟩,.slice none 0 0,.slice none 0 0],.int .i64 9]) (by simp[results,Tryz.results89,go_sem,r0,r1,r2,r3,r4,r5,r6]) rfl ?_
  exact bZ (err:=9) (zs:=[.int .i64 0,.bool false,.slice none 0 0,.int .i64 0,.string ⟨#[]⟩,.slice none 0 0,.slice none 0 0]) hB.out hZw.out
 ·rcases hk with rfl | rfl
  all_goals
   go_enter Tryz.func89,Tryz.ntmps89
   go_wp2_with fail
   rw[hW.out]
   refine (h1.out _ hB.out).mono ?_
   rintro en w1 ⟨rfl,hb⟩
   replace hB:=hid (ae hB.out hb)
   replace hX:=hid (hX.out.stay hb)
   replace hY:=hid (hY.out.stay hb)
   replace hZ:=hid (af hZ.out hb)
   clear hb
   obtain⟨p0,p1,p2,p3,p4,p5,p6⟩:=hX.out
   obtain⟨q0,q1,q2,q3,q4,q5,q6⟩:=hY.out
   go_wp2_with fail
   refine (h2.out _ hB.out).mono ?_
   rintro en w1 ⟨rfl,hb⟩
   replace hB:=hid (ae hB.out hb)
   replace hX:=hid (hX.out.stay hb)
   replace hY:=hid (hY.out.stay hb)
   replace hZ:=hid (af hZ.out hb)
   clear hb
   clear p0 p1 p2 p3 p4 p5 p6 q0 q1 q2 q3 q4 q5 q6
   obtain⟨p0,p1,p2,p3,p4,p5,p6⟩:=hX.out
   obtain⟨q0,q1,q2,q3,q4,q5,q6⟩:=hY.out
   go_wp2_with fail
   refine (h3.out _ hB.out).mono ?_
   rintro en w1 ⟨rfl,hb⟩
   replace hB:=hid (ae hB.out hb)
   replace hX:=hid (hX.out.stay hb)
   replace hY:=hid (hY.out.stay hb)
   replace hZ:=hid (af hZ.out hb)
   clear hb
   clear p0 p1 p2 p3 p4 p5 p6 q0 q1 q2 q3 q4 q5 q6
   obtain⟨p0,p1,p2,p3,p4,p5,p6⟩:=hX.out
   obtain⟨q0,q1,q2,q3,q4,q5,q6⟩:=hY.out
   go_wp2_with fail
   refine (h4.out _ hB.out).mono ?_
   rintro en w1 ⟨rfl,hb⟩
   replace hB:=hid (ae hB.out hb)
   replace hX:=hid (hX.out.stay hb)
   replace hY:=hid (hY.out.stay hb)
   replace hZ:=hid (af hZ.out hb)
   clear hb
   clear p0 p1 p2 p3 p4 p5 p6 q0 q1 q2 q3 q4 q5 q6
   obtain⟨p0,p1,p2,p3,p4,p5,p6⟩:=hX.out
   obtain⟨q0,q1,q2,q3,q4,q5,q6⟩:=hY.out
   clear hW
   obtain⟨⟨r0,r1,r2,r3,r4,r5,r6⟩,s0,s1,s2,s3,s4,s5,s6⟩:=ag hZ.out
   go_wp2_with fail
   refine bodyPost_ret (v:=.tuple #[.agg #[.int .i64 0,.bool false,.slice none 0 0,.int .i64 0,.string ⟨#[]⟩,.slice none 0 0,.slice none 0 0],.int .i64 6]) (by simp[results,Tryz.results89,go_sem,r0,r1,r2,r3,r4,r5,r6]) rfl ?_
   exact bZ (err:=6) (zs:=[.int .i64 0,.bool false,.slice none 0 0,.int .i64 0,.string ⟨#[]⟩,.slice none 0 0,.slice none 0 0]) hB.out hZw.out
open Classical in
noncomputable def eqB (v u:JV):Bool:=decide (v=u)
theorem jH {v u:JV}(h:v=u):eqB v u=true:=by unfold eqB;exact @decide_eq_true _ (Classical.propDecidable _) h
theorem AP {v u:JV}(h:v≠u):eqB v u=false:=by unfold eqB;exact @decide_eq_false _ (Classical.propDecidable _) h
theorem yZ {v u:JV}:eqB v u=true ↔ v=u:=by unfold eqB;exact @decide_eq_true_iff _ (Classical.propDecidable _)
def SameC (v:JV):Prop:=∀(u:JV) (cs ct:List Value) (w:World),RdV w cs v→RdV w ct u→Calls Tryz.prog 30 #[.agg cs.toArray,.agg ct.toArray] w fun en w'=>en=.returned (.bool (eqB v u))∧Below w.heap.size w w'
theorem Fp {w W' w1:World}{n0 o0 n1 o1 n2 o2 n3 o3 n4 o4 n5 o5 n6 o6 n7 o7 n8 o8 n9 o9 n10 o10 n11 o11 n12 o12 n13 o13 n14 o14 n15 o15:Nat}{x0 x1 x2 x3 x4 x5 x6 x7 x8 x9 x10 x11 x12 x13 x14 x15:Value}(h:W'.cell? ⟨n0,o0,none⟩=some x0∧W'.cell? ⟨n1,o1,none⟩=some x1∧W'.cell? ⟨n2,o2,none⟩=some x2∧W'.cell? ⟨n3,o3,none⟩=some x3∧W'.cell? ⟨n4,o4,none⟩=some x4∧W'.cell? ⟨n5,o5,none⟩=some x5∧W'.cell? ⟨n6,o6,none⟩=some x6∧W'.cell? ⟨n7,o7,none⟩=some x7∧W'.cell? ⟨n8,o8,none⟩=some x8∧W'.cell? ⟨n9,o9,none⟩=some x9∧W'.cell? ⟨n10,o10,none⟩=some x10∧W'.cell? ⟨n11,o11,none⟩=some x11∧W'.cell? ⟨n12,o12,none⟩=some x12∧W'.cell? ⟨n13,o13,none⟩=some x13∧W'.cell? ⟨n14,o14,none⟩=some x14∧W'.cell? ⟨n15,o15,none⟩=some x15∧Below w.heap.size w W')(hb:Below W'.heap.size W' w1):w1.cell? ⟨n0,o0,none⟩=some x0∧w1.cell? ⟨n1,o1,none⟩=some x1∧w1.cell? ⟨n2,o2,none⟩=some x2∧w1.cell? ⟨n3,o3,none⟩=some x3∧w1.cell? ⟨n4,o4,none⟩=some x4∧w1.cell? ⟨n5,o5,none⟩=some x5∧w1.cell? ⟨n6,o6,none⟩=some x6∧w1.cell? ⟨n7,o7,none⟩=some x7∧w1.cell? ⟨n8,o8,none⟩=some x8∧w1.cell? ⟨n9,o9,none⟩=some x9∧w1.cell? ⟨n10,o10,none⟩=some x10∧w1.cell? ⟨n11,o11,none⟩=some x11∧w1.cell? ⟨n12,o12,none⟩=some x12∧w1.cell? ⟨n13,o13,none⟩=some x13∧w1.cell? ⟨n14,o14,none⟩=some x14∧w1.cell? ⟨n15,o15,none⟩=some x15∧Below w.heap.size w w1:=by
 obtain⟨h0,h1,h2,h3,h4,h5,h6,h7,h8,h9,h10,h11,h12,h13,h14,h15,hz⟩:=h
 exact⟨ai h0 hb,ai h1 hb,ai h2 hb,ai h3 hb,ai h4 hb,ai h5 hb,ai h6 hb,ai h7 hb,ai h8 hb,ai h9 hb,ai h10 hb,ai h11 hb,ai h12 hb,ai h13 hb,ai h14 hb,ai h15 hb,ae hz hb⟩
theorem Fq {w W' w1:World}{n0 o0 n1 o1 n2 o2 n3 o3 n4 o4 n5 o5 n6 o6 n7 o7 n8 o8 n9 o9 n10 o10 n11 o11 n12 o12 n13 o13 n14 o14 n15 o15 n16 o16 n17 o17:Nat}{x0 x1 x2 x3 x4 x5 x6 x7 x8 x9 x10 x11 x12 x13 x14 x15 x16 x17:Value}(h:W'.cell? ⟨n0,o0,none⟩=some x0∧W'.cell? ⟨n1,o1,none⟩=some x1∧W'.cell? ⟨n2,o2,none⟩=some x2∧W'.cell? ⟨n3,o3,none⟩=some x3∧W'.cell? ⟨n4,o4,none⟩=some x4∧W'.cell? ⟨n5,o5,none⟩=some x5∧W'.cell? ⟨n6,o6,none⟩=some x6∧W'.cell? ⟨n7,o7,none⟩=some x7∧W'.cell? ⟨n8,o8,none⟩=some x8∧W'.cell? ⟨n9,o9,none⟩=some x9∧W'.cell? ⟨n10,o10,none⟩=some x10∧W'.cell? ⟨n11,o11,none⟩=some x11∧W'.cell? ⟨n12,o12,none⟩=some x12∧W'.cell? ⟨n13,o13,none⟩=some x13∧W'.cell? ⟨n14,o14,none⟩=some x14∧W'.cell? ⟨n15,o15,none⟩=some x15∧W'.cell? ⟨n16,o16,none⟩=some x16∧W'.cell? ⟨n17,o17,none⟩=some x17∧Below w.heap.size w W')(hb:Below W'.heap.size W' w1):w1.cell? ⟨n0,o0,none⟩=some x0∧w1.cell? ⟨n1,o1,none⟩=some x1∧w1.cell? ⟨n2,o2,none⟩=some x2∧w1.cell? ⟨n3,o3,none⟩=some x3∧w1.cell? ⟨n4,o4,none⟩=some x4∧w1.cell? ⟨n5,o5,none⟩=some x5∧w1.cell? ⟨n6,o6,none⟩=some x6∧w1.cell? ⟨n7,o7,none⟩=some x7∧w1.cell? ⟨n8,o8,none⟩=some x8∧w1.cell? ⟨n9,o9,none⟩=some x9∧w1.cell? ⟨n10,o10,none⟩=some x10∧w1.cell? ⟨n11,o11,none⟩=some x11∧w1.cell? ⟨n12,o12,none⟩=some x12∧w1.cell? ⟨n13,o13,none⟩=some x13∧w1.cell? ⟨n14,o14,none⟩=some x14∧w1.cell? ⟨n15,o15,none⟩=some x15∧w1.cell? ⟨n16,o16,none⟩=some x16∧w1.cell? ⟨n17,o17,none⟩=some x17∧Below w.heap.size w w1:=by
 obtain⟨h0,h1,h2,h3,h4,h5,h6,h7,h8,h9,h10,h11,h12,h13,h14,h15,h16,h17,hz⟩:=h
 exact⟨ai h0 hb,ai h1 hb,ai h2 hb,ai h3 hb,ai h4 hb,ai h5 hb,ai h6 hb,ai h7 hb,ai h8 hb,ai h9 hb,ai h10 hb,ai h11 hb,ai h12 hb,ai h13 hb,ai h14 hb,ai h15 hb,ai h16 hb,ai h17 hb,ae hz hb⟩
theorem Dz {s t:List UInt8}(h:s≠t):((⟨s.toArray⟩:ByteArray).toList == (⟨t.toArray⟩:ByteArray).toList)=false:=by
 rw[ByteArray.toList_eq,ByteArray.toList_eq,beq_eq_false_iff_ne]
 exact h
theorem AQ (v u:JV)(IHa:∀x ∈ v.arr,SameC x)(IHo:∀p ∈ v.obj,SameC p.2)(a a':Option Addr)(c c':Nat)(aa aa':Option Addr)(ac ac':Nat)(oa oa':Option Addr)(oc oc':Nat)(w:World)
  (P:PartsV w (valCs v.kind v.g a v.ls.length c v.e v.s aa v.arr.length ac oa v.obj.length oc) v a c aa ac oa oc)(P':PartsV w (valCs u.kind u.g a' u.ls.length c' u.e u.s aa' u.arr.length ac' oa' u.obj.length oc') u a' c' aa' ac' oa' oc') :
  Calls Tryz.prog 30 #[valV v.kind v.g a v.ls.length c v.e v.s aa v.arr.length ac oa v.obj.length oc,valV u.kind u.g a' u.ls.length c' u.e u.s aa' u.arr.length ac' oa' u.obj.length oc'] w fun en w'=>en=.returned (.bool (eqB v u))∧Below w.heap.size w w':=by
 obtain⟨R,hR⟩:∃R,R=eqB v u:=⟨_,rfl⟩
 rw[←hR]
 have hF:v≠u→R=false:=fun h=>by rw[hR];exact AP h
 have hT:v=u→R=true:=fun h=>by rw[hR];exact jH h
 have hN:=fun W (hb:Below w.heap.size w W)=>Ar v.g u.g a a' c c' v.e u.e v.ls u.ls W (P.u.below hb) (P'.u.below hb) (by have:=P.c;omega)
 have hA:=hid P.arr
 have hA':=hid P'.arr
 have hO:=hid P.obj
 have hO':=hid P'.obj
 have hal:v.arr.length≤9223372036854775807:=by have:=P.ac;omega
 have hol:v.obj.length≤9223372036854775807:=by have:=P.oc;omega
 clear P P' hR
 obtain⟨nb,hnb⟩:∃nb,nb=decide (v.g=u.g∧v.e=u.e∧v.ls=u.ls):=⟨_,rfl⟩
 rw[←hnb] at hN
 have hnT:nb=true→v.g=u.g∧v.e=u.e∧v.ls=u.ls:=fun h=>of_decide_eq_true (hnb.symm.trans h)
 have hnF:nb=false→v≠u:=fun h e=>of_decide_eq_false (hnb.symm.trans h) (by rw[e];exact⟨rfl,rfl,rfl⟩)
 clear hnb
 replace hnT:=hid hnT
 replace hnF:=hid hnF
 replace IHa:=hid IHa
 replace IHo:=hid IHo
 replace hN:=hid hN
 replace hF:=hid hF
 replace hT:=hid hT
 obtain⟨k,g,ls,e,s,arr,obj⟩:=v
 obtain⟨k',g',ls',e',s',arr',obj'⟩:=u
 simp only[JV.kind,JV.g,JV.ls,JV.e,JV.s,JV.arr,JV.obj] at *
 unfold valV strV
 by_cases h1:k=k'
 rotate_left
 ·obtain rfl:R=false:=hF.out (fun h=>h1 (congrArg JV.kind h))
  have q1:(k == k')=false:=by rw[beq_eq_false_iff_ne];exact h1
  have q2:(k != k')=true:=by rw[bne,q1];rfl
  clear h1
  go_enter Tryz.func30,Tryz.ntmps30
  go_wp2_with fail
  go_ret
  exact⟨rfl,((Below.refl _ _).alloc (Nat.le_refl _) _).alloc (by simp) _⟩
 subst h1
 by_cases h2:s=s'
 rotate_left
 ·obtain rfl:R=false:=hF.out (fun h=>h2 (congrArg JV.s h))
  have q:=Dz h2
  generalize (⟨s.toArray⟩:ByteArray)=sb at *
  generalize (⟨s'.toArray⟩:ByteArray)=sb' at *
  clear h2
  go_enter Tryz.func30,Tryz.ntmps30
  go_wp2_with fail
  go_ret
  exact⟨rfl,((Below.refl _ _).alloc (Nat.le_refl _) _).alloc (by simp) _⟩
 subst h2
 generalize (⟨s.toArray⟩:ByteArray)=sb at *
 have qs:(sb.toList == sb.toList)=true:=by simp
 by_cases h3:arr.length=arr'.length
 rotate_left
 ·obtain rfl:R=false:=hF.out (fun h=>h3 (congrArg (fun v=>(JV.arr v).length) h))
  generalize arr.length=an at *
  generalize arr'.length=an' at *
  have q1:(an == an')=false:=by rw[beq_eq_false_iff_ne];exact h3
  have q2:((an:Int) == (an':Int))=false:=by rw[beq_eq_false_iff_ne];omega
  clear h3
  go_enter Tryz.func30,Tryz.ntmps30
  go_wp2_with fail
  go_ret
  exact⟨rfl,((Below.refl _ _).alloc (Nat.le_refl _) _).alloc (by simp) _⟩
 by_cases h4:obj.length=obj'.length
 rotate_left
 ·obtain rfl:R=false:=hF.out (fun h=>h4 (congrArg (fun v=>(JV.obj v).length) h))
  rw[←h3]
  generalize arr.length=an at *
  generalize obj.length=on at *
  generalize obj'.length=on' at *
  have q1:(on == on')=false:=by rw[beq_eq_false_iff_ne];exact h4
  have q2:((on:Int) == (on':Int))=false:=by rw[beq_eq_false_iff_ne];omega
  clear h4 h3
  go_enter Tryz.func30,Tryz.ntmps30
  go_wp2_with fail
  go_ret
  exact⟨rfl,((Below.refl _ _).alloc (Nat.le_refl _) _).alloc (by simp) _⟩
 rw[←h3,←h4]
 have H3:=hid h3
 have H4:=hid h4
 generalize ls.length=ln at *
 generalize ls'.length=ln' at *
 generalize hal':arr.length=an at *
 generalize hol':obj.length=on at *
 replace hal':=hid hal'
 replace hol':=hid hol'
 replace h3:=hid h3
 replace h4:=hid h4
 clear H3 H4
 obtain⟨W,hW⟩:∃W,W=(w.alloc (.cells #[.int .i64 k,.bool g,.slice a ln c,.int .i64 e,.string sb,.slice aa an ac,.slice oa on oc] 28)).alloc (.cells #[.int .i64 k,.bool g',.slice a' ln' c',.int .i64 e',.string sb,.slice aa' an ac',.slice oa' on oc'] 28):=⟨_,rfl⟩
 have HB:=hid (show Below w.heap.size w W by rw[hW];exact ((Below.refl _ _).alloc (Nat.le_refl _) _).alloc (by simp) _)
 have HX:Hid (BoxV W w.heap.size k g a ln c e sb aa an ac oa on oc):=by
  rw[hW]
  exact⟨by simp[go_sem],by simp[go_sem],by simp[go_sem],by simp[go_sem],by simp[go_sem],by simp[go_sem],by simp[go_sem]⟩
 have HY:Hid (BoxV W (w.heap.size+1) k g' a' ln' c' e' sb aa' an ac' oa' on oc'):=by
  rw[hW]
  exact⟨by simp[go_sem],by simp[go_sem],by simp[go_sem],by simp[go_sem],by simp[go_sem],by simp[go_sem],by simp[go_sem]⟩
 replace hW:=hid hW.symm
 go_enter Tryz.func30,Tryz.ntmps30
 go_wp2_with fail
 rw[hW.out]
 cases nb with
 | false =>
  obtain rfl:R=false:=hF.out (hnF.out rfl)
  refine (hN.out _ HB.out).mono ?_
  rintro en w1 ⟨rfl,hb⟩
  have q:=hid (ae HB.out hb)
  clear hb
  go_wp2_with fail
  go_ret
  exact⟨rfl,q.out⟩
 | true =>
  have hnum:=hid (hnT.out rfl)
  clear hnT hnF
  refine (hN.out _ HB.out).mono ?_
  rintro en w1 ⟨rfl,hb⟩
  replace HB:=hid (ae HB.out hb)
  replace HX:=hid (HX.out.stay hb)
  replace HY:=hid (HY.out.stay hb)
  clear hb hW hN qs
  obtain⟨B,hBB⟩:∃B,B=w.heap.size:=⟨_,rfl⟩
  obtain⟨B',hBB'⟩:∃B',B'=w.heap.size+1:=⟨_,rfl⟩
  rw[←hBB'] at HY ⊢
  rw[←hBB] at HX ⊢
  clear hBB hBB'
  go_wp2
  go_loopw [5] (fun v5 wr=>∃k1:Nat,k1≤an∧Hid (arr.take k1=arr'.take k1)∧v5=.int .i64 k1∧Below w.heap.size w wr∧BoxV wr B k g a ln c e sb aa an ac oa on oc∧BoxV wr B' k g' a' ln' c' e' sb aa' an ac' oa' on oc') (fun v5 _=>an-(intOf v5).toNat)
  case atStart=>exact⟨0,Nat.zero_le _,hid (by simp),rfl,HB.out,HX.out,HY.out⟩
  case round =>
   obtain⟨k1,hk,hM,rfl,hb,hx,hy⟩:=hrel
   clear HB HX HY
   obtain⟨x0,x1,x2,x3,x4,x5,x6⟩:=hx
   obtain⟨y0,y1,y2,y3,y4,y5,y6⟩:=hy
   by_cases hlt:k1<an
   ·have hlt2:(k1:Int)<(an:Int):=by omega
    have hk1:k1<arr.length:=by rw[hal'.out];exact hlt
    have hk2:k1<arr'.length:=by rw[←h3.out];exact hlt
    obtain⟨b1,f1,a1,c1,aa1,ac1,oa1,oc1,rfl,P1,C1⟩:=(hA.out.below hb).at hk1
    obtain⟨b2,f2,a2,c2,aa2,ac2,oa2,oc2,rfl,P2,C2⟩:=(hA'.out.below hb).at hk2
    have rx:=hid P1.rd
    have ry:=hid P2.rd
    clear P1 P2
    unfold Cells7 strV at C1 C2
    obtain⟨x,hx⟩:∃x,x=arr[k1]:=⟨_,rfl⟩
    obtain⟨y,hy⟩:∃y,y=arr'[k1]:=⟨_,rfl⟩
    rw[←hx] at C1 rx
    rw[←hy] at C2 ry
    have HXX:=hid hx
    have HYY:=hid hy
    clear hx hy
    obtain⟨p0,p1,p2,p3,p4,p5,p6⟩:=C1
    obtain⟨q0,q1,q2,q3,q4,q5,q6⟩:=C2
    have hxm:=hid (show x ∈ arr by rw[HXX.out];exact List.getElem_mem hk1)
    obtain⟨r,hr⟩:∃r,r=eqB x y:=⟨_,rfl⟩
    have C:Hid (∀W,(W.cell? ⟨B,5,none⟩=some (.slice (some ⟨b1,f1,none⟩) an ac)∧W.cell? ⟨B',5,none⟩=some (.slice (some ⟨b2,f2,none⟩) an ac')∧W.cell? ⟨b1,f1+k1 * 7,none⟩=some (.int .i64 x.kind)∧W.cell? ⟨b1,f1+k1 * 7+1,none⟩=some (.bool x.g)∧W.cell? ⟨b1,f1+k1 * 7+2,none⟩=some (.slice a1 x.ls.length c1)∧W.cell? ⟨b1,f1+k1 * 7+3,none⟩=some (.int .i64 x.e)∧W.cell? ⟨b1,f1+k1 * 7+4,none⟩=some (.string ⟨x.s.toArray⟩)∧W.cell? ⟨b1,f1+k1 * 7+5,none⟩=some (.slice aa1 x.arr.length ac1)∧W.cell? ⟨b1,f1+k1 * 7+6,none⟩=some (.slice oa1 x.obj.length oc1)∧W.cell? ⟨b2,f2+k1 * 7,none⟩=some (.int .i64 y.kind)∧W.cell? ⟨b2,f2+k1 * 7+1,none⟩=some (.bool y.g)∧W.cell? ⟨b2,f2+k1 * 7+2,none⟩=some (.slice a2 y.ls.length c2)∧W.cell? ⟨b2,f2+k1 * 7+3,none⟩=some (.int .i64 y.e)∧W.cell? ⟨b2,f2+k1 * 7+4,none⟩=some (.string ⟨y.s.toArray⟩)∧W.cell? ⟨b2,f2+k1 * 7+5,none⟩=some (.slice aa2 y.arr.length ac2)∧W.cell? ⟨b2,f2+k1 * 7+6,none⟩=some (.slice oa2 y.obj.length oc2)∧Below wr.heap.size wr W)→Calls Tryz.prog 30 #[.agg #[.int .i64 x.kind,.bool x.g,.slice a1 x.ls.length c1,.int .i64 x.e,.string ⟨x.s.toArray⟩,.slice aa1 x.arr.length ac1,.slice oa1 x.obj.length oc1],.agg #[.int .i64 y.kind,.bool y.g,.slice a2 y.ls.length c2,.int .i64 y.e,.string ⟨y.s.toArray⟩,.slice aa2 y.arr.length ac2,.slice oa2 y.obj.length oc2]] W fun en w'=>en=.returned (.bool r)∧Below W.heap.size W w'):=by
     intro W h
     have hb1:=h.2.2.2.2.2.2.2.2.2.2.2.2.2.2.2.2
     rw[hr]
     exact IHa.out x hxm.out y _ _ W (rx.out.stay hb1) (ry.out.stay hb1)
    replace hr:=hid hr
    go_upto_region 8 with fail
    go_cut [61] from 43 to 61 (fun v61 w'=>v61=.bool (!r)∧Below wr.heap.size wr w')
    case first =>
     go_region_held3 (fun W=>W.cell? ⟨B,5,none⟩=some (.slice (some ⟨b1,f1,none⟩) an ac)∧W.cell? ⟨B',5,none⟩=some (.slice (some ⟨b2,f2,none⟩) an ac')∧W.cell? ⟨b1,f1+k1 * 7,none⟩=some (.int .i64 x.kind)∧W.cell? ⟨b1,f1+k1 * 7+1,none⟩=some (.bool x.g)∧W.cell? ⟨b1,f1+k1 * 7+2,none⟩=some (.slice a1 x.ls.length c1)∧W.cell? ⟨b1,f1+k1 * 7+3,none⟩=some (.int .i64 x.e)∧W.cell? ⟨b1,f1+k1 * 7+4,none⟩=some (.string ⟨x.s.toArray⟩)∧W.cell? ⟨b1,f1+k1 * 7+5,none⟩=some (.slice aa1 x.arr.length ac1)∧W.cell? ⟨b1,f1+k1 * 7+6,none⟩=some (.slice oa1 x.obj.length oc1)∧W.cell? ⟨b2,f2+k1 * 7,none⟩=some (.int .i64 y.kind)∧W.cell? ⟨b2,f2+k1 * 7+1,none⟩=some (.bool y.g)∧W.cell? ⟨b2,f2+k1 * 7+2,none⟩=some (.slice a2 y.ls.length c2)∧W.cell? ⟨b2,f2+k1 * 7+3,none⟩=some (.int .i64 y.e)∧W.cell? ⟨b2,f2+k1 * 7+4,none⟩=some (.string ⟨y.s.toArray⟩)∧W.cell? ⟨b2,f2+k1 * 7+5,none⟩=some (.slice aa2 y.arr.length ac2)∧W.cell? ⟨b2,f2+k1 * 7+6,none⟩=some (.slice oa2 y.obj.length oc2)∧Below wr.heap.size wr W) (first | (exact⟨x5,y5,p0,p1,p2,p3,p4,p5,p6,q0,q1,q2,q3,q4,q5,q6,(Below.refl _ _).drew⟩) | (exact Fp (by assumption) (by assumption)) | assumption) ((go_at_call 30;(with_reducible refine (C.out _ ?_).mono ?_);assumption;rintro e3 w3 ⟨rfl,hb3⟩))
     all_goals
      rename_i hHeld
      have hH:=hHeld.2.2.2.2.2.2.2.2.2.2.2.2.2.2.2.2
      clear hHeld
      cases r <;>
      (go_wp2_with fail
       go_meet
       case rel=>exact⟨rfl,hH⟩)
    case rest =>
     obtain⟨rfl,hbw⟩:=hcut
     have HBw:=hid (ae hb hbw)
     have HXw:Hid (BoxV wc B k g a ln c e sb (some ⟨b1,f1,none⟩) an ac oa on oc):=BoxV.stay ⟨x0,x1,x2,x3,x4,x5,x6⟩ hbw
     have HYw:Hid (BoxV wc B' k g' a' ln' c' e' sb (some ⟨b2,f2,none⟩) an ac' oa' on oc'):=BoxV.stay ⟨y0,y1,y2,y3,y4,y5,y6⟩ hbw
     clear hb hbw x0 x1 x2 x3 x4 x5 x6 y0 y1 y2 y3 y4 y5 y6 p0 p1 p2 p3 p4 p5 p6 q0 q1 q2 q3 q4 q5 q6 C rx ry
     cases r with
     | false =>
      obtain rfl:R=false:=hF.out (fun h=>by
       have h1:arr=arr':=congrArg JV.arr h
       have h2:x=y:=by rw[HXX.out,HYY.out];simp only[h1]
       have h3:=hr.out
       rw[jH h2] at h3
       cases h3)
      go_wp2_with fail
      go_ret
      exact⟨rfl,HBw.out⟩
     | true =>
      have hxy:Hid (x=y):=yZ.1 hr.out.symm
      go_wp2
      go_roundw
      case rel=>exact⟨k1+1,by omega,hid (by rw[List.take_succ_eq_append_getElem hk1,List.take_succ_eq_append_getElem hk2,hM.out,←HXX.out,←HYY.out,hxy.out]),by first | rfl | go_num,HBw.out,HXw.out,HYw.out⟩
      case measure=>simp[intOf];omega
   ·obtain rfl:k1=an:=by omega
    have hlt2:¬ ((k1:Nat):Int)<(k1:Int):=by omega
    have hArr:Hid (arr=arr'):=by
     have:=hM.out
     rw[List.take_of_length_le (by rw[hal'.out];exact Nat.le_refl _),List.take_of_length_le (by rw[←h3.out];exact Nat.le_refl _)] at this
     exact this
    clear hM
    have HB:=hid hb
    have HX:Hid (BoxV wr B k g a ln c e sb aa k1 ac oa on oc):=⟨x0,x1,x2,x3,x4,x5,x6⟩
    have HY:Hid (BoxV wr B' k g' a' ln' c' e' sb aa' k1 ac' oa' on oc'):=⟨y0,y1,y2,y3,y4,y5,y6⟩
    clear hb
    go_wp2
    clear x0 x1 x2 x3 x4 x5 x6 y0 y1 y2 y3 y4 y5 y6
    go_loopw [6] (fun v6 wr=>∃j:Nat,j≤on∧Hid (obj.take j=obj'.take j)∧v6=.int .i64 j∧Below w.heap.size w wr∧BoxV wr B k g a ln c e sb aa k1 ac oa on oc∧BoxV wr B' k g' a' ln' c' e' sb aa' k1 ac' oa' on oc') (fun v6 _=>on-(intOf v6).toNat)
    case atStart=>exact⟨0,Nat.zero_le _,hid (by simp),rfl,HB.out,HX.out,HY.out⟩
    case round =>
     obtain⟨j,hj,hM2,rfl,hb,hx,hy⟩:=hrel
     clear HB HX HY
     obtain⟨x0,x1,x2,x3,x4,x5,x6⟩:=hx
     obtain⟨y0,y1,y2,y3,y4,y5,y6⟩:=hy
     by_cases hlt:j<on
     ·have hlt3:(j:Int)<(on:Int):=by omega
      have hk1:j<obj.length:=by rw[hol'.out];exact hlt
      have hk2:j<obj'.length:=by rw[←h4.out];exact hlt
      obtain⟨b1,f1,a1,c1,aa1,ac1,oa1,oc1,rfl,_,P1,C1⟩:=(hO.out.below hb).at hk1
      obtain⟨b2,f2,a2,c2,aa2,ac2,oa2,oc2,rfl,_,P2,C2⟩:=(hO'.out.below hb).at hk2
      have rx:=hid P1.rd
      have ry:=hid P2.rd
      clear P1 P2
      unfold Cells8f strV at C1 C2
      obtain⟨x,hx⟩:∃x,x=obj[j]:=⟨_,rfl⟩
      obtain⟨y,hy⟩:∃y,y=obj'[j]:=⟨_,rfl⟩
      rw[←hx] at C1 rx
      rw[←hy] at C2 ry
      have HXX:=hid hx
      have HYY:=hid hy
      clear hx hy
      have hxm:=hid (show x ∈ obj by rw[HXX.out];exact List.getElem_mem hk1)
      obtain⟨kx,x⟩:=x
      obtain⟨ky,y⟩:=y
      simp only at C1 C2 rx ry
      obtain⟨p0,p1,p2,p3,p4,p5,p6,p7⟩:=C1
      obtain⟨q0,q1,q2,q3,q4,q5,q6,q7⟩:=C2
      by_cases hkk:kx=ky
      ·subst hkk
       generalize (⟨kx.toArray⟩:ByteArray)=kb at *
       obtain⟨r,hr⟩:∃r,r=eqB x y:=⟨_,rfl⟩
       have C:Hid (∀W,(W.cell? ⟨B,6,none⟩=some (.slice (some ⟨b1,f1,none⟩) on oc)∧W.cell? ⟨B',6,none⟩=some (.slice (some ⟨b2,f2,none⟩) on oc')∧W.cell? ⟨b1,f1+j * 8,none⟩=some (.string kb)∧W.cell? ⟨b1,f1+j * 8+1,none⟩=some (.int .i64 x.kind)∧W.cell? ⟨b1,f1+j * 8+2,none⟩=some (.bool x.g)∧W.cell? ⟨b1,f1+j * 8+3,none⟩=some (.slice a1 x.ls.length c1)∧W.cell? ⟨b1,f1+j * 8+4,none⟩=some (.int .i64 x.e)∧W.cell? ⟨b1,f1+j * 8+5,none⟩=some (.string ⟨x.s.toArray⟩)∧W.cell? ⟨b1,f1+j * 8+6,none⟩=some (.slice aa1 x.arr.length ac1)∧W.cell? ⟨b1,f1+j * 8+7,none⟩=some (.slice oa1 x.obj.length oc1)∧W.cell? ⟨b2,f2+j * 8,none⟩=some (.string kb)∧W.cell? ⟨b2,f2+j * 8+1,none⟩=some (.int .i64 y.kind)∧W.cell? ⟨b2,f2+j * 8+2,none⟩=some (.bool y.g)∧W.cell? ⟨b2,f2+j * 8+3,none⟩=some (.slice a2 y.ls.length c2)∧W.cell? ⟨b2,f2+j * 8+4,none⟩=some (.int .i64 y.e)∧W.cell? ⟨b2,f2+j * 8+5,none⟩=some (.string ⟨y.s.toArray⟩)∧W.cell? ⟨b2,f2+j * 8+6,none⟩=some (.slice aa2 y.arr.length ac2)∧W.cell? ⟨b2,f2+j * 8+7,none⟩=some (.slice oa2 y.obj.length oc2)∧Below wr.heap.size wr W)→Calls Tryz.prog 30 #[.agg #[.int .i64 x.kind,.bool x.g,.slice a1 x.ls.length c1,.int .i64 x.e,.string ⟨x.s.toArray⟩,.slice aa1 x.arr.length ac1,.slice oa1 x.obj.length oc1],.agg #[.int .i64 y.kind,.bool y.g,.slice a2 y.ls.length c2,.int .i64 y.e,.string ⟨y.s.toArray⟩,.slice aa2 y.arr.length ac2,.slice oa2 y.obj.length oc2]] W fun en w'=>en=.returned (.bool r)∧Below W.heap.size W w'):=by
        intro W h
        have hb1:=h.2.2.2.2.2.2.2.2.2.2.2.2.2.2.2.2.2.2
        rw[hr]
        exact IHo.out _ hxm.out y _ _ W (rx.out.stay hb1) (ry.out.stay hb1)
       replace hr:=hid hr
       have qk:(kb.toList == kb.toList)=true:=by simp
       go_upto_region 13 with fail
       go_cut [97] from 62 to 97 (fun v97 w'=>v97=.bool (!r)∧Below wr.heap.size wr w')
       case first =>
        go_region_held3 (fun W=>W.cell? ⟨B,6,none⟩=some (.slice (some ⟨b1,f1,none⟩) on oc)∧W.cell? ⟨B',6,none⟩=some (.slice (some ⟨b2,f2,none⟩) on oc')∧W.cell? ⟨b1,f1+j * 8,none⟩=some (.string kb)∧W.cell? ⟨b1,f1+j * 8+1,none⟩=some (.int .i64 x.kind)∧W.cell? ⟨b1,f1+j * 8+2,none⟩=some (.bool x.g)∧W.cell? ⟨b1,f1+j * 8+3,none⟩=some (.slice a1 x.ls.length c1)∧W.cell? ⟨b1,f1+j * 8+4,none⟩=some (.int .i64 x.e)∧W.cell? ⟨b1,f1+j * 8+5,none⟩=some (.string ⟨x.s.toArray⟩)∧W.cell? ⟨b1,f1+j * 8+6,none⟩=some (.slice aa1 x.arr.length ac1)∧W.cell? ⟨b1,f1+j * 8+7,none⟩=some (.slice oa1 x.obj.length oc1)∧W.cell? ⟨b2,f2+j * 8,none⟩=some (.string kb)∧W.cell? ⟨b2,f2+j * 8+1,none⟩=some (.int .i64 y.kind)∧W.cell? ⟨b2,f2+j * 8+2,none⟩=some (.bool y.g)∧W.cell? ⟨b2,f2+j * 8+3,none⟩=some (.slice a2 y.ls.length c2)∧W.cell? ⟨b2,f2+j * 8+4,none⟩=some (.int .i64 y.e)∧W.cell? ⟨b2,f2+j * 8+5,none⟩=some (.string ⟨y.s.toArray⟩)∧W.cell? ⟨b2,f2+j * 8+6,none⟩=some (.slice aa2 y.arr.length ac2)∧W.cell? ⟨b2,f2+j * 8+7,none⟩=some (.slice oa2 y.obj.length oc2)∧Below wr.heap.size wr W) (first | (exact⟨x6,y6,p0,p1,p2,p3,p4,p5,p6,p7,q0,q1,q2,q3,q4,q5,q6,q7,(Below.refl _ _).drew⟩) | (exact Fq (by assumption) (by assumption)) | assumption) ((go_at_call 30;(with_reducible refine (C.out _ ?_).mono ?_);assumption;rintro e3 w3 ⟨rfl,hb3⟩))
        all_goals
         rename_i hHeld
         have hH:=hHeld.2.2.2.2.2.2.2.2.2.2.2.2.2.2.2.2.2.2
         clear hHeld
         cases r <;>
         (go_wp2_with fail
          go_meet
          case rel=>exact⟨rfl,hH⟩)
       case rest =>
        obtain⟨rfl,hbw⟩:=hcut
        have HBw:=hid (ae hb hbw)
        have HXw:Hid (BoxV wc B k g a ln c e sb aa k1 ac (some ⟨b1,f1,none⟩) on oc):=BoxV.stay ⟨x0,x1,x2,x3,x4,x5,x6⟩ hbw
        have HYw:Hid (BoxV wc B' k g' a' ln' c' e' sb aa' k1 ac' (some ⟨b2,f2,none⟩) on oc'):=BoxV.stay ⟨y0,y1,y2,y3,y4,y5,y6⟩ hbw
        clear hb hbw x0 x1 x2 x3 x4 x5 x6 y0 y1 y2 y3 y4 y5 y6 p0 p1 p2 p3 p4 p5 p6 p7 q0 q1 q2 q3 q4 q5 q6 q7 C rx ry qk
        cases r with
        | false =>
         obtain rfl:R=false:=hF.out (fun h=>by
          have h1:obj=obj':=congrArg JV.obj h
          have h2:(kx,x)=(kx,y):=by rw[HXX.out,HYY.out];simp only[h1]
          have h3:=hr.out
          rw[jH (Prod.mk.inj h2).2] at h3
          cases h3)
         go_wp2_with fail
         go_ret
         exact⟨rfl,HBw.out⟩
        | true =>
         have hxy:Hid (x=y):=yZ.1 hr.out.symm
         go_wp2
         go_roundw
         case rel=>exact⟨j+1,by omega,hid (by rw[List.take_succ_eq_append_getElem hk1,List.take_succ_eq_append_getElem hk2,hM2.out,←HXX.out,←HYY.out,hxy.out]),by first | rfl | go_num,HBw.out,HXw.out,HYw.out⟩
         case measure=>simp[intOf];omega
      ·obtain rfl:R=false:=hF.out (fun h=>by
        have h1:obj=obj':=congrArg JV.obj h
        have h2:(kx,x)=(ky,y):=by rw[HXX.out,HYY.out];simp only[h1]
        exact hkk (Prod.mk.inj h2).1)
       have qk:=Dz hkk
       generalize (⟨kx.toArray⟩:ByteArray)=kb at *
       generalize (⟨ky.toArray⟩:ByteArray)=kb' at *
       clear hkk
       go_upto_region 13 with fail
       first | go_quiet (fail) | fail
       all_goals
        go_wp2_with fail
        go_ret
        exact⟨rfl,by first | exact below_drewN hb _ | exact hb⟩
     ·obtain rfl:j=on:=by omega
      have hlt3:¬ ((j:Nat):Int)<(j:Int):=by omega
      obtain rfl:R=true:=hT.out (by
       have h5:=hM2.out
       rw[List.take_of_length_le (by rw[hol'.out];exact Nat.le_refl _),List.take_of_length_le (by rw[←h4.out];exact Nat.le_refl _)] at h5
       have h6:=hnum.out
       obtain⟨h7,h8,h9⟩:=h6
       have h10:=hArr.out
       subst h5 h7 h8 h9 h10
       rfl)
      go_wp2
      go_ret
      exact⟨rfl,hb⟩
theorem ou:∀(n:Nat) (v:JV),SizeOf.sizeOf v≤n→SameC v
 | 0,v,h=>by
  obtain⟨k,g,ls,e,s,arr,obj⟩:=v
  simp at h
 | n+1,v,h=>fun u cs ct w rv ru=>by
  obtain⟨a,c,aa,ac,oa,oc,P⟩:=rv.parts
  obtain⟨a',c',aa',ac',oa',oc',P'⟩:=ru.parts
  have e1:=P.cells
  have e2:=P'.cells
  subst e1 e2
  refine AQ v u (fun x hx=>ou n x ?_) (fun p hp=>ou n p.2 ?_) a a' c c' aa aa' ac ac' oa oa' oc oc' w P P'
  ·obtain⟨k,g,ls,e,s,arr,obj⟩:=v
   have h1:=List.sizeOf_lt_of_mem hx
   simp only[JV.arr] at h1
   simp at h
   omega
  ·obtain⟨k,g,ls,e,s,arr,obj⟩:=v
   have h1:=List.sizeOf_lt_of_mem hp
   simp only[JV.obj] at h1
   obtain⟨kp,p⟩:=p
   simp at h h1
   show SizeOf.sizeOf p≤n
   omega
theorem xB (v:JV):SameC v:=ou _ v (Nat.le_refl _)
end Go.Proofs.YtcgbmmalfbpjaaaGreatDoor
