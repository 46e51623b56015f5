/-  -/
import Derived.Test.YtcgbmmalfbpjaaaGreatDoorMn
import Derived.Test.YtcgbmmalfbpjaaaGreatDoorMp
import Derived.Test.YtcgbmmalfbpjaaaGreatDoorPa
set_option maxRecDepth 100000
set_option maxHeartbeats 16000000
namespace Go.Proofs.YtcgbmmalfbpjaaaGreatDoor
open Go.RowKit
noncomputable def hideW (A:Nat→Prop) (w:World):World:=by
 classical exact { w with heap:=w.heap.mapIdx fun k o=>if A k then .stringIter ⟨#[]⟩ 0 else o }
theorem aI {A:Nat→Prop}{w:World}{a:Addr}{u:Value}:(hideW A w).cell? a=some u ↔ ¬ A a.block∧w.cell? a=some u:=by
 classical
 unfold hideW World.cell?
 simp only[Array.getElem?_mapIdx]
 cases h:w.heap[a.block]? with
 | none=>simp
 | some o =>
  simp only[Option.map_some]
  by_cases hA:A a.block
  ·rw[if_pos hA];simp[hA]
  ·rw[if_neg hA];simp[hA]
def SubW (w w':World):Prop:=∀a u,w.cell? a=some u→w'.cell? a=some u
theorem SubW.trans {a b c:World}(h:SubW a b)(k:SubW b c):SubW a c:=fun x u hx=>k x u (h x u hx)
theorem SubW.below {w w':World}(h:Below w.heap.size w w'):SubW w w':=fun a u hu=>by
 obtain⟨b,off,sp⟩:=a
 have hb:b<w.heap.size:=World.block_lt_of_cell? w ⟨b,off,sp⟩ hu
 have e:=h.block b hb
 unfold World.cell? at hu ⊢
 rw[e]
 exact hu
theorem aC (A:Nat→Prop)(w:World):SubW (hideW A w) w:=fun _ _ h=>(aI.1 h).2
theorem az {A A':Nat→Prop}{w w':World}(hA:∀k,k<w.heap.size→A' k→A k)(h:Below w.heap.size w w'):SubW (hideW A w) (hideW A' w'):=fun a u hu=>by
 have h1:=aI.1 hu
 exact aI.2 ⟨fun h2=>h1.1 (hA _ (World.block_lt_of_cell? w a h1.2) h2),SubW.below h a u h1.2⟩
theorem pI {A A':Nat→Prop}{w:World}(hA:∀k,A' k→A k):SubW (hideW A w) (hideW A' w):=fun a u hu=>by
 have h1:=aI.1 hu
 exact aI.2 ⟨fun h2=>h1.1 (hA _ h2),h1.2⟩
theorem bT {r:Nat}:∀(zs:List Value) (o:Nat) (w:World) (a:Addr),a.block≠r→(w.setCells r o zs).cell? a=w.cell? a:=fun zs o w a ha =>
 World.cell?_setCells_out r zs o w a fun h=>absurd h ha
theorem gW {A:Nat→Prop}{w:World}{r o:Nat}{zs:List Value}(hr:A r):SubW (hideW A w) (hideW A (w.setCells r o zs)):=fun a u hu=>by
 have h1:=aI.1 hu
 exact aI.2 ⟨h1.1,by rw[bT zs o w a (fun h=>h1.1 (by rw[h];exact hr))];exact h1.2⟩
theorem Row.sub {w w':World}{a:Option Addr}{xs:List Value}(h:Row w a xs)(hs:SubW w w'):Row w' a xs:=fun j x hx=>by
 obtain⟨b,off,e,hc⟩:=h j x hx
 exact⟨b,off,e,hs _ _ hc⟩
theorem U32.sub {w w':World}{a:Option Addr}{xs:List Nat}(h:U32 w a xs)(hs:SubW w w'):U32 w' a xs:=⟨h.row.sub hs,h.lt⟩
theorem CellsAt.sub {w w':World}{a:Option Addr}{k:Nat}{cs:List Value}(h:CellsAt w a k cs)(hs:SubW w w'):CellsAt w' a k cs:=by
 obtain⟨b,off,e,hc⟩:=h
 exact⟨b,off,e,fun j v hv=>hs _ _ (hc j v hv)⟩
theorem RdV.sub {w w':World}{cs:List Value}{v:JV}(h:RdV w cs v)(hs:SubW w w'):RdV w' cs v:=by
 induction h with
 | mk kind g a ls c e s aa arr ac oa obj oc csA csO hk he hl hac hoc hcap hu hA hA2 hO hO2 ihA ihO =>
  exact .mk kind g a ls c e s aa arr ac oa obj oc csA csO hk he hl hac hoc hcap (hu.sub hs) (fun i hi=>(hA i hi).sub hs) ihA (fun i x hx=>⟨(hO i x hx).1.sub hs,(hO i x hx).2⟩) ihO
theorem RdA.sub {w w':World}{aa:Option Addr}{arr:List JV}(h:RdA w aa arr)(hs:SubW w w'):RdA w' aa arr:=fun i x hx=>by
 obtain⟨cs,h1,h2⟩:=h i x hx
 exact⟨cs,h1.sub hs,h2.sub hs⟩
theorem RdO.sub {w w':World}{oa:Option Addr}{obj:List (List UInt8 × JV)}(h:RdO w oa obj)(hs:SubW w w'):RdO w' oa obj:=fun i x hx=>by
 obtain⟨cs,h1,h2,h3⟩:=h i x hx
 exact⟨cs,h1.sub hs,h2,h3.sub hs⟩
def RdX (A:Nat→Prop) (w:World) (cs:List Value) (v:JV):Prop:=RdV (hideW A w) cs v
theorem RdX.rd {A:Nat→Prop}{w:World}{cs:List Value}{v:JV}(h:RdX A w cs v):RdV w cs v:=RdV.sub h (aC A w)
theorem RdX.stay {A:Nat→Prop}{w w':World}{cs:List Value}{v:JV}(h:RdX A w cs v)(hb:Below w.heap.size w w'):RdX A w' cs v:=RdV.sub h (az (fun _ _ h=>h) hb)
theorem RdX.less {A A':Nat→Prop}{w:World}{cs:List Value}{v:JV}(h:RdX A w cs v)(hA:∀k,A' k→A k):RdX A' w cs v:=RdV.sub h (pI hA)
def And1 (A:Nat→Prop) (r:Nat):Nat→Prop:=fun k=>A k∨k=r
theorem RdX.new {A:Nat→Prop}{w w':World}{cs:List Value}{v:JV}{r:Nat}(h:RdX A w cs v)(hb:Below w.heap.size w w')(hr:w.heap.size≤r):RdX (And1 A r) w' cs v :=
 RdV.sub h (az (fun k hk h=>h.elim id fun e=>by omega) hb)
theorem RdX.put {A:Nat→Prop}{w:World}{cs:List Value}{v:JV}{r o:Nat}{zs:List Value}(h:RdX (And1 A r) w cs v):RdX A (w.setCells r o zs) cs v :=
 RdX.less (A:=And1 A r) (RdV.sub h (gW (Or.inr rfl))) fun _ h=>Or.inl h
theorem RdX.keep {A:Nat→Prop}{w:World}{cs:List Value}{v:JV}{r o:Nat}{zs:List Value}(h:RdX A w cs v)(hr:A r):RdX A (w.setCells r o zs) cs v:=RdV.sub h (gW hr)
theorem BU (A:Nat→Prop)(w:World):RdX A w (valCs 0 false none 0 0 0 [] none 0 0 none 0 0) .null:=dZ _
def In (A:Nat→Prop) (w:World):Prop:=∀k,A k→k<w.heap.size
theorem In.next {A:Nat→Prop}{w w':World}(h:In A w)(hb:Below w.heap.size w w'):In A w':=fun k hk=>Nat.lt_of_lt_of_le (h k hk) hb.size
theorem In.new {A:Nat→Prop}{w w':World}{r:Nat}(h:In A w)(hb:Below w.heap.size w w')(hr:r<w'.heap.size):In (And1 A r) w':=fun k hk=>hk.elim (fun h1=>h.next hb k h1) fun e=>by rw[e];exact hr
theorem zD {A:Nat→Prop}{w w':World}{cs:List Value}{v:JV}(h:RdV w cs v)(hA:∀k,¬ A k)(hb:Below w.heap.size w w'):RdX A w' cs v :=
 RdV.sub h fun a u hu=>aI.2 ⟨hA _,SubW.below hb a u hu⟩
def OutX (A:Nat→Prop) (w:World) (x:JV) (err:Nat) (e:Ending) (w':World):Prop:=∃cs,e=.returned (.tuple #[.agg cs.toArray,.int .i64 err])∧RdX A w' cs x∧Below w.heap.size w w'
theorem aO {A:Nat→Prop}{w W:World}{r err:Nat}{zs:List Value}(hb:Below w.heap.size w W)(hr:w.heap.size≤r) :
  OutX A w .null err (.returned (.tuple #[.agg #[.int .i64 0,.bool false,.slice none 0 0,.int .i64 0,.string ⟨#[]⟩,.slice none 0 0,.slice none 0 0],.int .i64 err])) (W.setCells r 0 zs) :=
 ⟨valCs 0 false none 0 0 0 [] none 0 0 none 0 0,rfl,BU _ _,aF r hr _ _ _ hb⟩
theorem aZ {A:Nat→Prop}{w W:World}{r err:Nat}{zs:List Value}{z0 z1 z2 z3 z4 z5 z6:Value}{x:JV}(h:RdX (And1 A r) W [z0,z1,z2,z3,z4,z5,z6] x)(hb:Below w.heap.size w W)(hr:w.heap.size≤r) :
  OutX A w x err (.returned (.tuple #[.agg #[z0,z1,z2,z3,z4,z5,z6],.int .i64 err])) (W.setCells r 0 zs) :=
 ⟨[z0,z1,z2,z3,z4,z5,z6],rfl,RdX.put h,aF r hr _ _ _ hb⟩
theorem di {A:Nat→Prop}{w W:World}{r err:Nat}{zs:List Value}{z0 z1 z2 z3 z4 z5 z6:Value}{x:JV}(h:RdX A w [z0,z1,z2,z3,z4,z5,z6] x)(hb:Below w.heap.size w W)(hr:w.heap.size≤r) :
  OutX A w x err (.returned (.tuple #[.agg #[z0,z1,z2,z3,z4,z5,z6],.int .i64 err])) (W.setCells r 0 zs):=aZ (RdX.new h hb hr) hb hr
theorem Cells8f.sub {w w':World}{b o:Nat}{key:List UInt8}{kind:Int}{g:Bool}{a:Option Addr}{n c:Nat}{e:Int}{s:List UInt8}{aa:Option Addr}{an ac:Nat}{oa:Option Addr}{on oc:Nat}
  (h:Cells8f w b o key kind g a n c e s aa an ac oa on oc)(hs:SubW w w'):Cells8f w' b o key kind g a n c e s aa an ac oa on oc:=by
 obtain⟨h0,h1,h2,h3,h4,h5,h6,h7⟩:=h
 exact⟨hs _ _ h0,hs _ _ h1,hs _ _ h2,hs _ _ h3,hs _ _ h4,hs _ _ h5,hs _ _ h6,hs _ _ h7⟩
theorem vX {A:Nat→Prop}{w W:World}{r err:Nat}{zs:List Value}{k:Int}{g:Bool}{a:Option Addr}{ln c:Nat}{e:Int}{s:List UInt8}{aa:Option Addr}{an ac:Nat}{oa:Option Addr}{on oc:Nat}{x:JV}(h:RdX A w (valCs k g a ln c e s aa an ac oa on oc) x)(hb:Below w.heap.size w W)(hr:w.heap.size≤r) :
  OutX A w x err (.returned (.tuple #[.agg #[.int .i64 k,.bool g,.slice a ln c,.int .i64 e,.string ⟨s.toArray⟩,.slice aa an ac,.slice oa on oc],.int .i64 err])) (W.setCells r 0 zs):=di h hb hr
theorem sW {A:Nat→Prop}{w w':World}{cs:List Value}(h:RdV w cs .null):RdX A w' cs .null:=by
 obtain⟨a,c,aa,ac,oa,oc,P⟩:=h.parts
 exact PartsV.rd (v:=.null) ⟨P.cells,P.k,P.e,P.s,P.ac,P.oc,P.c,⟨Row.nil _ _,fun x hx=>by cases hx⟩,fun i x hx=>by simp[JV.null,JV.arr] at hx,fun i x hx=>by simp[JV.null,JV.obj] at hx⟩
theorem dO {A:Nat→Prop}{w w':World}{err:Nat}{e:Ending}(h:OutV w .null err e w'):OutX A w .null err e w':=by
 obtain⟨cs,h1,h2,h3⟩:=h
 exact⟨cs,h1,sW h2,h3⟩
theorem zB (A:Nat→Prop)(k:Int)(g:Bool)(a:Option Addr)(l c:Nat)(e:Int)(s:List UInt8)(aa:Option Addr)(an ac:Nat)(oa:Option Addr)(on oc:Nat)(key:List UInt8)(w:World)(m1 sd:Bool)(idx:Int)(x:JV)(err:Nat)
  (h1:∀W,Below w.heap.size w W→Calls Tryz.prog 20 #[valV k g a l c e s aa an ac oa on oc] W fun en w'=>en=.returned (.bool m1)∧Below W.heap.size W w')
  (h2:∀W,Below w.heap.size w W→Calls Tryz.prog 76 #[strV key] W fun en w'=>en=.returned (.bool sd)∧Below W.heap.size W w')
  (h3:∀W,Below w.heap.size w W→Calls Tryz.prog 77 #[valV k g a l c e s aa an ac oa on oc,strV key] W fun en w'=>en=.returned (.int .i64 idx)∧Below W.heap.size W w')
  (hx:((m1=false∨sd=false)∧x=.null∧err=1)∨(m1=true∧sd=true∧k≠6∧k≠0∧x=.null∧err=9)∨(m1=true∧sd=true∧(k=6∨k=0)∧idx=-1∧x=.null∧err=0) ∨
   (m1=true∧sd=true∧(k=6∨k=0)∧err=0∧∃(i:Nat) (b off:Nat) (k':Int) (g':Bool) (a':Option Addr) (l' c':Nat) (e':Int) (s':List UInt8) (aa':Option Addr) (an' ac':Nat) (oa':Option Addr) (on' oc':Nat),idx=(i:Int)∧i<on∧on≤9223372036854775807∧oa=some ⟨b,off,none⟩ ∧
    Cells7 w b (off+i * 8+1) k' g' a' l' c' e' s' aa' an' ac' oa' on' oc'∧RdX A w (valCs k' g' a' l' c' e' s' aa' an' ac' oa' on' oc') x)) :
  Calls Tryz.prog 48 #[valV k g a l c e s aa an ac oa on oc,strV key] w (OutX A w x err):=by
 unfold valV strV at *
 generalize (⟨s.toArray⟩:ByteArray)=sb at *
 generalize (⟨key.toArray⟩:ByteArray)=kb at *
 obtain⟨W,hW⟩:∃W,W=(w.alloc (.cells #[.int .i64 k,.bool g,.slice a l c,.int .i64 e,.string sb,.slice aa an ac,.slice oa on oc] 28)).alloc (.cells #[.int .i64 0,.bool false,.slice none 0 0,.int .i64 0,.string ⟨#[]⟩,.slice none 0 0,.slice none 0 0] 28):=⟨_,rfl⟩
 have HB:=hid (show Below w.heap.size w W by rw[hW];exact aW _ _ _)
 have HX:Hid (BoxV W w.heap.size k g a l c e sb aa an ac oa on oc):=by
  rw[hW]
  exact⟨by simp[go_sem],by simp[go_sem],by simp[go_sem],by simp[go_sem],by simp[go_sem],by simp[go_sem],by simp[go_sem]⟩
 have HZ:Hid (W.heap[w.heap.size+1]? = some (.cells #[.int .i64 0,.bool false,.slice none 0 0,.int .i64 0,.string ⟨#[]⟩,.slice none 0 0,.slice none 0 0] 28)):=by
  rw[hW]
  exact aB w _ _
 replace hW:=hid hW.symm
 replace h1:=hid h1
 replace h2:=hid h2
 replace h3:=hid h3
 have hr1:Hid (w.heap.size≤w.heap.size+1):=Nat.le_succ _
 rcases hx with ⟨hm,rfl,rfl⟩ | ⟨rfl,rfl,hk6,hk0,rfl,rfl⟩ | ⟨rfl,rfl,hk,rfl,rfl,rfl⟩ | ⟨rfl,rfl,hk,rfl,i,b,off,k',g',a',l',c',e',s',aa',an',ac',oa',on',oc',rfl,hi,hon,rfl,hc7,hrd⟩
 ·have hOut:=hid fun W' (hb:Below w.heap.size w W')=>aO (A:=A) (err:=1) (zs:=[.int .i64 0,.bool false,.slice none 0 0,.int .i64 0,.string ⟨#[]⟩,.slice none 0 0,.slice none 0 0]) hb hr1.out
  cases m1 with
  | false =>
   clear hm
   go_enter Tryz.func48,Tryz.ntmps48
   go_wp2_with fail
   rw[hW.out]
   refine (h1.out _ HB.out).mono ?_
   rintro en w1 ⟨rfl,hb⟩
   have q1:=hid (ae HB.out hb)
   obtain⟨⟨r0,r1,r2,r3,r4,r5,r6⟩,s0,s1,s2,s3,s4,s5,s6⟩:=ag (af HZ.out hb)
   clear hb
   go_wp2_with fail
   refine bodyPost_ret (v:=.tuple #[.agg #[.int .i64 0,.bool false,.slice none 0 0,.int .i64 0,.string ⟨#[]⟩,.slice none 0 0,.slice none 0 0],.int .i64 1]) (by simp[results,Tryz.results48,go_sem,r0,r1,r2,r3,r4,r5,r6]) rfl ?_
   exact hOut.out _ q1.out
  | true =>
   obtain rfl:sd=false:=by rcases hm with h | h;cases h;exact h
   clear hm
   go_enter Tryz.func48,Tryz.ntmps48
   go_wp2_with fail
   rw[hW.out]
   refine (h1.out _ HB.out).mono ?_
   rintro en w1 ⟨rfl,hb⟩
   have q1:=hid (ae HB.out hb)
   have z1:=hid (af HZ.out hb)
   clear hb
   go_wp2_with fail
   refine (h2.out _ q1.out).mono ?_
   rintro en w2 ⟨rfl,hb⟩
   have q2:=hid (ae q1.out hb)
   obtain⟨⟨r0,r1,r2,r3,r4,r5,r6⟩,s0,s1,s2,s3,s4,s5,s6⟩:=ag (af z1.out hb)
   clear hb
   go_wp2_with fail
   refine bodyPost_ret (v:=.tuple #[.agg #[.int .i64 0,.bool false,.slice none 0 0,.int .i64 0,.string ⟨#[]⟩,.slice none 0 0,.slice none 0 0],.int .i64 1]) (by simp[results,Tryz.results48,go_sem,r0,r1,r2,r3,r4,r5,r6]) rfl ?_
   exact hOut.out _ q2.out
 ·have hOut:=hid fun W' (hb:Below w.heap.size w W')=>aO (A:=A) (err:=9) (zs:=[.int .i64 0,.bool false,.slice none 0 0,.int .i64 0,.string ⟨#[]⟩,.slice none 0 0,.slice none 0 0]) hb hr1.out
  have f6:(k != 6)=true:=by rw[bne_iff_ne];exact hk6
  have f0:(k != 0)=true:=by rw[bne_iff_ne];exact hk0
  clear hk6 hk0
  go_enter Tryz.func48,Tryz.ntmps48
  go_wp2_with fail
  rw[hW.out]
  refine (h1.out _ HB.out).mono ?_
  rintro en w1 ⟨rfl,hb⟩
  have q1:=hid (ae HB.out hb)
  have z1:=hid (af HZ.out hb)
  have x1:=hid (HX.out.stay hb)
  clear hb
  go_wp2_with fail
  refine (h2.out _ q1.out).mono ?_
  rintro en w2 ⟨rfl,hb⟩
  have q2:=hid (ae q1.out hb)
  obtain⟨⟨r0,r1,r2,r3,r4,r5,r6⟩,s0,s1,s2,s3,s4,s5,s6⟩:=ag (af z1.out hb)
  obtain⟨p0,p1,p2,p3,p4,p5,p6⟩:=x1.out.stay hb
  clear hb
  go_wp2_with fail
  refine bodyPost_ret (v:=.tuple #[.agg #[.int .i64 0,.bool false,.slice none 0 0,.int .i64 0,.string ⟨#[]⟩,.slice none 0 0,.slice none 0 0],.int .i64 9]) (by simp[results,Tryz.results48,go_sem,r0,r1,r2,r3,r4,r5,r6]) rfl ?_
  exact hOut.out _ q2.out
 ·have hOut:=hid fun W' (hb:Below w.heap.size w W')=>aO (A:=A) (err:=0) (zs:=[.int .i64 0,.bool false,.slice none 0 0,.int .i64 0,.string ⟨#[]⟩,.slice none 0 0,.slice none 0 0]) hb hr1.out
  rcases hk with rfl | rfl
  all_goals
   go_enter Tryz.func48,Tryz.ntmps48
   go_wp2_with fail
   rw[hW.out]
   refine (h1.out _ HB.out).mono ?_
   rintro en w1 ⟨rfl,hb⟩
   have q1:=hid (ae HB.out hb)
   have z1:=hid (af HZ.out hb)
   have x1:=hid (HX.out.stay hb)
   clear hb
   go_wp2_with fail
   refine (h2.out _ q1.out).mono ?_
   rintro en w2 ⟨rfl,hb⟩
   have q2:=hid (ae q1.out hb)
   have z2:=hid (af z1.out hb)
   obtain⟨p0,p1,p2,p3,p4,p5,p6⟩:=x1.out.stay hb
   clear hb
   go_wp2_with fail
   refine (h3.out _ q2.out).mono ?_
   rintro en w3 ⟨rfl,hb⟩
   have q3:=hid (ae q2.out hb)
   obtain⟨⟨r0,r1,r2,r3,r4,r5,r6⟩,s0,s1,s2,s3,s4,s5,s6⟩:=ag (af z2.out hb)
   clear hb
   go_wp2_with fail
   refine bodyPost_ret (v:=.tuple #[.agg #[.int .i64 0,.bool false,.slice none 0 0,.int .i64 0,.string ⟨#[]⟩,.slice none 0 0,.slice none 0 0],.int .i64 0]) (by simp[results,Tryz.results48,go_sem,r0,r1,r2,r3,r4,r5,r6]) rfl ?_
   exact hOut.out _ q3.out
 ·have hOut:=hid fun W' (hb:Below w.heap.size w W')=>vX (A:=A) (err:=0) (zs:=[.int .i64 k',.bool g',.slice a' l' c',.int .i64 e',.string ⟨s'.toArray⟩,.slice aa' an' ac',.slice oa' on' oc']) hrd hb hr1.out
  unfold Cells7 strV at hc7
  have hl7:=ax hc7.1
  generalize (⟨s'.toArray⟩:ByteArray)=sb' at *
  have hC:Hid (∀W',Below w.heap.size w W'→(W'.cell? ⟨b,off+i * 8+1,none⟩=some (.int .i64 k')∧W'.cell? ⟨b,off+i * 8+1+1,none⟩=some (.bool g')∧W'.cell? ⟨b,off+i * 8+1+2,none⟩=some (.slice a' l' c')∧W'.cell? ⟨b,off+i * 8+1+3,none⟩=some (.int .i64 e')∧W'.cell? ⟨b,off+i * 8+1+4,none⟩=some (.string sb')∧W'.cell? ⟨b,off+i * 8+1+5,none⟩=some (.slice aa' an' ac')∧W'.cell? ⟨b,off+i * 8+1+6,none⟩=some (.slice oa' on' oc'))):=by
   intro W' hb
   obtain⟨u0,u1,u2,u3,u4,u5,u6⟩:=hc7
   exact⟨ai u0 hb,ai u1 hb,ai u2 hb,ai u3 hb,ai u4 hb,ai u5 hb,ai u6 hb⟩
  clear hc7 hl7 hrd
  have i0:(0:Int)≤(i:Int):=by omega
  have i1:(i:Int)<(on:Int):=by omega
  have i2:(on:Int)≤9223372036854775807:=by omega
  rcases hk with rfl | rfl
  all_goals
   go_enter Tryz.func48,Tryz.ntmps48
   go_wp2_with fail
   rw[hW.out]
   refine (h1.out _ HB.out).mono ?_
   rintro en w1 ⟨rfl,hb⟩
   have q1:=hid (ae HB.out hb)
   have z1:=hid (af HZ.out hb)
   have x1:=hid (HX.out.stay hb)
   clear hb
   go_wp2_with fail
   refine (h2.out _ q1.out).mono ?_
   rintro en w2 ⟨rfl,hb⟩
   have q2:=hid (ae q1.out hb)
   have z2:=hid (af z1.out hb)
   have x2:=hid (x1.out.stay hb)
   obtain⟨p0,p1,p2,p3,p4,p5,p6⟩:=x2.out
   clear hb
   go_wp2_with fail
   refine (h3.out _ q2.out).mono ?_
   rintro en w3 ⟨rfl,hb⟩
   have q3:=hid (ae q2.out hb)
   obtain⟨⟨r0,r1,r2,r3,r4,r5,r6⟩,s0,s1,s2,s3,s4,s5,s6⟩:=ag (af z2.out hb)
   clear p0 p1 p2 p3 p4 p5 p6
   obtain⟨p0,p1,p2,p3,p4,p5,p6⟩:=x2.out.stay hb
   obtain⟨u0,u1,u2,u3,u4,u5,u6⟩:=hC.out w3 q3.out
   clear hb
   go_wp2_with fail
   refine bodyPost_ret (v:=.tuple #[.agg #[.int .i64 k',.bool g',.slice a' l' c',.int .i64 e',.string sb',.slice aa' an' ac',.slice oa' on' oc'],.int .i64 0]) (by simp[results,Tryz.results48,go_sem,r0,r1,r2,r3,r4,r5,r6]) rfl ?_
   exact hOut.out _ q3.out
theorem vY (A:Nat→Prop)(v:JV)(cs:List Value)(key:List UInt8)(w:World)(hkl:key.length≤9223372036854775807)(sv:SmallV v)(rvX:RdX A w cs v)(hT:Tabs w) :
  Calls Tryz.prog 48 #[.agg cs.toArray,strV key] w (OutX A w (getR v key).1 (getR v key).2):=by
 have rv:=rvX.rd
 have C1:=fun W (hb:Below w.heap.size w W)=>bQ v cs W (rv.stay hb) (hT.below hb)
 have C2:=fun W (hb:Below w.heap.size w W)=>eH key W hkl (hT.below hb).1
 have C3:=fun W (hb:Below w.heap.size w W)=>gY v cs key W sv (rv.stay hb)
 obtain⟨a,c,aa,ac,oa,oc,P⟩:=rvX.parts
 have e:=P.cells
 subst e
 refine zB A v.kind v.g a v.ls.length c v.e v.s aa v.arr.length ac oa v.obj.length oc key w (mayJ 200 v) (soundB key) (idxO key v.obj 0) (getR v key).1 (getR v key).2 C1 C2 C3 ?_
 unfold getR
 by_cases hm:mayJ 200 v=true∧soundB key=true
 rotate_left
 ·left
  rw[if_pos hm]
  refine⟨?_,rfl,rfl⟩
  by_cases h:mayJ 200 v=true
  ·exact Or.inr (by rw[Bool.eq_false_iff];exact fun h2=>hm ⟨h,h2⟩)
  ·exact Or.inl (by rw[Bool.eq_false_iff];exact h)
 right
 rw[if_neg (fun h=>h hm)]
 by_cases hk:v.kind≠6∧v.kind≠0
 ·left
  rw[if_pos hk]
  exact⟨hm.1,hm.2,hk.1,hk.2,rfl,rfl⟩
 right
 rw[if_neg hk]
 have hk2:v.kind=6∨v.kind=0:=by omega
 rcases kE key v.obj 0 with ⟨e1,e2,_⟩ | ⟨i,hi,e1,e2,e3,_⟩
 ·left
  rw[e2]
  exact⟨hm.1,hm.2,hk2,e1,rfl,rfl⟩
 ·right
  rw[e3]
  obtain⟨b,off,a1,c1,aa1,ac1,oa1,oc1,h0,_,P1,C⟩:=P.obj.at hi
  replace C:=C.sub (aC A w)
  obtain⟨_,q0,q1,q2,q3,q4,q5,q6⟩:=C
  exact⟨hm.1,hm.2,hk2,rfl,i,b,off,_,_,_,_,_,_,_,_,_,_,_,_,_,by rw[e1];simp,hi,by have:=P.oc;omega,h0,⟨q0,q1,q2,q3,q4,q5,q6⟩,P1.rd⟩
structure OutRowX (A:Nat→Prop) (w W:World) (O:Nat) (V:Value) (L:List Fld):Prop where
 blk:W.heap[O]? = some (.cells #[.int .i64 6,.bool false,.slice none 0 0,.int .i64 0,.string ⟨#[]⟩,.slice none 0 0,V] 28 (0,0))
 row:∃E:List FE,E.map FE.fld=L∧(∀f ∈ E,RdX A w f.cs f.v)∧W.ownsRow w.heap.size 67 8 V E.length (E.flatMap FE.enc)
 bel:Below w.heap.size w W
 own:w.heap.size≤O
theorem OutRowX.stay {A:Nat→Prop}{w W W':World}{O:Nat}{V:Value}{L:List Fld}(h:OutRowX A w W O V L)(hb:Below W.heap.size W W'):OutRowX A w W' O V L:=by
 obtain⟨h1,⟨E,e1,e2,e3⟩,h3,h4⟩:=h
 exact⟨af h1 hb,⟨E,e1,e2,gG e3 hb⟩,ae h3 hb,h4⟩
def RdOwX (A:Nat→Prop) (w W:World) (oa:Option Addr) (obj:List Fld):Prop:=∀(i:Nat) (x:Fld),obj[i]? = some x→∃cs,CellsAt W oa (i * 8) (strV x.1 :: cs)∧x.1.length≤9223372036854775807∧RdX A w cs x.2
theorem OutRowX.shut {A:Nat→Prop}{w W:World}{O:Nat}{V:Value}{L:List Fld}(h:OutRowX A w W O V L)(_hL:L.length≤9223372036854775807):∃(oa:Option Addr) (oc:Nat),V=.slice oa L.length oc∧RdOwX A w W oa L∧L.length≤oc∧oc≤9223372036854775807:=by
 obtain⟨_,⟨E,e1,e2,_,e3⟩,_,_⟩:=h
 have hlen:E.length=L.length:=by rw[←e1];simp
 rcases e3 with ⟨rfl,h0⟩ | ⟨g,cap,cur,rfl,_,hg,hc,hm,hs,ht⟩
 ·have:L=[]:=by rw[←e1,List.eq_nil_of_length_eq_zero h0];rfl
  subst this
  exact⟨none,0,rfl,fun i x hx=>by simp at hx,Nat.le_refl _,by omega⟩
 ·refine⟨some ⟨g,0,none⟩,cap,by rw[hlen],?_,by omega,by simpa[maxLen] using hm⟩
  have hR:RowF E W g cap:=⟨cur,hg,hc,hs,ht⟩
  intro i x hx
  rw[←e1,List.getElem?_map] at hx
  obtain⟨f,hf,rfl⟩:=Option.map_eq_some_iff.1 hx
  refine⟨f.cs,⟨g,0,rfl,fun j u hu=>?_⟩,f.short,e2 f (List.mem_of_getElem? hf)⟩
  rw[Nat.zero_add]
  exact hR.cell hf hu
theorem OutRowX.final {A:Nat→Prop}{w wr:World}{O Z:Nat}{V:Value}{L:List Fld}(hIn:In A w)(h:OutRowX A w wr O V L)(hz:wr.heap[Z]? = some (.cells #[.int .i64 0,.bool false,.slice none 0 0,.int .i64 0,.string ⟨#[]⟩,.slice none 0 0,.slice none 0 0] 28 (0,0)))(hwZ:w.heap.size≤Z)(hL:L.length≤9223372036854775807) :
  ∃(oa:Option Addr) (oc:Nat),V=.slice oa L.length oc∧OutX A w (objV L) 0 (.returned (.tuple #[.agg #[.int .i64 6,.bool false,.slice none 0 0,.int .i64 0,.string ⟨#[]⟩,.slice none 0 0,.slice oa L.length oc],.int .i64 0])) (wr.setCells Z 0 [.int .i64 6,.bool false,.slice none 0 0,.int .i64 0,.string ⟨#[]⟩,.slice none 0 0,.slice oa L.length oc]):=by
 obtain⟨oa2,oc2,rfl,hro,hc1,hc2⟩:=h.shut hL
 have hbZ:=aF Z hwZ [.int .i64 6,.bool false,.slice none 0 0,.int .i64 0,.string ⟨#[]⟩,.slice none 0 0,.slice oa2 L.length oc2] 0 wr h.bel
 refine⟨oa2,oc2,rfl,valCs 6 false none 0 0 0 [] none 0 0 oa2 L.length oc2,rfl,?_,hbZ⟩
 refine PartsV.rd (v:=objV L) (a:=none) (c:=0) (aa:=none) (ac:=0) (oa:=oa2) (oc:=oc2) ⟨rfl,(show I64 6 by unfold I64;decide),(show I64 0 by unfold I64;decide),by show (0:Nat)≤_;omega,⟨Nat.le_refl _,by omega⟩,⟨hc1,hc2⟩,⟨Nat.le_refl _,by omega⟩,⟨Row.nil _ _,fun x hx=>by cases hx⟩,fun j y hy=>by simp[objV,JV.arr] at hy,?_⟩
 intro i x hx
 obtain⟨cs,⟨b,off,e1,hcs⟩,k2,k3⟩:=hro i x hx
 obtain⟨_,⟨E,_,_,_,e3⟩,_,_⟩:=h
 have hne:b≠Z∧¬ A b:=by
  rcases e3 with ⟨h,_⟩ | ⟨g2,cap,cur,h,hgw,hg,_⟩
  ·simp only[Value.slice.injEq] at h
   rw[h.1] at e1
   cases e1
  ·simp only[Value.slice.injEq] at h
   rw[h.1] at e1
   simp only[Option.some.injEq,Addr.mk.injEq] at e1
   refine⟨?_,fun hh=>by have h1:=hIn _ hh;have h2:=e1.1;omega⟩
   rintro rfl
   rw[←e1.1,hg] at hz
   simp at hz
 refine⟨cs,⟨b,off,e1,fun jj v hv=>?_⟩,k2,k3.stay hbZ⟩
 refine aI.2 ⟨hne.2,?_⟩
 rw[World.cell?_setCells_out Z _ _ _ _ (fun h=>absurd h hne.1)]
 exact hcs jj v hv
theorem OutRowX.more {A:Nat→Prop}{w W W2:World}{O:Nat}{V V':Value}{L:List Fld}{f:FE}(hf:RdX A w f.cs f.v)(h:OutRowX A w W O V L){E:List FE}(e1:E.map FE.fld=L)(e2:∀f ∈ E,RdX A w f.cs f.v)
  (ho:W2.ownsRow w.heap.size 67 8 V' (E.length+1) (E.flatMap FE.enc ++ f.enc))(hb:Below w.heap.size w W2)(hO:W2.heap[O]? = W.heap[O]?) :
  OutRowX A w (W2.setCell ⟨O,6,none⟩ V') O V' (L ++ [f.fld]):=by
 have hblk:W2.heap[O]? = some (.cells #[.int .i64 6,.bool false,.slice none 0 0,.int .i64 0,.string ⟨#[]⟩,.slice none 0 0,V] 28 (0,0)):=by rw[hO];exact h.blk
 refine⟨DU hblk V',⟨E ++ [f],by rw[List.map_append,e1];rfl,?_,?_⟩,hb.setCell (by exact h.own) _,h.own⟩
 ·intro g hg
  rcases List.mem_append.1 hg with hg | hg
  ·exact e2 g hg
  ·rw[List.mem_singleton.1 hg];exact hf
 ·have:=Bd ho hblk (by decide) 6 V'
  simpa using this
theorem oQ (A:Nat→Prop)(g:Bool)(a:Option Addr)(l c:Nat)(e:Int)(s:List UInt8)(aa:Option Addr)(an ac:Nat)(oa:Option Addr)(oc:Nat)(key:List UInt8)(w:World)(obj:List Fld)(hIn:In A w)(hO:RdO (hideW A w) oa obj)(hol:obj.length≤1048576)(hso:∀p ∈ obj,soundB p.1=true)
  (h1:∀W,Below w.heap.size w W→Calls Tryz.prog 20 #[valV 6 g a l c e s aa an ac oa obj.length oc] W fun en w'=>en=.returned (.bool true)∧Below W.heap.size W w')
  (h2:∀W,Below w.heap.size w W→Calls Tryz.prog 76 #[strV key] W fun en w'=>en=.returned (.bool true)∧Below W.heap.size W w') :
  Calls Tryz.prog 103 #[valV 6 g a l c e s aa an ac oa obj.length oc,strV key] w (OutX A w (objV (delO key obj)) 0):=by
 unfold valV strV at *
 generalize (⟨s.toArray⟩:ByteArray)=sb at *
 obtain⟨kb,hkb⟩:∃kb:ByteArray,kb=⟨key.toArray⟩:=⟨_,rfl⟩
 rw[←hkb] at h2 ⊢
 replace hkb:=hid hkb
 generalize hon:obj.length=on at *
 replace hon:=hid hon
 replace hO:=hid hO
 replace hso:=hid hso
 obtain⟨W,hW⟩:∃W,W=(w.alloc (.cells #[.int .i64 6,.bool g,.slice a l c,.int .i64 e,.string sb,.slice aa an ac,.slice oa on oc] 28)).alloc (.cells #[.int .i64 0,.bool false,.slice none 0 0,.int .i64 0,.string ⟨#[]⟩,.slice none 0 0,.slice none 0 0] 28):=⟨_,rfl⟩
 have HB:=hid (show Below w.heap.size w W by rw[hW];exact aW _ _ _)
 have HX:Hid (BoxV W w.heap.size 6 g a l c e sb aa an ac oa on oc):=by
  rw[hW]
  exact⟨by simp[go_sem],by simp[go_sem],by simp[go_sem],by simp[go_sem],by simp[go_sem],by simp[go_sem],by simp[go_sem]⟩
 have HZ:Hid (W.heap[w.heap.size+1]? = some (.cells #[.int .i64 0,.bool false,.slice none 0 0,.int .i64 0,.string ⟨#[]⟩,.slice none 0 0,.slice none 0 0] 28)):=by
  rw[hW]
  exact aB w _ _
 replace hW:=hid hW.symm
 replace h1:=hid h1
 replace h2:=hid h2
 go_enter Tryz.func103,Tryz.ntmps103
 go_wp2_with fail
 rw[hW.out]
 refine (h1.out _ HB.out).mono ?_
 rintro en w1 ⟨rfl,hb⟩
 have q1:=hid (ae HB.out hb)
 have z1:=hid (af HZ.out hb)
 have x1:=hid (HX.out.stay hb)
 clear hb HB HX HZ hW
 go_wp2_with fail
 refine (h2.out _ q1.out).mono ?_
 rintro en w2 ⟨rfl,hb⟩
 have q2:=hid (ae q1.out hb)
 have z2:=hid (af z1.out hb)
 obtain⟨p0,p1,p2,p3,p4,p5,p6⟩:=x1.out.stay hb
 have hl:=ax p0
 clear hb q1 z1 x1
 have hOR:Hid (OutRowX A w (w2.alloc (.cells #[.int .i64 6,.bool false,.slice none 0 0,.int .i64 0,.string ⟨#[]⟩,.slice none 0 0,.slice none 0 0] 28)) w2.heap.size (.slice none 0 0) []) :=
  ⟨aj w2 _,⟨[],rfl,(fun f hf=>by cases hf),⟨by simp,.inl ⟨rfl,rfl⟩⟩⟩,q2.out.alloc q2.out.size _,q2.out.size⟩
 have hZ3:=hid (dU z2.out (.cells #[.int .i64 6,.bool false,.slice none 0 0,.int .i64 0,.string ⟨#[]⟩,.slice none 0 0,.slice none 0 0] 28))
 have hZl:Hid (w.heap.size+1<w2.heap.size):=aA z2.out
 go_wp2
 clear p0 p1 p2 p3 p4 p5 p6 hl q2 z2 h1 h2
 generalize w2.alloc (.cells #[.int .i64 6,.bool false,.slice none 0 0,.int .i64 0,.string ⟨#[]⟩,.slice none 0 0,.slice none 0 0] 28)=w3 at *
 generalize w2.heap.size=O at *
 obtain⟨Z,hZe⟩:∃Z,Z=w.heap.size+1:=⟨_,rfl⟩
 have hwZ:Hid (w.heap.size≤Z):=by rw[hZe];show w.heap.size≤_;omega
 rw[←hZe] at hZ3 hZl ⊢
 clear hZe
 obtain⟨i0,i1,i2,i3,zv,i4,i5⟩:=iM
 replace i1:=hid i1
 replace i2:=hid i2
 replace i3:=hid i3
 replace i4:=hid i4
 replace i5:=hid i5
 go_loopw [8,33] (fun _ v33 wr=>∃(j:Nat) (V:Value),j≤on∧Hid (OutRowX A w wr O V (delO key (obj.take j)))∧v33=.int .i64 j∧Hid (wr.heap[Z]? = some (.cells #[.int .i64 0,.bool false,.slice none 0 0,.int .i64 0,.string ⟨#[]⟩,.slice none 0 0,.slice none 0 0] 28))) (fun _ v33 _=>on-(intOf v33).toNat)
 case atStart=>exact⟨0,_,Nat.zero_le _,hid (by simpa[delO] using hOR.out),rfl,hZ3⟩
 case round =>
  obtain⟨j,V,hj,hR,rfl,hz⟩:=hrel
  clear hOR hZ3
  by_cases hlt:j<on
  ·have hlt2:(j:Int)<(on:Int):=by omega
   have hj1:j<obj.length:=by rw[hon.out];exact hlt
   obtain⟨b0,off0,a0,c0,aa0,ac0,oa0,oc0,rfl,hkl,P0,C0⟩:=hO.out.at hj1
   replace C0:=C0.sub (aC A w)
   have hsk:=hso.out _ (List.getElem_mem hj1)
   unfold Cells8f strV at C0
   obtain⟨x,hx⟩:∃x,x=obj[j]:=⟨_,rfl⟩
   have htk:obj.take (j+1)=obj.take j ++ [x]:=by rw[List.take_succ_eq_append_getElem hj1,hx]
   rw[←hx] at C0 P0 hkl hsk
   clear hx
   obtain⟨kx,x⟩:=x
   simp only at C0 P0 hkl hsk
   have hbw:=hR.out.bel
   obtain⟨s0,s1,s2,s3,s4,s5,s6,s7⟩:=C0
   replace s0:=ai s0 hbw
   replace s1:=ai s1 hbw
   replace s2:=ai s2 hbw
   replace s3:=ai s3 hbw
   replace s4:=ai s4 hbw
   replace s5:=ai s5 hbw
   replace s6:=ai s6 hbw
   replace s7:=ai s7 hbw
   clear hbw
   obtain⟨f,hf1,hf2,hf3⟩:∃f:FE,f.fld=(kx,x)∧RdX A w f.cs f.v∧f.enc=strV kx :: valCs x.kind x.g a0 x.ls.length c0 x.e x.s aa0 x.arr.length ac0 oa0 x.obj.length oc0 :=
    ⟨⟨kx,x,valCs x.kind x.g a0 x.ls.length c0 x.e x.s aa0 x.arr.length ac0 oa0 x.obj.length oc0,hsk,hkl,rfl,fM P0.rd⟩,rfl,P0.rd,rfl⟩
   clear P0 hsk hkl
   unfold strV valCs at hf3
   have hq1:=EY kx key
   rw[show decide (keyC kx key=0)=decide (kx=key) from decide_eq_decide.2 ⟨yP,fun h=>by rw[h];exact qm _⟩,←hkb.out] at hq1
   obtain⟨kxb,hkx⟩:∃kxb:ByteArray,kxb=⟨kx.toArray⟩:=⟨_,rfl⟩
   rw[←hkx] at s0 hf3 hq1
   clear hkx
   have HF3:=hid hf3
   have HF2:=hid hf2
   clear hf3 hf2
   obtain⟨⟨o0,o1,o2,o3,o4,o5,o6⟩,_⟩:=ag hR.out.blk
   have ho:=ax o0
   have hB1:=(Below.refl wr.heap.size wr).alloc (Nat.le_refl _) (.cells #[.string kxb,.int .i64 x.kind,.bool x.g,.slice a0 x.ls.length c0,.int .i64 x.e,.string ⟨x.s.toArray⟩,.slice aa0 x.arr.length ac0,.slice oa0 x.obj.length oc0] 67)
   have hR1:=hid (hR.out.stay hB1)
   have hz1:=hid (af hz.out hB1)
   clear hB1
   by_cases hkk:kx=key
   ·have hq:(kxb.toList == kb.toList)=true:=by rw[hq1];exact decide_eq_true hkk
    have hdel:Hid (delO key (obj.take (j+1))=delO key (obj.take j)):=by
     show delO key (obj.take (j+1))=delO key (obj.take j)
     rw[htk]
     unfold delO
     rw[List.filter_append]
     simp[hkk]
    clear hkk hq1 htk
    go_wp2
    go_roundw
    case rel=>exact⟨j+1,V,by omega,hid (by rw[hdel.out];exact hR1.out),by first | rfl | go_num,hz1⟩
    case measure=>simp[intOf];omega
   ·have hq:(kxb.toList == kb.toList)=false:=by rw[hq1];exact decide_eq_false hkk
    have hdel:Hid (delO key (obj.take (j+1))=delO key (obj.take j) ++ [f.fld]):=by
     show delO key (obj.take (j+1))=delO key (obj.take j) ++ [f.fld]
     rw[htk,hf1]
     unfold delO
     rw[List.filter_append]
     simp[hkk]
    have hE:=hR.out.row
    obtain⟨E,E1,E2,E3⟩:=hE
    have hEl:E.length≤j:=by
     have h1:E.length=(delO key (obj.take j)).length:=by rw[←E1];simp
     have h2:=List.length_filter_le (fun p:Fld=>decide (p.1≠key)) (obj.take j)
     have h3:(obj.take j).length≤j:=by simp;omega
     unfold delO at h1
     omega
    have hW4:=hid (((Below.refl wr.heap.size wr).alloc (Nat.le_refl _) (.cells #[.string kxb,.int .i64 x.kind,.bool x.g,.slice a0 x.ls.length c0,.int .i64 x.e,.string ⟨x.s.toArray⟩,.slice aa0 x.arr.length ac0,.slice oa0 x.obj.length oc0] 67)).alloc (by simp) (.cells #[.string kxb,.int .i64 x.kind,.bool x.g,.slice a0 x.ls.length c0,.int .i64 x.e,.string ⟨x.s.toArray⟩,.slice aa0 x.arr.length ac0,.slice oa0 x.obj.length oc0] 67))
    have E4:=hid (gG E3 hW4.out)
    have hnew:Hid (∀(jj:Nat) (u:Value),([.string kxb,.int .i64 x.kind,.bool x.g,.slice a0 x.ls.length c0,.int .i64 x.e,.string ⟨x.s.toArray⟩,.slice aa0 x.arr.length ac0,.slice oa0 x.obj.length oc0]:List Value)[jj]? = some u→((wr.alloc (.cells #[.string kxb,.int .i64 x.kind,.bool x.g,.slice a0 x.ls.length c0,.int .i64 x.e,.string ⟨x.s.toArray⟩,.slice aa0 x.arr.length ac0,.slice oa0 x.obj.length oc0] 67)).alloc (.cells #[.string kxb,.int .i64 x.kind,.bool x.g,.slice a0 x.ls.length c0,.int .i64 x.e,.string ⟨x.s.toArray⟩,.slice aa0 x.arr.length ac0,.slice oa0 x.obj.length oc0] 67)).cell? ((⟨wr.heap.size+1,0,none⟩:Addr).add jj)=some u):=by
     intro jj u hu
     rw[Addr.add_lit]
     have h:=aB wr (.cells #[.string kxb,.int .i64 x.kind,.bool x.g,.slice a0 x.ls.length c0,.int .i64 x.e,.string ⟨x.s.toArray⟩,.slice aa0 x.arr.length ac0,.slice oa0 x.obj.length oc0] 67) (.cells #[.string kxb,.int .i64 x.kind,.bool x.g,.slice a0 x.ls.length c0,.int .i64 x.e,.string ⟨x.s.toArray⟩,.slice aa0 x.arr.length ac0,.slice oa0 x.obj.length oc0] 67)
     simp only[World.cell?,h,Nat.zero_add]
     simpa using hu
    have hones:Hid (∀u ∈ ([.string kxb,.int .i64 x.kind,.bool x.g,.slice a0 x.ls.length c0,.int .i64 x.e,.string ⟨x.s.toArray⟩,.slice aa0 x.arr.length ac0,.slice oa0 x.obj.length oc0]:List Value),u.oneCell'=true):=by
     have:=f.ones
     rw[HF3.out] at this
     exact this
    have HE1:=hid E1
    have HE2:=hid E2
    have hRR:=hid (hR.out.stay hW4.out)
    have hz4:=hid (af hz.out hW4.out)
    clear hkk hq1 htk E1 E2 E3 hR1 hz1 hf1
    go_wp2_with (at_builtin;refine wpList_append_own _ rfl _ _ _ rfl w.heap.size _ i0 zv 8 128 Tryz.underlying26 i1.out i4.out i2.out i3.out i5.out (by decide) _ E.length (E.flatMap FE.enc) rfl E4.out ⟨wr.heap.size+1,0,none⟩ 1 1 [.string kxb,.int .i64 x.kind,.bool x.g,.slice a0 x.ls.length c0,.int .i64 x.e,.string ⟨x.s.toArray⟩,.slice aa0 x.arr.length ac0,.slice oa0 x.obj.length oc0] rfl rfl hnew.out hones.out (by unfold maxLen;omega) (by omega) (by have:=hRR.out.bel.size;omega) ?_;intro V2 w5 hown hgr _;obtain⟨g5,cap5,rfl⟩:=qA hown;have hOb:=(hgr.block O (aA hRR.out.blk) (jW E4.out hRR.out.blk (by decide)));have hZb:=(hgr.block Z (aA hz4.out) (jW E4.out hz4.out (by decide))).trans hz4.out;have hBl:=hRR.out.bel.grown hgr hRR.out.bel.size (fun k hk=>(E4.out.lt k hk).1);have hOb2:=hOb.trans hRR.out.blk;obtain⟨⟨t0,t1,t2,t3,t4,t5,t6⟩,u0,u1,u2,u3,u4,u5,u6⟩:=ag hOb2;replace hOb:=hid hOb;replace hZb:=hid hZb;replace hBl:=hid hBl;replace hown:=hid hown;clear hgr hOb2)
    have hfin:=hid (OutRowX.more HF2.out hRR.out HE1.out HE2.out (by rw[HF3.out];exact hown.out) hBl.out hOb.out)
    have hzf:Hid ((w5.setCell ⟨O,6,none⟩ (.slice (some ⟨g5,0,none⟩) (E.length+1) cap5)).heap[Z]? = some (.cells #[.int .i64 0,.bool false,.slice none 0 0,.int .i64 0,.string ⟨#[]⟩,.slice none 0 0,.slice none 0 0] 28)):=by
     show (w5.setCell ⟨O,6,none⟩ (.slice (some ⟨g5,0,none⟩) (E.length+1) cap5)).heap[Z]? = _
     rw[Below.heap_setCell _ _ _ _ (show Z≠O by have:=hZl.out;omega)]
     exact hZb.out
    go_roundw
    case rel=>exact⟨j+1,.slice (some ⟨g5,0,none⟩) (E.length+1) cap5,by omega,hid (by rw[hdel.out];exact hfin.out),by first | rfl | go_num,hzf⟩
    case measure=>simp[intOf];omega
  ·obtain rfl:j=on:=by omega
   have hlt2:¬ ((j:Nat):Int)<(j:Int):=by omega
   have hdl:(delO key obj).length≤1048576:=by
    have h2:=List.length_filter_le (fun p:Fld=>decide (p.1≠key)) obj
    have h3:=hon.out
    unfold delO
    omega
   have hRd:OutRowX A w wr O V (delO key obj):=by
    have:=hR.out
    rw[List.take_of_length_le (by rw[hon.out];exact Nat.le_refl _)] at this
    exact this
   obtain⟨oa2,oc2,rfl,hro,hc1,hc2⟩:=hRd.shut (by omega)
   obtain⟨⟨o0,o1,o2,o3,o4,o5,o6⟩,_⟩:=ag hRd.blk
   obtain⟨⟨r0,r1,r2,r3,r4,r5,r6⟩,s0,s1,s2,s3,s4,s5,s6⟩:=ag hz.out
   have hFin:Hid (OutX A w (objV (delO key obj)) 0 (.returned (.tuple #[.agg #[.int .i64 6,.bool false,.slice none 0 0,.int .i64 0,.string ⟨#[]⟩,.slice none 0 0,.slice oa2 (delO key obj).length oc2],.int .i64 0])) (wr.setCells Z 0 [.int .i64 6,.bool false,.slice none 0 0,.int .i64 0,.string ⟨#[]⟩,.slice none 0 0,.slice oa2 (delO key obj).length oc2])):=by
    obtain⟨oa3,oc3,e3,hf⟩:=hRd.final hIn hz.out hwZ.out (by omega)
    obtain⟨rfl,_,rfl⟩:oa2=oa3∧(delO key obj).length=(delO key obj).length∧oc2=oc3:=by simpa using e3
    exact hf
   clear hRd hro
   go_wp2
   refine bodyPost_ret (v:=.tuple #[.agg #[.int .i64 6,.bool false,.slice none 0 0,.int .i64 0,.string ⟨#[]⟩,.slice none 0 0,.slice oa2 (delO key obj).length oc2],.int .i64 0]) (by simp[results,Tryz.results103,go_sem,r0,r1,r2,r3,r4,r5,r6]) rfl ?_
   exact hFin.out
theorem oz (A:Nat→Prop)(v:JV)(cs:List Value)(key:List UInt8)(w:World)(hkl:key.length≤9223372036854775807)(sv:SmallV v)(hIn:In A w)(rvX:RdX A w cs v)(hT:Tabs w) :
  Calls Tryz.prog 103 #[.agg cs.toArray,strV key] w (OutX A w (withoutR v key).1 (withoutR v key).2):=by
 have rv:=rvX.rd
 have C1:=fun W (hb:Below w.heap.size w W)=>bQ v cs W (rv.stay hb) (hT.below hb)
 have C2:=fun W (hb:Below w.heap.size w W)=>eH key W hkl (hT.below hb).1
 obtain⟨a,c,aa,ac,oa,oc,P⟩:=rvX.parts
 have e:=P.cells
 subst e
 unfold withoutR
 by_cases hm:mayJ 200 v=true∧soundB key=true
 rotate_left
 ·rw[if_pos hm]
  refine (eU v.kind v.g a v.ls.length c v.e v.s aa v.arr.length ac oa v.obj.length oc key w (mayJ 200 v) (soundB key) 1 C1 C2 (Or.inl ⟨?_,rfl⟩)).mono fun _ _ h=>dO h
  by_cases h:mayJ 200 v=true
  ·exact Or.inr (by rw[Bool.eq_false_iff];exact fun h2=>hm ⟨h,h2⟩)
  ·exact Or.inl (by rw[Bool.eq_false_iff];exact h)
 rw[if_neg (fun h=>h hm)]
 by_cases hk0:v.kind=0
 ·rw[if_pos hk0]
  exact (eU v.kind v.g a v.ls.length c v.e v.s aa v.arr.length ac oa v.obj.length oc key w (mayJ 200 v) (soundB key) 0 C1 C2 (Or.inr (Or.inr ⟨hm.1,hm.2,hk0,rfl⟩))).mono fun _ _ h=>dO h
 rw[if_neg hk0]
 by_cases hk6:v.kind=6
 rotate_left
 ·rw[if_pos hk6]
  exact (eU v.kind v.g a v.ls.length c v.e v.s aa v.arr.length ac oa v.obj.length oc key w (mayJ 200 v) (soundB key) 9 C1 C2 (Or.inr (Or.inl ⟨hm.1,hm.2,hk6,hk0,rfl⟩))).mono fun _ _ h=>dO h
 rw[if_neg (fun h=>h hk6)]
 simp only[hm.1] at C1
 simp only[hm.2] at C2
 obtain⟨⟨⟨_,_⟩,ho⟩,_⟩:=bC.1 hm.1
 have:=oQ A v.g a v.ls.length c v.e v.s aa v.arr.length ac oa oc key w v.obj hIn P.obj sv.obj (fun p hp=>(ho p hp).1) (fun W hb=>by have:=C1 W hb;rw[hk6] at this;exact this) C2
 rw[←hk6] at this
 exact this
theorem xR (oa:Option Addr)(oc:Nat)(obj:List Fld)(w W:World)(h:RdO w oa obj)(hs:∀p ∈ obj,soundB p.1=true)(hn:obj.length≤1048576)(hb:SubW w W) :
  Calls Tryz.prog 132 #[.slice oa obj.length oc] W fun e w'=>∃(v':Value) (E:List FE),e=.returned v'∧E.map FE.fld=obj∧(∀f ∈ E,RdV w f.cs f.v)∧w'.ownsRow W.heap.size 67 8 v' E.length (E.flatMap FE.enc)∧Below W.heap.size W w':=by
 cases oa with
 | none =>
  obtain rfl:=DI h
  refine (AnyE.slices_Clone_nil Tryz.laysSlE041_f31 0 oc W).mono ?_
  rintro e w' ⟨rfl,rfl⟩
  exact⟨.slice none 0 0,[],rfl,rfl,(fun f hf=>by cases hf),⟨by simp,.inl ⟨rfl,rfl⟩⟩,Below.refl _ _⟩
 | some p =>
  cases hob:obj with
  | nil =>
   obtain⟨i0,i1,i2,i3,z,i4,i5⟩:=iM
   have h0:=World.ownsRow_made (base:=W.heap.size) (e:=67) (size:=8) W #[] 0 (Nat.le_refl _) (by unfold maxLen;omega) rfl
   have hq:=fun (W:World)=>Lib.run_eql_slice_nil (P:=Tryz.prog) W 26 67 (some p) 0 oc 0 0 Tryz.underlying26
   have H0:=hid h0
   clear h0 h hs hn hb hob
   replace i1:=hid i1
   replace i2:=hid i2
   replace i3:=hid i3
   replace i4:=hid i4
   replace i5:=hid i5
   have hQ:Hid (∀(v':Value) (w':World),w'.ownsRow W.heap.size 67 8 v' (0+0) ([] ++ [])→Below W.heap.size W w'→(fun e w'=>∃(v':Value) (E:List FE),e=.returned v'∧E.map FE.fld=([]:List Fld)∧(∀f ∈ E,RdV w f.cs f.v)∧w'.ownsRow W.heap.size 67 8 v' E.length (E.flatMap FE.enc)∧Below W.heap.size W w') (Ending.returned v') w') :=
    fun v' w' ho hb=>⟨v',[],rfl,rfl,(fun f hf=>by cases hf),by simpa using ho,hb⟩
   generalize (fun e w'=>∃(v':Value) (E:List FE),e=Ending.returned v'∧E.map FE.fld=([]:List Fld)∧(∀f ∈ E,RdV w f.cs f.v)∧w'.ownsRow W.heap.size 67 8 v' E.length (E.flatMap FE.enc)∧Below W.heap.size W w')=Q at *
   show Calls Tryz.prog 132 #[.slice (some p) 0 oc] W Q
   go_enter Tryz.func132,Tryz.ntmps132
   go_wp2_with (at_builtin;refine wpList_append_own _ rfl _ _ _ rfl W.heap.size _ i0 z 8 128 Tryz.underlying26 i1.out i4.out i2.out i3.out i5.out (by decide) _ 0 [] rfl H0.out p 0 oc [] rfl rfl (fun j u h=>by simp at h) (fun u h=>by cases h) (by unfold maxLen;omega) (by omega) (by simp) ?_;intro v' w' hown hgr _)
   have hB:=(((Below.refl W.heap.size W).alloc (Nat.le_refl _) (.cells #[] 67)).grown hgr (by simp) (fun k hk=>by
    have hk:some W.heap.size=some k:=hk
    injection hk with hk
    omega))
   have hF:=hid (hQ.out v' w' hown hB)
   exact hF.out
  | cons x0 obj0 =>
   rw[←hob]
   obtain⟨b,off,rfl⟩:∃b off,p=⟨b,off,none⟩:=by
    obtain⟨cs,⟨b,off,e,_⟩,_⟩:=h 0 x0 (by rw[hob];rfl)
    injection e with e
    exact⟨b,off,e⟩
   obtain⟨E,e1,e2,e3⟩:=xH (obj:=obj) (k:=0) (fun i x hx=>by rw[Nat.zero_add];exact h i x hx) hs
   simp only[Nat.zero_add] at e3
   have hlen:obj.length=E.length:=by rw[←e1];simp
   rw[hlen]
   refine (qw b off oc E W (fun j f hf=>(e3 j f hf).sub hb) (by omega)).mono ?_
   rintro e w' ⟨q,cap,cur,rfl,k1,k2,k3,k4,k5,k6,k7⟩
   exact⟨_,E,rfl,e1,e2,⟨jV E,.inr ⟨q,cap,cur,rfl,k1,k2,k3,k4,k5,k6⟩⟩,k7⟩
/-- The way where the key is not there. -/
theorem Ba (A:Nat→Prop)(k:Int)(hk:k=6∨k=0)(g g':Bool)(a a':Option Addr)(l l' c c':Nat)(k':Int)(e e':Int)(s s':List UInt8)(aa aa':Option Addr)(an an' ac ac':Nat)(oa oa':Option Addr)(on on' oc oc':Nat)(key:List UInt8)(D:Nat)(hD:D≠200)(w:World)(hIn:In A w)(L:List Fld)(hL:L.length≤1048576)(f:FE)
  (hf2:RdX A w f.cs f.v)(hf3:f.enc=strV key :: valCs k' g' a' l' c' e' s' aa' an' ac' oa' on' oc')(x:JV)(hf1:f.fld=(key,x))
  (h1:∀W,Below w.heap.size w W→Calls Tryz.prog 20 #[valV k g a l c e s aa an ac oa on oc] W fun en w'=>en=.returned (.bool true)∧Below W.heap.size W w')
  (h2:∀W,Below w.heap.size w W→Calls Tryz.prog 20 #[valV k' g' a' l' c' e' s' aa' an' ac' oa' on' oc'] W fun en w'=>en=.returned (.bool true)∧Below W.heap.size W w')
  (h3:∀W,Below w.heap.size w W→Calls Tryz.prog 76 #[strV key] W fun en w'=>en=.returned (.bool true)∧Below W.heap.size W w')
  (h4:∀W,Below w.heap.size w W→Calls Tryz.prog 91 #[valV k' g' a' l' c' e' s' aa' an' ac' oa' on' oc'] W fun en w'=>en=.returned (.int .i64 (D:Int))∧Below W.heap.size W w')
  (h5:∀W,Below w.heap.size w W→Calls Tryz.prog 132 #[.slice oa on oc] W fun en w'=>∃(V:Value) (E:List FE),en=.returned V∧E.map FE.fld=L∧(∀f ∈ E,RdX A w f.cs f.v)∧w'.ownsRow w.heap.size 67 8 V E.length (E.flatMap FE.enc)∧Below W.heap.size W w')
  (h6:∀W,Below w.heap.size w W→Calls Tryz.prog 77 #[valV k g a l c e s aa an ac oa on oc,strV key] W fun en w'=>en=.returned (.int .i64 (-1))∧Below W.heap.size W w') :
  Calls Tryz.prog 89 #[valV k g a l c e s aa an ac oa on oc,strV key,valV k' g' a' l' c' e' s' aa' an' ac' oa' on' oc'] w (OutX A w (objV (L ++ [(key,x)])) 0):=by
 unfold valV valCs strV at *
 generalize (⟨s.toArray⟩:ByteArray)=sb at *
 generalize (⟨s'.toArray⟩:ByteArray)=sb' at *
 generalize (⟨key.toArray⟩:ByteArray)=kb at *
 obtain⟨W,hW⟩:∃W,W=((w.alloc (.cells #[.int .i64 k,.bool g,.slice a l c,.int .i64 e,.string sb,.slice aa an ac,.slice oa on oc] 28)).alloc (.cells #[.int .i64 k',.bool g',.slice a' l' c',.int .i64 e',.string sb',.slice aa' an' ac',.slice oa' on' oc'] 28)).alloc (.cells #[.int .i64 0,.bool false,.slice none 0 0,.int .i64 0,.string ⟨#[]⟩,.slice none 0 0,.slice none 0 0] 28):=⟨_,rfl⟩
 have hB:=hid (show Below w.heap.size w W by rw[hW];exact (aW _ _ _).alloc (by simp;omega) _)
 have hX:Hid (BoxV W w.heap.size k g a l c e sb aa an ac oa on oc):=by
  rw[hW]
  exact⟨by simp[go_sem],by simp[go_sem],by simp[go_sem],by simp[go_sem],by simp[go_sem],by simp[go_sem],by simp[go_sem]⟩
 have hY:Hid (BoxV W (w.heap.size+1) k' g' a' l' c' e' sb' aa' an' ac' oa' on' oc'):=by
  rw[hW]
  exact⟨by simp[go_sem],by simp[go_sem],by simp[go_sem],by simp[go_sem],by simp[go_sem],by simp[go_sem],by simp[go_sem]⟩
 have hZ0:(W.heap[w.heap.size+1+1]? = some (.cells #[.int .i64 0,.bool false,.slice none 0 0,.int .i64 0,.string ⟨#[]⟩,.slice none 0 0,.slice none 0 0] 28)):=by
  rw[hW]
  have:=aj ((w.alloc (.cells #[.int .i64 k,.bool g,.slice a l c,.int .i64 e,.string sb,.slice aa an ac,.slice oa on oc] 28)).alloc (.cells #[.int .i64 k',.bool g',.slice a' l' c',.int .i64 e',.string sb',.slice aa' an' ac',.slice oa' on' oc'] 28)) (.cells #[.int .i64 0,.bool false,.slice none 0 0,.int .i64 0,.string ⟨#[]⟩,.slice none 0 0,.slice none 0 0] 28)
  simpa[Nat.add_assoc] using this
 have hZ:=hid hZ0
 clear hZ0
 replace hW:=hid hW.symm
 replace h1:=hid h1
 replace h2:=hid h2
 replace h3:=hid h3
 replace h4:=hid h4
 replace h5:=hid h5
 replace h6:=hid h6
 have hkq:(k != 6 && k != 0)=false:=by rcases hk with rfl | rfl<;>rfl
 have hD1:((D:Int) == 200)=false:=by rw[beq_eq_false_iff_ne];omega
 have hD2:(D == 200)=false:=by rw[beq_eq_false_iff_ne];exact hD
 clear hD
 clear hkq
 obtain⟨i0,i1,i2,i3,zv,i4,i5⟩:=iM
 replace i1:=hid i1
 replace i2:=hid i2
 replace i3:=hid i3
 replace i4:=hid i4
 replace i5:=hid i5
 replace hf2:=hid hf2
 replace hf3:=hid hf3
 replace hf1:=hid hf1
 rcases hk with rfl | rfl
 all_goals
  go_enter Tryz.func89,Tryz.ntmps89
  go_wp2_with fail
  rw[hW.out]
  refine (h1.out _ hB.out).mono ?_
  rintro en w1 ⟨rfl,hb⟩
  replace hB:=hid (ae hB.out hb)
  replace hX:=hid (hX.out.stay hb)
  replace hY:=hid (hY.out.stay hb)
  replace hZ:=hid (af hZ.out hb)
  obtain⟨q0,q1,q2,q3,q4,q5,q6⟩:=hY.out
  clear hb hW
  go_wp2_with fail
  refine (h2.out _ hB.out).mono ?_
  rintro en w2 ⟨rfl,hb⟩
  replace hB:=hid (ae hB.out hb)
  replace hX:=hid (hX.out.stay hb)
  replace hY:=hid (hY.out.stay hb)
  replace hZ:=hid (af hZ.out hb)
  clear hb q0 q1 q2 q3 q4 q5 q6
  go_wp2_with fail
  refine (h3.out _ hB.out).mono ?_
  rintro en w3 ⟨rfl,hb⟩
  replace hB:=hid (ae hB.out hb)
  replace hX:=hid (hX.out.stay hb)
  replace hY:=hid (hY.out.stay hb)
  replace hZ:=hid (af hZ.out hb)
  obtain⟨p0,p1,p2,p3,p4,p5,p6⟩:=hX.out
  obtain⟨q0,q1,q2,q3,q4,q5,q6⟩:=hY.out
  clear hb
  go_wp2_with fail
  refine (h4.out _ hB.out).mono ?_
  rintro en w4 ⟨rfl,hb⟩
  replace hB:=hid (ae hB.out hb)
  replace hX:=hid (hX.out.stay hb)
  replace hY:=hid (hY.out.stay hb)
  replace hZ:=hid (af hZ.out hb)
  clear p0 p1 p2 p3 p4 p5 p6 q0 q1 q2 q3 q4 q5 q6
  obtain⟨p0,p1,p2,p3,p4,p5,p6⟩:=hX.out
  clear hb
  go_wp2_with fail
  refine (h5.out _ hB.out).mono ?_
  rintro en w5 ⟨V,E,rfl,E1,E2,E3,hb⟩
  have hZq:Hid (w.heap.size+1+1<w4.heap.size):=aA hZ.out
  replace hB:=hid (ae hB.out hb)
  replace hX:=hid (hX.out.stay hb)
  replace hY:=hid (hY.out.stay hb)
  replace hZ:=hid (af hZ.out hb)
  have hZ5:Hid (w.heap.size+1+1<w5.heap.size):=aA hZ.out
  clear hb p0 p1 p2 p3 p4 p5 p6
  have hEl:E.length≤1048576:=by
   have:E.length=L.length:=by rw[←E1];simp
   omega
  have HE1:=hid E1
  have HE2:=hid E2
  have HE3:=hid E3
  clear E1 E2 E3
  have hshape:(∃n c,V=.slice none n c)∨∃q n c,V=.slice (some q) n c:=by
   rcases HE3.out.2 with ⟨h,_⟩ | ⟨q,cap,cur,h,_⟩
   ·exact Or.inl ⟨_,_,h⟩
   ·exact Or.inr ⟨_,_,_,h⟩
  obtain⟨va,vn,vc,rfl⟩:∃va vn vc,V=.slice va vn vc:=by
   rcases hshape with ⟨n,c,h⟩ | ⟨q,n,c,h⟩
   ·exact⟨none,n,c,h⟩
   ·exact⟨some q,n,c,h⟩
  clear hshape
  obtain⟨U,hU⟩:∃U,U=w5.alloc (.cells #[.int .i64 6,.bool false,.slice none 0 0,.int .i64 0,.string ⟨#[]⟩,.slice none 0 0,.slice va vn vc] 28):=⟨_,rfl⟩
  have hbU:Below w5.heap.size w5 U:=by rw[hU];exact (Below.refl _ _).alloc (Nat.le_refl _) _
  have hOR0:OutRowX A w U w5.heap.size (.slice va vn vc) L:=⟨by rw[hU];exact aj w5 _,⟨E,HE1.out,HE2.out,gG HE3.out hbU⟩,ae hB.out hbU,hB.out.size⟩
  obtain⟨p0,p1,p2,p3,p4,p5,p6⟩:=hX.out
  have hl5:=ax p0
  have hOR:=hid hOR0
  have hbU2:=hid hbU
  replace hU:=hid hU.symm
  clear hOR0 hbU HE1 HE2 HE3
  go_wp2_with fail
  rw[hU.out]
  refine (h6.out _ (ae hB.out hbU2.out)).mono ?_
  rintro en w6 ⟨rfl,hb⟩
  have hb56:=hid (ae hbU2.out hb)
  have hR6:=hid (hOR.out.stay hb)
  have hY6:=hid (hY.out.stay hb56.out)
  have hZ6:=hid (af hZ.out hb56.out)
  clear hb hOR hX hY hZ p0 p1 p2 p3 p4 p5 p6 hl5 hbU2 hU h1 h2 h3 h4 h5 h6 hb56 hB
  obtain⟨O,hO⟩:∃O,O=w5.heap.size:=⟨_,rfl⟩
  rw[←hO] at hR6 hZ5 ⊢
  clear hO
  obtain⟨Z,hZZ⟩:∃Z,Z=w.heap.size+1+1:=⟨_,rfl⟩
  rw[←hZZ] at hZ6 hZ5 ⊢
  have hwZ:Hid (w.heap.size≤Z):=by rw[hZZ];show w.heap.size≤_;omega
  clear hZZ hZq
  obtain⟨E',F1,F2,F3⟩:=hR6.out.row
  have hEl':E'.length≤1048576:=by
   have:E'.length=L.length:=by rw[←F1];simp
   omega
  have HF1:=hid F1
  have HF2:=hid F2
  obtain⟨⟨o0,o1,o2,o3,o4,o5,o6⟩,_⟩:=ag hR6.out.blk
  obtain⟨x0,x1,x2,x3,x4,x5,x6⟩:=hY6.out
  have hW7:=hid ((Below.refl w6.heap.size w6).alloc (Nat.le_refl _) (.cells #[.string kb,.int .i64 k',.bool g',.slice a' l' c',.int .i64 e',.string sb',.slice aa' an' ac',.slice oa' on' oc'] 67))
  have E4:=hid (gG F3 hW7.out)
  have hnew:Hid (∀(jj:Nat) (u:Value),([.string kb,.int .i64 k',.bool g',.slice a' l' c',.int .i64 e',.string sb',.slice aa' an' ac',.slice oa' on' oc']:List Value)[jj]? = some u→(w6.alloc (.cells #[.string kb,.int .i64 k',.bool g',.slice a' l' c',.int .i64 e',.string sb',.slice aa' an' ac',.slice oa' on' oc'] 67)).cell? ((⟨w6.heap.size,0,none⟩:Addr).add jj)=some u):=by
   intro jj u hu
   rw[Addr.add_lit]
   have h:=aj w6 (.cells #[.string kb,.int .i64 k',.bool g',.slice a' l' c',.int .i64 e',.string sb',.slice aa' an' ac',.slice oa' on' oc'] 67)
   simp only[World.cell?,h,Nat.zero_add]
   simpa using hu
  have hones:Hid (∀u ∈ ([.string kb,.int .i64 k',.bool g',.slice a' l' c',.int .i64 e',.string sb',.slice aa' an' ac',.slice oa' on' oc']:List Value),u.oneCell'=true):=by
   have:=f.ones
   rw[hf3.out] at this
   exact this
  have hRR:=hid (hR6.out.stay hW7.out)
  have hz4:=hid (af hZ6.out hW7.out)
  clear F1 F2 F3 hR6 hZ6
  go_wp2_with (at_builtin;refine wpList_append_own _ rfl _ _ _ rfl w.heap.size _ i0 zv 8 128 Tryz.underlying26 i1.out i4.out i2.out i3.out i5.out (by decide) _ E'.length (E'.flatMap FE.enc) rfl E4.out ⟨w6.heap.size,0,none⟩ 1 1 [.string kb,.int .i64 k',.bool g',.slice a' l' c',.int .i64 e',.string sb',.slice aa' an' ac',.slice oa' on' oc'] rfl rfl hnew.out hones.out (by unfold maxLen;omega) (by omega) (by have:=hRR.out.bel.size;omega) ?_;intro V2 w7 hown hgr _;obtain⟨g5,cap5,rfl⟩:=qA hown;have hOb:=(hgr.block O (aA hRR.out.blk) (jW E4.out hRR.out.blk (by decide)));have hZb:=(hgr.block Z (aA hz4.out) (jW E4.out hz4.out (by decide))).trans hz4.out;have hBl:=hRR.out.bel.grown hgr hRR.out.bel.size (fun k hk=>(E4.out.lt k hk).1);have hfin:=hid (OutRowX.more hf2.out hRR.out HF1.out HF2.out (by rw[hf3.out];exact hown) hBl hOb);have hOb2:=hOb.trans hRR.out.blk;obtain⟨⟨t0,t1,t2,t3,t4,t5,t6⟩,u0,u1,u2,u3,u4,u5,u6⟩:=ag hOb2;obtain⟨⟨r0,r1,r2,r3,r4,r5,r6⟩,s0,s1,s2,s3,s4,s5,s6⟩:=ag hZb;have hZb2:=hid hZb;have n1:¬ Z=O:=(by have:=hZ5.out;omega);have n2:¬ O=Z:=(by have:=hZ5.out;omega);clear hgr hOb2 hOb hZb hBl hown)
  have hzf:(w7.setCell ⟨O,6,none⟩ (.slice (some ⟨g5,0,none⟩) (E'.length+1) cap5)).heap[Z]? = some (.cells #[.int .i64 0,.bool false,.slice none 0 0,.int .i64 0,.string ⟨#[]⟩,.slice none 0 0,.slice none 0 0] 28 (0,0)):=by
   rw[Below.heap_setCell _ _ _ _ (show Z≠O from n1)]
   exact hZb2.out
  have hLl:(L ++ [f.fld]).length≤9223372036854775807:=by simp;omega
  obtain⟨oa9,oc9,hV9,hO9⟩:=hfin.out.final hIn hzf hwZ.out hLl
  rw[hf1.out] at hO9 hV9
  simp only[Value.slice.injEq] at hV9
  obtain⟨v1,v2,v3⟩:=hV9
  subst v1 v3
  refine bodyPost_ret (v:=.tuple #[.agg #[.int .i64 6,.bool false,.slice none 0 0,.int .i64 0,.string ⟨#[]⟩,.slice none 0 0,.slice (some ⟨g5,0,none⟩) (E'.length+1) cap5],.int .i64 0]) (by simp[results,Tryz.results89,go_sem,r0,r1,r2,r3,r4,r5,r6]) rfl ?_
  rw[←v2] at hO9
  exact hO9
theorem jX (A:Nat→Prop)(v x:JV)(cs cx:List Value)(key:List UInt8)(i:Nat)(w:World)(hv:mayJ 200 v=true)(hx:mayJ 200 x=true)(hk:soundB key=true)(hkl:key.length≤9223372036854775807)(h6:v.kind=6)(hd:depthJ 200 x≠200)
  (hi:idxO key v.obj 0=(i:Int))(hil:i<v.obj.length)(sv:SmallV v)(hIn:In A w)(rvX:RdX A w cs v)(rxX:RdX A w cx x)(hT:Tabs w) :
  Calls Tryz.prog 89 #[.agg cs.toArray,strV key,.agg cx.toArray] w (OutX A w (objV (v.obj.set i ((v.obj[i]'hil).1,x))) 0):=by
 have rv:=rvX.rd
 have rx:=rxX.rd
 have C1:=fun W (hb:Below w.heap.size w W)=>bQ v cs W (rv.stay hb) (hT.below hb)
 have C2:=fun W (hb:Below w.heap.size w W)=>bQ x cx W (rx.stay hb) (hT.below hb)
 have C3:=fun W (hb:Below w.heap.size w W)=>eH key W hkl (hT.below hb).1
 have C4:=fun W (hb:Below w.heap.size w W)=>gX x cx W (rx.stay hb)
 have C6:=fun W (hb:Below w.heap.size w W)=>gY v cs key W sv (rv.stay hb)
 simp only[hv] at C1
 simp only[hx] at C2
 simp only[hk] at C3
 simp only[hi] at C6
 have hdl:=fU 200 x
 obtain⟨a,c,aa,ac,oa,oc,P⟩:=rvX.parts
 have e:=P.cells
 subst e
 obtain⟨k',g',a',ln',c',e',s',aa',an',ac',oa',on',oc',rfl⟩:=rx.seven
 obtain⟨⟨⟨_,_⟩,ho⟩,_⟩:=bC.1 hv
 have hol:=sv.obj
 obtain⟨b,off,hoa⟩:∃b off,oa=some ⟨b,off,none⟩:=by
  obtain⟨cs0,⟨b,off,e,_⟩,_⟩:=P.obj i _ (List.getElem?_eq_getElem hil)
  exact⟨b,off,e⟩
 subst hoa
 obtain⟨E,e1,e2,e3⟩:=xH (obj:=v.obj) (k:=0) (fun j y hy=>by rw[Nat.zero_add];exact P.obj j y hy) (fun p hp=>(ho p hp).1)
 simp only[Nat.zero_add] at e3
 have hlen:E.length=v.obj.length:=by rw[←e1];simp
 have hiE:i<E.length:=by omega
 have hEi:=List.getElem?_eq_getElem hiE
 obtain⟨y0,y1,y2,y3,y4,y5,y6,hcs⟩:=jG (E[i]).seven
 have henc:(E[i]).enc=[strV (E[i]).key,y0,y1,y2,y3,y4,y5,y6]:=by unfold FE.enc;rw[hcs]
 have:=AZ v.g g' a a' v.ls.length ln' c c' k' v.e e' v.s s' aa aa' v.arr.length an' ac ac' (some ⟨b,off,none⟩) oa' v.obj.length on' oc oc' key i (depthJ 200 x) hd (by omega) hil w (OutX A w (objV (v.obj.set i ((v.obj[i]'hil).1,x))) 0)
  y0 y1 y2 y3 y4 y5 y6 (fun W q cap=>RowF E W q cap)
  (fun W hb=>by have:=C1 W hb;rw[h6] at this;exact this) C2 C3 C4
  (fun W hb=>by
   rw[←hlen]
   refine (qw b off oc E W (fun j f hf=>((e3 j f hf).sub (aC A w)).below hb) (by omega)).mono ?_
   rintro en w' ⟨q,cap,cur,rfl,k1,k2,k3,k4,k5,k6,k7⟩
   exact⟨q,cap,rfl,k1,k3,by simpa[maxLen] using k4,⟨cur,k2,k3,k5,k6⟩,k7⟩)
  (fun W hb=>by have:=C6 W hb;rw[h6] at this;exact this)
  (fun W q cap W' h hb=>h.stay hb)
  (fun W q cap h=>⟨⟨h.cell hEi (j:=1) (by rw[henc];rfl),h.cell hEi (j:=2) (by rw[henc];rfl),h.cell hEi (j:=3) (by rw[henc];rfl),h.cell hEi (j:=4) (by rw[henc];rfl),h.cell hEi (j:=5) (by rw[henc];rfl),h.cell hEi (j:=6) (by rw[henc];rfl),h.cell hEi (j:=7) (by rw[henc];rfl)⟩,h.frozen⟩)
  (fun W q cap r zs hG hb hqw hcap hcm hqr hrw=>by
   have hbW:Below w.heap.size w ((W.setCells q (i * 8+1) (valCs k' g' a' ln' c' e' s' aa' an' ac' oa' on' oc')).setCells r 0 zs):=aF r hrw _ _ _ (aF q hqw _ _ _ hb)
   refine⟨_,rfl,?_,hbW⟩
   have hqA:¬ A q:=fun hh=>by have:=hIn _ hh;omega
   have hRO:RdO (hideW A ((W.setCells q (i * 8+1) (valCs k' g' a' ln' c' e' s' aa' an' ac' oa' on' oc')).setCells r 0 zs)) (some ⟨q,0,none⟩) (v.obj.set i ((v.obj[i]'hil).1,x)):=by
    have hout:∀t,((W.setCells q (i * 8+1) (valCs k' g' a' ln' c' e' s' aa' an' ac' oa' on' oc')).setCells r 0 zs).cell? ⟨q,t,none⟩=(W.setCells q (i * 8+1) (valCs k' g' a' ln' c' e' s' aa' an' ac' oa' on' oc')).cell? ⟨q,t,none⟩:=fun t=>World.cell?_setCells_out r zs 0 _ ⟨q,t,none⟩ (fun h=>absurd h hqr)
    intro j y hy
    have hj:j<v.obj.length:=by have:=(List.getElem?_eq_some_iff.1 hy).1;simpa using this
    have hjE:j<E.length:=by omega
    have hEj:=List.getElem?_eq_getElem hjE
    have hfl:(E[j]).fld=v.obj[j]:=by
     have:(E.map FE.fld)[j]? = v.obj[j]?:=by rw[e1]
     rw[List.getElem?_map,hEj,List.getElem?_eq_getElem hj] at this
     simpa using this
    by_cases hji:j=i
    ·subst hji
     rw[List.getElem?_set_self (by omega)] at hy
     injection hy with hy
     subst hy
     refine⟨valCs k' g' a' ln' c' e' s' aa' an' ac' oa' on' oc',⟨q,0,rfl,fun t u hu=>?_⟩,?_,rxX.stay hbW⟩
     ·rw[Nat.zero_add]
      refine aI.2 ⟨hqA,?_⟩
      rw[hout]
      cases t with
      | zero =>
       rw[World.cell?_setCells_out q _ _ _ ⟨q,_,none⟩ (fun _ _=>by simp)]
       refine hG.cell hEj (j:=0) ?_
       unfold FE.enc
       rw[←hu,←hfl]
       rfl
      | succ t =>
       have hu':(valCs k' g' a' ln' c' e' s' aa' an' ac' oa' on' oc')[t]? = some u:=by simpa using hu
       obtain⟨ht,hue⟩:=List.getElem?_eq_some_iff.1 hu'
       have:=World.cell?_setCells_in q (valCs k' g' a' ln' c' e' s' aa' an' ac' oa' on' oc') (j * 8+1) W (fun m hm=>by
        have hm7:m<7:=by simpa[valCs] using hm
        have hle:m+1<(E[j]).enc.length:=by rw[FE.len];omega
        rw[show j * 8+1+m=j * 8+(m+1) by omega,hG.cell hEj (List.getElem?_eq_getElem hle)]
        rfl) t ht
       rw[show j * 8+(t+1)=j * 8+1+t by omega,this,hue]
     ·have:=(E[j]).short
      rw[show (v.obj[j]).1=(E[j]).key by rw[←hfl];rfl]
      exact this
    ·rw[List.getElem?_set_ne (fun h=>hji h.symm),List.getElem?_eq_getElem hj] at hy
     injection hy with hy
     subst hy
     rw[←hfl]
     refine⟨(E[j]).cs,⟨q,0,rfl,fun t u hu=>?_⟩,(E[j]).short,RdX.stay (A:=A) (w:=w) (e2 _ (List.getElem_mem hjE)) hbW⟩
     have ht:t<8:=by
      have h1:=(List.getElem?_eq_some_iff.1 hu).1
      have h2:=(E[j]).seven
      simp at h1
      omega
     rw[Nat.zero_add]
     refine aI.2 ⟨hqA,?_⟩
     rw[hout,World.cell?_setCells_out q _ _ _ ⟨q,_,none⟩ (fun _ _=>by simp only[valCs,List.length_cons,List.length_nil];omega)]
     exact hG.cell hEj hu
   refine PartsV.rd (v:=objV (v.obj.set i ((v.obj[i]'hil).1,x))) (a:=none) (c:=0) (aa:=none) (ac:=0) (oa:=some ⟨q,0,none⟩) (oc:=cap) ⟨?_,(show I64 6 by unfold I64;decide),(show I64 0 by unfold I64;decide),by show (0:Nat)≤_;omega,⟨Nat.le_refl _,by omega⟩,⟨by simpa[objV,JV.obj] using hcap,hcm⟩,⟨Nat.le_refl _,by omega⟩,⟨Row.nil _ _,fun x hx=>by cases hx⟩,fun j y hy=>by simp[objV,JV.arr] at hy,hRO⟩
   show valCs 6 false none 0 0 0 [] none 0 0 (some ⟨q,0,none⟩) v.obj.length cap=_
   unfold valCs
   simp[objV,JV.kind,JV.g,JV.ls,JV.e,JV.s,JV.arr,JV.obj])
 rw[←h6] at this
 exact this
theorem tN (A:Nat→Prop)(v x:JV)(cs cx:List Value)(key:List UInt8)(w:World)(hkl:key.length≤9223372036854775807)(sv:SmallV v)(hIn:In A w)(rvX:RdX A w cs v)(rxX:RdX A w cx x)(hT:Tabs w) :
  Calls Tryz.prog 89 #[.agg cs.toArray,strV key,.agg cx.toArray] w (OutX A w (withR v key x).1 (withR v key x).2):=by
 have rv:=rvX.rd
 have rx:=rxX.rd
 have C1:=fun W (hb:Below w.heap.size w W)=>bQ v cs W (rv.stay hb) (hT.below hb)
 have C2:=fun W (hb:Below w.heap.size w W)=>bQ x cx W (rx.stay hb) (hT.below hb)
 have C3:=fun W (hb:Below w.heap.size w W)=>eH key W hkl (hT.below hb).1
 have C4:=fun W (hb:Below w.heap.size w W)=>gX x cx W (rx.stay hb)
 have C6:=fun W (hb:Below w.heap.size w W)=>gY v cs key W sv (rv.stay hb)
 have rv0:=rvX
 have rx0:=rxX
 obtain⟨a,c,aa,ac,oa,oc,P⟩:=rvX.parts
 have e:=P.cells
 subst e
 obtain⟨k',g',a',ln',c',e',s',aa',an',ac',oa',on',oc',rfl⟩:=rx.seven
 have early:=fun err hx=>(xQ v.kind v.g g' a a' v.ls.length ln' c c' k' v.e e' v.s s' aa aa' v.arr.length an' ac ac' oa oa' v.obj.length on' oc oc' key (depthJ 200 x) w (mayJ 200 v) (mayJ 200 x) (soundB key) err C1 C2 C3 C4 hx).mono fun _ _ h=>dO (A:=A) h
 unfold withR
 by_cases hm:mayJ 200 v=true∧mayJ 200 x=true∧soundB key=true
 rotate_left
 ·rw[if_pos hm]
  refine early 1 ?_
  by_cases h1:mayJ 200 v=true
  ·by_cases h2:mayJ 200 x=true
   ·exact Or.inr (Or.inr (Or.inl ⟨h1,h2,by rw[Bool.eq_false_iff];exact fun h3=>hm ⟨h1,h2,h3⟩,rfl⟩))
   ·exact Or.inr (Or.inl ⟨h1,by rw[Bool.eq_false_iff];exact h2,rfl⟩)
  ·exact Or.inl ⟨by rw[Bool.eq_false_iff];exact h1,rfl⟩
 rw[if_neg (fun h=>h hm)]
 by_cases hk:v.kind≠6∧v.kind≠0
 ·rw[if_pos hk]
  exact early 9 (Or.inr (Or.inr (Or.inr (Or.inl ⟨hm.1,hm.2.1,hm.2.2,hk.1,hk.2,rfl⟩))))
 rw[if_neg hk]
 have hk2:v.kind=6∨v.kind=0:=by omega
 by_cases hd:depthJ 200 x=200
 ·rw[if_pos hd]
  exact early 6 (Or.inr (Or.inr (Or.inr (Or.inr ⟨hm.1,hm.2.1,hm.2.2,hk2,hd,rfl⟩))))
 rw[if_neg hd]
 obtain⟨⟨⟨_,_⟩,ho⟩,hnd⟩:=bC.1 hm.1
 rcases kE key v.obj 0 with ⟨e1,e2,e3⟩ | ⟨i,hi,e1,e2,e3,e4⟩
 ·have hset:setO key x v.obj=v.obj ++ [(key,x)]:=by unfold setO;rw[if_neg e3]
  rw[hset]
  simp only[hm.1] at C1
  simp only[hm.2.1] at C2
  simp only[hm.2.2] at C3
  simp only[e1] at C6
  exact Ba A v.kind hk2 v.g g' a a' v.ls.length ln' c c' k' v.e e' v.s s' aa aa' v.arr.length an' ac ac' oa oa' v.obj.length on' oc oc' key (depthJ 200 x) hd w hIn v.obj sv.obj ⟨key,x,_,hm.2.2,hkl,rfl,fM rx0⟩ rx0 rfl x rfl C1 C2 C3 C4
   (fun W hb=>(xR oa oc v.obj (hideW A w) W P.obj (fun p hp=>(ho p hp).1) sv.obj ((aC A w).trans (SubW.below hb))).mono fun en w' ⟨V,E,h1,h2,h3,h4,h5⟩=>⟨V,E,h1,h2,h3,Bc h4 hb.size,h5⟩) C6
 ·have h6:v.kind=6:=by
   rcases hk2 with h | h
   ·exact h
   ·have:=jO (fG hm.1) (by omega)
    rw[this] at hi
    simp at hi
  have hset:setO key x v.obj=v.obj.set i ((v.obj[i]).1,x):=by
   unfold setO
   rw[if_pos e4,e2]
   exact yu hnd hi e2
  rw[hset]
  exact jX A v x _ _ key i w hm.1 hm.2.1 hm.2.2 hkl h6 hd (by rw[e1];simp) hi sv hIn rv0 rx0 hT
theorem bG (w:World)(c0 c1:Array Value)(T0 T1:TypeId):Below w.heap.size w ((w.alloc (.cells c0 T0)).alloc (.cells c1 T1))∧((w.alloc (.cells c0 T0)).alloc (.cells c1 T1)).heap[w.heap.size]? = some (.cells c0 T0 (0,0)) ∧
  ((w.alloc (.cells c0 T0)).alloc (.cells c1 T1)).heap[w.heap.size+1]? = some (.cells c1 T1 (0,0)) :=
 ⟨((Below.refl _ _).alloc (Nat.le_refl _) _).alloc (by simp) _,af (aj w _) ((Below.refl _ _).alloc (Nat.le_refl _) _),aB w _ _⟩
theorem eP (w:World)(c0 c1 c2:Array Value)(T0 T1 T2:TypeId):Below w.heap.size w (((w.alloc (.cells c0 T0)).alloc (.cells c1 T1)).alloc (.cells c2 T2))∧(((w.alloc (.cells c0 T0)).alloc (.cells c1 T1)).alloc (.cells c2 T2)).heap[w.heap.size]? = some (.cells c0 T0 (0,0)) ∧
  (((w.alloc (.cells c0 T0)).alloc (.cells c1 T1)).alloc (.cells c2 T2)).heap[w.heap.size+1]? = some (.cells c1 T1 (0,0))∧(((w.alloc (.cells c0 T0)).alloc (.cells c1 T1)).alloc (.cells c2 T2)).heap[w.heap.size+1+1]? = some (.cells c2 T2 (0,0)):=by
 obtain⟨h1,h2,h3⟩:=bG w c0 c1 T0 T1
 have hb:=(Below.refl ((w.alloc (.cells c0 T0)).alloc (.cells c1 T1)).heap.size ((w.alloc (.cells c0 T0)).alloc (.cells c1 T1))).alloc (Nat.le_refl _) (.cells c2 T2)
 refine⟨ae h1 hb,af h2 hb,af h3 hb,?_⟩
 have:=aj ((w.alloc (.cells c0 T0)).alloc (.cells c1 T1)) (.cells c2 T2)
 simpa[Nat.add_assoc] using this
theorem BV (w:World)(c0 c1 c2 c3:Array Value)(T0 T1 T2 T3:TypeId):Below w.heap.size w ((((w.alloc (.cells c0 T0)).alloc (.cells c1 T1)).alloc (.cells c2 T2)).alloc (.cells c3 T3))∧((((w.alloc (.cells c0 T0)).alloc (.cells c1 T1)).alloc (.cells c2 T2)).alloc (.cells c3 T3)).heap[w.heap.size]? = some (.cells c0 T0 (0,0)) ∧
  ((((w.alloc (.cells c0 T0)).alloc (.cells c1 T1)).alloc (.cells c2 T2)).alloc (.cells c3 T3)).heap[w.heap.size+1]? = some (.cells c1 T1 (0,0))∧((((w.alloc (.cells c0 T0)).alloc (.cells c1 T1)).alloc (.cells c2 T2)).alloc (.cells c3 T3)).heap[w.heap.size+1+1]? = some (.cells c2 T2 (0,0)) ∧
  ((((w.alloc (.cells c0 T0)).alloc (.cells c1 T1)).alloc (.cells c2 T2)).alloc (.cells c3 T3)).heap[w.heap.size+1+1+1]? = some (.cells c3 T3 (0,0)):=by
 obtain⟨h1,h2,h3,h4⟩:=eP w c0 c1 c2 T0 T1 T2
 have hb:=(Below.refl (((w.alloc (.cells c0 T0)).alloc (.cells c1 T1)).alloc (.cells c2 T2)).heap.size (((w.alloc (.cells c0 T0)).alloc (.cells c1 T1)).alloc (.cells c2 T2))).alloc (Nat.le_refl _) (.cells c3 T3)
 refine⟨ae h1 hb,af h2 hb,af h3 hb,af h4 hb,?_⟩
 have:=aj (((w.alloc (.cells c0 T0)).alloc (.cells c1 T1)).alloc (.cells c2 T2)) (.cells c3 T3)
 simpa[Nat.add_assoc] using this
theorem RdV.sevenB {w:World}{cs:List Value}{v:JV}(h:RdV w cs v):∃zk zg za zl zc ze zs zaa zan zac zoa zon zoc,cs=[.int .i64 zk,.bool zg,.slice za zl zc,.int .i64 ze,.string zs,.slice zaa zan zac,.slice zoa zon zoc]:=by
 obtain⟨k,g,a,ln,c,e,s,aa,an,ac,oa,on,oc,h⟩:=h.seven
 exact⟨k,g,a,ln,c,e,_,aa,an,ac,oa,on,oc,h⟩
theorem zF (xk:Int)(xg:Bool)(xa:Option Addr)(xl xc:Nat)(xe:Int)(xs:ByteArray)(xaa:Option Addr)(xan xac:Nat)(xoa:Option Addr)(xon xoc:Nat)(yg:Bool)(ya:Option Addr)(yl yc:Nat)(ye:Int)(i:Int)(er:Nat)(w:World)(Q:Ending→World→Prop)(_hxan:xan≤1152921504606846976)
  (CA:∀W,Below w.heap.size w W→Calls Tryz.prog 78 #[.agg #[.bool yg,.slice ya yl yc,.int .i64 ye],.int .i64 xan] W fun e w'=>e=.returned (.tuple #[.int .i64 i,.int .i64 er])∧Below W.heap.size W w')
  (h0:xk=0→∀W,Below w.heap.size w W→Q (.returned (.tuple #[.agg #[.int .i64 xk,.bool xg,.slice xa xl xc,.int .i64 xe,.string xs,.slice xaa xan xac,.slice xoa xon xoc],.int .i64 0])) (W.setCells (w.heap.size+1+1) 0 [.int .i64 xk,.bool xg,.slice xa xl xc,.int .i64 xe,.string xs,.slice xaa xan xac,.slice xoa xon xoc]))
  (hn:∀err:Nat,((xk≠0∧xk≠5∧err=9)∨(xk=5∧(er≠0∨i<0∨(xan:Int)≤i)∧err=er))→∀W,Below w.heap.size w W→Q (.returned (.tuple #[.agg #[.int .i64 0,.bool false,.slice none 0 0,.int .i64 0,.string ⟨#[]⟩,.slice none 0 0,.slice none 0 0],.int .i64 err])) (W.setCells (w.heap.size+1+1) 0 [.int .i64 0,.bool false,.slice none 0 0,.int .i64 0,.string ⟨#[]⟩,.slice none 0 0,.slice none 0 0]))
  (h5:xk=5→er=0→0≤i→i<(xan:Int)→∃b off,xaa=some ⟨b,off,none⟩∧∃zk zg za zl zc ze zs zaa zan zac zoa zon zoc,(w.cell? ⟨b,off+i.toNat * 7,none⟩=some (.int .i64 zk)∧w.cell? ⟨b,off+i.toNat * 7+1,none⟩=some (.bool zg)∧w.cell? ⟨b,off+i.toNat * 7+2,none⟩=some (.slice za zl zc)∧w.cell? ⟨b,off+i.toNat * 7+3,none⟩=some (.int .i64 ze)∧w.cell? ⟨b,off+i.toNat * 7+4,none⟩=some (.string zs)∧w.cell? ⟨b,off+i.toNat * 7+5,none⟩=some (.slice zaa zan zac)∧w.cell? ⟨b,off+i.toNat * 7+6,none⟩=some (.slice zoa zon zoc)) ∧
   ∀W,Below w.heap.size w W→Q (.returned (.tuple #[.agg #[.int .i64 zk,.bool zg,.slice za zl zc,.int .i64 ze,.string zs,.slice zaa zan zac,.slice zoa zon zoc],.int .i64 0])) (W.setCells (w.heap.size+1+1) 0 [.int .i64 zk,.bool zg,.slice za zl zc,.int .i64 ze,.string zs,.slice zaa zan zac,.slice zoa zon zoc])) :
  Calls Tryz.prog 49 #[.agg #[.int .i64 xk,.bool xg,.slice xa xl xc,.int .i64 xe,.string xs,.slice xaa xan xac,.slice xoa xon xoc],.agg #[.bool yg,.slice ya yl yc,.int .i64 ye]] w Q:=by
 obtain⟨W,hW⟩:∃W,W=((w.alloc (.cells #[.int .i64 xk,.bool xg,.slice xa xl xc,.int .i64 xe,.string xs,.slice xaa xan xac,.slice xoa xon xoc] 28)).alloc (.cells #[.bool yg,.slice ya yl yc,.int .i64 ye] 76)).alloc (.cells #[.int .i64 0,.bool false,.slice none 0 0,.int .i64 0,.string ⟨#[]⟩,.slice none 0 0,.slice none 0 0] 28):=⟨_,rfl⟩
 obtain⟨b0,b1,b2,b3⟩:=eP w #[.int .i64 xk,.bool xg,.slice xa xl xc,.int .i64 xe,.string xs,.slice xaa xan xac,.slice xoa xon xoc] #[.bool yg,.slice ya yl yc,.int .i64 ye] #[.int .i64 0,.bool false,.slice none 0 0,.int .i64 0,.string ⟨#[]⟩,.slice none 0 0,.slice none 0 0] 28 76 28
 rw[←hW] at b0 b1 b2 b3
 have HB:=hid b0
 have HX:=hid b1
 have HY:=hid b2
 have HZ:=hid b3
 replace hW:=hid hW.symm
 clear b0 b1 b2 b3
 replace CA:=hid CA
 by_cases hk0:xk=0
 ·have hq:=hid (h0 hk0)
  subst hk0
  clear h0 hn h5 CA
  obtain⟨⟨p0,p1,p2,p3,p4,p5,p6⟩,_⟩:=ag HX.out
  obtain⟨⟨r0,r1,r2,r3,r4,r5,r6⟩,s0,s1,s2,s3,s4,s5,s6⟩:=ag HZ.out
  go_enter Tryz.func49,Tryz.ntmps49
  go_upto_region 1 with fail
  rw[hW.out]
  go_wp2_with fail
  refine bodyPost_ret (v:=.tuple #[.agg #[.int .i64 0,.bool xg,.slice xa xl xc,.int .i64 xe,.string xs,.slice xaa xan xac,.slice xoa xon xoc],.int .i64 0]) (by simp[results,Tryz.results49,go_sem,r0,r1,r2,r3,r4,r5,r6]) rfl ?_
  exact hq.out _ HB.out
 have f0:(xk == 0)=false:=by rw[beq_eq_false_iff_ne];exact hk0
 by_cases hk5:xk=5
 rotate_left
 ·have f5:(xk == 5)=false:=by rw[beq_eq_false_iff_ne];exact hk5
  have hq:=hid (hn 9 (Or.inl ⟨hk0,hk5,rfl⟩))
  clear h0 hn h5 CA hk0 hk5
  obtain⟨⟨p0,p1,p2,p3,p4,p5,p6⟩,_⟩:=ag HX.out
  obtain⟨⟨r0,r1,r2,r3,r4,r5,r6⟩,s0,s1,s2,s3,s4,s5,s6⟩:=ag HZ.out
  go_enter Tryz.func49,Tryz.ntmps49
  go_upto_region 1 with fail
  rw[hW.out]
  go_wp2_with fail
  refine bodyPost_ret (v:=.tuple #[.agg #[.int .i64 0,.bool false,.slice none 0 0,.int .i64 0,.string ⟨#[]⟩,.slice none 0 0,.slice none 0 0],.int .i64 9]) (by simp[results,Tryz.results49,go_sem,r0,r1,r2,r3,r4,r5,r6]) rfl ?_
  exact hq.out _ HB.out
 subst hk5
 clear hk0 f0 h0
 have hN:=hid (fun err h=>hn err (Or.inr ⟨rfl,h⟩))
 have H5:=hid (h5 rfl)
 clear hn h5
 obtain⟨⟨p0,p1,p2,p3,p4,p5,p6⟩,_⟩:=ag HX.out
 obtain⟨⟨y0',y1',y2'⟩,_⟩:=aN HY.out
 go_enter Tryz.func49,Tryz.ntmps49
 go_upto_region 1 with fail
 rw[hW.out]
 go_upto_region 5 with fail
 go_wp2_with fail
 refine (CA.out _ HB.out).mono ?_
 rintro en w1 ⟨rfl,hb⟩
 have q1:=hid (ae HB.out hb)
 have z1:=hid (af HZ.out hb)
 have x1':=hid (af HX.out hb)
 clear hb HB HX HY HZ hW p0 p1 p2 p3 p4 p5 p6 y0' y1' y2' CA
 obtain⟨⟨p0,p1,p2,p3,p4,p5,p6⟩,_⟩:=ag x1'.out
 obtain⟨⟨r0,r1,r2,r3,r4,r5,r6⟩,s0,s1,s2,s3,s4,s5,s6⟩:=ag z1.out
 by_cases he:er=0
 rotate_left
 ·have g:((er:Int) != 0)=true:=by rw[bne_iff_ne];omega
  have hq:=hid (hN.out er ⟨Or.inl he,rfl⟩)
  clear hN H5 he
  go_wp2_with fail
  refine bodyPost_ret (v:=.tuple #[.agg #[.int .i64 0,.bool false,.slice none 0 0,.int .i64 0,.string ⟨#[]⟩,.slice none 0 0,.slice none 0 0],.int .i64 er]) (by simp[results,Tryz.results49,go_sem,r0,r1,r2,r3,r4,r5,r6]) rfl ?_
  exact hq.out _ q1.out
 subst he
 by_cases hi:i<0
 ·have hq:=hid (hN.out 0 ⟨Or.inr (Or.inl hi),rfl⟩)
  clear hN H5
  go_wp2_with fail
  refine bodyPost_ret (v:=.tuple #[.agg #[.int .i64 0,.bool false,.slice none 0 0,.int .i64 0,.string ⟨#[]⟩,.slice none 0 0,.slice none 0 0],.int .i64 0]) (by simp[results,Tryz.results49,go_sem,r0,r1,r2,r3,r4,r5,r6]) rfl ?_
  exact hq.out _ q1.out
 by_cases hi2:(xan:Int)≤i
 ·have hq:=hid (hN.out 0 ⟨Or.inr (Or.inr hi2),rfl⟩)
  clear hN H5
  go_wp2_with fail
  refine bodyPost_ret (v:=.tuple #[.agg #[.int .i64 0,.bool false,.slice none 0 0,.int .i64 0,.string ⟨#[]⟩,.slice none 0 0,.slice none 0 0],.int .i64 0]) (by simp[results,Tryz.results49,go_sem,r0,r1,r2,r3,r4,r5,r6]) rfl ?_
  exact hq.out _ q1.out
 obtain⟨m,rfl⟩:∃m:Nat,i=(m:Int):=⟨i.toNat,by omega⟩
 have hm:(m:Int)<(xan:Int):=by omega
 have hm2:¬ (xan:Int)≤(m:Int):=by omega
 obtain⟨b,off,rfl,zk,zg,za,zl,zc,ze,zs,zaa,zan,zac,zoa,zon,zoc,⟨u0,u1,u2,u3,u4,u5,u6⟩,hQ⟩:=H5.out rfl (by omega) hm
 rw[Int.toNat_natCast] at u0 u1 u2 u3 u4 u5 u6
 have q:=q1.out
 replace u0:=ai u0 q
 replace u1:=ai u1 q
 replace u2:=ai u2 q
 replace u3:=ai u3 q
 replace u4:=ai u4 q
 replace u5:=ai u5 q
 replace u6:=ai u6 q
 replace hQ:=hid hQ
 clear hN H5 q hi hi2
 go_wp2_with fail
 refine bodyPost_ret (v:=.tuple #[.agg #[.int .i64 zk,.bool zg,.slice za zl zc,.int .i64 ze,.string zs,.slice zaa zan zac,.slice zoa zon zoc],.int .i64 0]) (by simp[results,Tryz.results49,go_sem,r0,r1,r2,r3,r4,r5,r6]) rfl ?_
 exact hQ.out _ q1.out
theorem wu (A:Nat→Prop)(v k:JV)(cs:List Value)(a:Option Addr)(c:Nat)(w:World)(rv:RdX A w cs v)(hu:U32 w a k.ls)(hn:v.arr.length≤1152921504606846976)(htab:Pow w) :
  Calls Tryz.prog 49 #[.agg cs.toArray,.agg #[.bool k.g,.slice a k.ls.length c,.int .i64 k.e]] w (OutX A w (takeS v (.idx k)).1 (takeS v (.idx k)).2):=by
 obtain⟨va,vc,aa,ac,oa,oc,P⟩:=rv.parts
 have e:=P.cells
 subst e
 refine zF v.kind v.g va v.ls.length vc v.e ⟨v.s.toArray⟩ aa v.arr.length ac oa v.obj.length oc k.g a k.ls.length c k.e (atJ k v.arr.length).1 (atJ k v.arr.length).2 w _ hn (fun W hb=>mP k a c v.arr.length W (hu.below hb) hn (htab.next hb)) ?_ ?_ ?_
 ·intro h W hb
  unfold takeS
  dsimp only
  rw[if_pos h]
  exact di (zs:=_) rv hb (by omega)
 ·intro err h W hb
  have hx:takeS v (.idx k)=(.null,err):=by
   unfold takeS
   dsimp only
   rcases h with ⟨h1,h2,rfl⟩ | ⟨h1,h2,rfl⟩
   ·rw[if_neg h1,if_neg h2]
   ·rw[if_neg (by omega),if_pos h1]
    by_cases h3:(atJ k v.arr.length).2=0
    ·rw[if_neg (by omega),if_neg (by omega),h3]
    ·rw[if_pos h3]
  rw[hx]
  exact aO hb (by omega)
 ·intro h1 h2 h3 h4
  have hlt:(atJ k v.arr.length).1.toNat<v.arr.length:=by omega
  obtain⟨zs,⟨b,off,e1,hc⟩,hz⟩:=P.arr _ _ (List.getElem?_eq_getElem hlt)
  have hx:takeS v (.idx k)=(v.arr[(atJ k v.arr.length).1.toNat],0):=by
   unfold takeS
   dsimp only
   rw[if_neg (by omega),if_pos h1,if_neg (by omega),if_pos ⟨h3,h4⟩,List.getD_eq_getElem?_getD,List.getElem?_eq_getElem hlt]
   rfl
  obtain⟨zk,zg,za,zl,zc,ze,zs,zaa,zan,zac,zoa,zon,zoc,rfl⟩:=hz.sevenB
  refine⟨b,off,e1,zk,zg,za,zl,zc,ze,zs,zaa,zan,zac,zoa,zon,zoc,⟨aC A w _ _ (hc 0 _ rfl),aC A w _ _ (hc 1 _ rfl),aC A w _ _ (hc 2 _ rfl),aC A w _ _ (hc 3 _ rfl),aC A w _ _ (hc 4 _ rfl),aC A w _ _ (hc 5 _ rfl),aC A w _ _ (hc 6 _ rfl)⟩,?_⟩
  intro W hb
  rw[hx]
  exact di hz hb (by omega)
end Go.Proofs.YtcgbmmalfbpjaaaGreatDoor
