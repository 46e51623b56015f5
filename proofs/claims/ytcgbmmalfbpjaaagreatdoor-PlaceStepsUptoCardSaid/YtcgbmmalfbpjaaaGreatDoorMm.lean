/-  -/
import Derived.Test.YtcgbmmalfbpjaaaGreatDoorMl
import Derived.Test.YtcgbmmalfbpjaaaGreatDoorMj
import Derived.Test.YtcgbmmalfbpjaaaGreatDoorMk
import Derived.Test.YtcgbmmalfbpjaaaGreatDoorSlices
import Derived.Test.YtcgbmmalfbpjaaaGreatDoorMe
import Derived.Shelf.SlSortCmp.NoneTotal
import Derived.Deep.CutBlock
namespace Go.Proofs.YtcgbmmalfbpjaaaGreatDoor
open Go.RowKit
set_option maxRecDepth 100000 in
theorem qN0 (x y:List UInt8)(x1 x2 x3 x4 x5 x6 x7 y1 y2 y3 y4 y5 y6 y7:Value)(w:World)(hx:x.length≤9223372036854775807)(hy:y.length≤9223372036854775807)(sx:soundB x=true)(sy:soundB y=true)
  (hT:Lib.Utf8Tabs 0 1 w) :
  Calls Tryz.prog 143 #[.agg #[strV x,x1,x2,x3,x4,x5,x6,x7],.agg #[strV y,y1,y2,y3,y4,y5,y6,y7]] w fun e w'=>e=.returned (.int .i64 (keyC x y))∧Grows w w':=by
 have C:=fun W (h:Grows w W)=>qEp x y W hx hy sx sy (Utf8Tabs_below hT h.bel)
 unfold strV
 generalize (⟨x.toArray⟩:ByteArray)=xb at *
 generalize (⟨y.toArray⟩:ByteArray)=yb at *
 generalize keyC x y=k at *
 replace C:=hid C
 clear hT sx sy
 go_enter Tryz.func143,Tryz.ntmps143
 go_wp2_with fail
 refine (C.out _ (((Grows.refl _).alloc _).alloc _)).mono ?_
 rintro en w1 ⟨rfl,hb1⟩
 go_wp2
 go_ret
 exact⟨rfl,(((Grows.refl _).alloc _).alloc _).trans hb1⟩
set_option maxRecDepth 100000 in
theorem order1 (x y:List UInt8)(x1 x2 x3 x4 x5 x6 x7 y1 y2 y3 y4 y5 y6 y7:Value)(w:World)(hx:x.length≤9223372036854775807)(hy:y.length≤9223372036854775807)(sx:soundB x=true)(sy:soundB y=true)
  (hT:Lib.Utf8Tabs 0 1 w) :
  Calls Tryz.prog 101 #[.agg #[strV x,x1,x2,x3,x4,x5,x6,x7],.agg #[strV y,y1,y2,y3,y4,y5,y6,y7]] w fun e w'=>e=.returned (.int .i64 (keyC x y))∧Grows w w':=by
 have C:=fun W (h:Grows w W)=>qEp x y W hx hy sx sy (Utf8Tabs_below hT h.bel)
 unfold strV
 generalize (⟨x.toArray⟩:ByteArray)=xb at *
 generalize (⟨y.toArray⟩:ByteArray)=yb at *
 generalize keyC x y=k at *
 replace C:=hid C
 clear hT sx sy
 go_enter Tryz.func101,Tryz.ntmps101
 go_wp2_with fail
 refine (C.out _ (((Grows.refl _).alloc _).alloc _)).mono ?_
 rintro en w1 ⟨rfl,hb1⟩
 go_wp2
 go_ret
 exact⟨rfl,(((Grows.refl _).alloc _).alloc _).trans hb1⟩
structure FE where
 key:List UInt8
 v:JV
 cs:List Value
 sound:soundB key=true
 short:key.length≤9223372036854775807
 seven:cs.length=7
 one:∀u ∈ cs,u.oneCell'=true
instance:Inhabited FE:=⟨⟨[],.null,valCs 0 false none 0 0 0 [] none 0 0 none 0 0,rfl,by decide,rfl,by
 intro u hu
 simp only[valCs,List.mem_cons,List.not_mem_nil,or_false] at hu
 rcases hu with rfl | rfl | rfl | rfl | rfl | rfl | rfl<;>rfl⟩⟩
def FE.enc (f:FE):List Value:=strV f.key :: f.cs
def FE.fld (f:FE):Fld:=(f.key,f.v)
def feC (x y:FE):Int:=keyC x.key y.key
theorem FE.len (f:FE):f.enc.length=8:=by simp[FE.enc,f.seven]
theorem FE.ones (f:FE):∀u ∈ f.enc,u.oneCell'=true:=by
 intro u hu
 rcases List.mem_cons.1 hu with rfl | h
 ·rfl
 ·exact f.one u h
theorem qB8 {w:World}{cs:List Value}{v:JV}(h:RdV w cs v):∀u ∈ cs,u.oneCell'=true:=by
 obtain⟨a,c,aa,ac,oa,oc,P⟩:=h.parts
 intro u hu
 rw[P.cells] at hu
 simp only[valCs,List.mem_cons,List.not_mem_nil,or_false] at hu
 rcases hu with rfl | rfl | rfl | rfl | rfl | rfl | rfl<;>rfl
theorem qIt {w:World}{b off:Nat}:∀{obj:List Fld} {k:Nat},(∀(i:Nat) (x:Fld),obj[i]? = some x→∃cs,CellsAt w (some ⟨b,off,none⟩) ((k+i) * 8) (strV x.1 :: cs)∧x.1.length≤9223372036854775807∧RdV w cs x.2)→(∀p ∈ obj,soundB p.1=true) →
  ∃E:List FE,E.map FE.fld=obj∧(∀f ∈ E,RdV w f.cs f.v)∧∀(i:Nat) (f:FE),E[i]? = some f→CellsAt w (some ⟨b,off,none⟩) ((k+i) * 8) f.enc
 | [],_,_,_=>⟨[],rfl,(fun f hf=>by cases hf),(fun i f h=>by simp at h)⟩
 | x :: obj,k,h,hs=>by
  obtain⟨cs,h1,h2,h3⟩:=h 0 x rfl
  obtain⟨E,e1,e2,e3⟩:=qIt (k:=k+1) (fun i y hy=>by
   have:=h (i+1) y (by simpa using hy)
   rw[show k+1+i=k+(i+1) by omega]
   exact this) (fun p hp=>hs p (List.mem_cons_of_mem _ hp))
  refine⟨⟨x.1,x.2,cs,hs x (by simp),h2,h3.len,qB8 h3⟩ :: E,by rw[List.map_cons,e1];rfl,?_,?_⟩
  ·intro f hf
   rcases List.mem_cons.1 hf with rfl | hf
   ·exact h3
   ·exact e2 f hf
  ·intro i f hf
   cases i with
   | zero =>
    simp at hf
    rw[←hf]
    exact h1
   | succ i =>
    have:=e3 i f (by simpa using hf)
    rw[show k+1+i=k+(i+1) by omega] at this
    exact this
theorem qDE:∀E:List FE,(E.flatMap FE.enc).length=E.length * 8
 | []=>rfl
 | f :: E=>by rw[List.flatMap_cons,List.length_append,qDE E,f.len,List.length_cons];omega
theorem qFK:∀(E:List FE) (i c:Nat) (f:FE),E[i]? = some f→c<8→(E.flatMap FE.enc)[i * 8+c]? = f.enc[c]?
 | [],i,c,f,h,_=>by simp at h
 | g :: E,0,c,f,h,hc=>by
  simp at h
  subst h
  rw[List.flatMap_cons,Nat.zero_mul,Nat.zero_add,List.getElem?_append_left (by rw[g.len];exact hc)]
 | g :: E,i+1,c,f,h,hc=>by
  rw[List.flatMap_cons,List.getElem?_append_right (by rw[g.len];omega),g.len,show (i+1) * 8+c-8=i * 8+c by omega]
  exact qFK E i c f (by simpa using h) hc
theorem qE9 {n:Nat}(j:Nat)(h:j<n * 8):∃i c,i<n∧c<8∧j=i * 8+c:=⟨j / 8,j % 8,by omega,by omega,by omega⟩
theorem qB9:∃i0,Tryz.prog.info? 67=some i0∧i0.size=8∧i0.bytes=128∧∃z,i0.zero=some z∧z.cells.size=8:=by
 have h:(Tryz.prog.info? 67).map (fun i=>(i.size,i.bytes,i.zero.map (·.cells.size)))=some (8,128,some 8):=by kernel_rfl
 obtain⟨i,h1,h2⟩:=Option.map_eq_some_iff.1 h
 simp only[Prod.mk.injEq] at h2
 obtain⟨z,h3,h4⟩:=Option.map_eq_some_iff.1 h2.2.2
 exact⟨i,h1,h2.1,h2.2.1,z,h3,h4⟩
theorem qEg (b off c:Nat)(E:List FE)(w:World)(hE:∀(i:Nat) (f:FE),E[i]? = some f→CellsAt w (some ⟨b,off,none⟩) (i * 8) f.enc)(hn:E.length≤1048576) :
  Calls Tryz.prog 132 #[.slice (some ⟨b,off,none⟩) E.length c] w fun e w'=>∃g cap cur,e=.returned (.slice (some ⟨g,0,none⟩) E.length cap)∧w.heap.size≤g ∧
   w'.heap[g]? = some (.cells cur 67 (0,0))∧E.length≤cap∧cap≤maxLen∧cur.size=cap * 8∧cur.toList.take (E.length * 8)=E.flatMap FE.enc∧Below w.heap.size w w':=by
 obtain⟨i0,h1,h2,h3,z,h4,h5⟩:=qB9
 refine (AnyE.slices_Clone Tryz.laysSlE041_f31 i0 z 8 128 h1 h4 h2 h3 h5 (by decide) Tryz.sizeOf67 b off E.length c (E.flatMap FE.enc) w (qDE E) (by unfold maxLen;omega) (by omega) ?_ ?_).mono ?_
 ·intro j u hj
  have hlt:=(List.getElem?_eq_some_iff.1 hj).1
  rw[qDE] at hlt
  obtain⟨i,cc,hi,hc,rfl⟩:=qE9 j hlt
  have hf:=List.getElem?_eq_getElem hi
  rw[qFK E i cc _ hf hc] at hj
  obtain⟨b',off',e,hcs⟩:=hE i _ hf
  simp only[Option.some.injEq,Addr.mk.injEq] at e
  have:=hcs cc u hj
  rw[←e.1,←e.2.1,Nat.add_assoc] at this
  exact this
 ·intro u hu
  obtain⟨f,_,hf⟩:=List.mem_flatMap.1 hu
  exact f.ones u hf
 ·rintro e w' ⟨v',rfl,⟨_,ho⟩,hne,hb⟩
  rcases ho with ⟨rfl,_⟩ | ⟨g,cap,cur,rfl,hg,hcur,hcap,hm,hsz,ht⟩
  ·exact absurd rfl hne
  ·exact⟨g,cap,cur,rfl,hg,hcur,hcap,hm,hsz,ht,hb⟩
open Go.Sort (grow putRowK HoldsK flatK get_flatK)
theorem fe_swo:Go.Sort.SWO (ltOf feC):=by
 refine⟨fun x=>?_,fun x y z h1 h2=>?_,fun x y z h1 h2=>?_⟩
 ·simp only[ltOf,feC,qCe];rfl
 ·have h1:keyC x.key y.key<0:=of_decide_eq_true h1
  have h2:keyC y.key z.key<0:=of_decide_eq_true h2
  exact decide_eq_true (qLG h1 h2)
 ·have h1:¬ keyC x.key y.key<0:=of_decide_eq_false h1
  have h2:¬ keyC y.key z.key<0:=of_decide_eq_false h2
  refine decide_eq_false ?_
  show ¬ keyC x.key z.key<0
  have a1:=qBA x.key y.key
  have a2:=qBA y.key z.key
  have a3:=qBA x.key z.key
  have:=qFf (a:=z.key) (b:=y.key) (c:=x.key) (by omega) (by omega)
  omega
theorem qBX {w0 w:World}{blk m:Nat}{dk:Array FE}{os:Array Obj}(hb:Below w0.heap.size w0 w)(hblk:w0.heap.size≤blk):Below w0.heap.size w0 (sortWorldK FE.enc 8 w blk 0 m dk os):=by
 have h1:=size_sortWorldK_c FE.enc 8 w blk 0 m dk os
 refine⟨hb.os,hb.tape,hb.output,Nat.le_trans hb.size h1,fun k hk=>?_⟩
 have hkw:k<w.heap.size:=Nat.lt_of_lt_of_le hk hb.size
 refine Eq.trans ?_ (hb.block k hk)
 unfold sortWorldK grow putRowK Go.Sort.putRow Go.Sort.mapBlock
 simp only
 rw[Array.getElem?_append_left (by simp;exact hkw),Array.getElem?_modify,if_neg (by omega)]
 rfl
theorem qM0 {w:World}{g cap:Nat}{cur:Array Value}{E:List FE}(h:w.heap[g]? = some (.cells cur 67 (0,0)))(hcap:E.length≤cap)(hsz:cur.size=cap * 8)(ht:cur.toList.take (E.length * 8)=E.flatMap FE.enc):HoldsK FE.enc 8 w g 0 E.toArray:=by
 intro j hj
 have hj8:j<E.length * 8:=by simpa using hj
 obtain⟨i,c,hi,hc,rfl⟩:=qE9 j hj8
 have hin:i * 8+c<cur.size:=by rw[hsz];omega
 have e1:cur[i * 8+c]? = (E.flatMap FE.enc)[i * 8+c]?:=by
  rw[←ht,List.getElem?_take_of_lt hj8,Array.getElem?_toList]
 have hf:=List.getElem?_eq_getElem hi
 rw[qFK E i c _ hf hc] at e1
 have hl:c<(E[i].enc).length:=by rw[FE.len];exact hc
 rw[List.getElem?_eq_getElem hl] at e1
 refine⟨?_,?_⟩
 ·rw[get_flatK _ _ _ _ (by simpa using hj8),show (i * 8+c) / 8=i by omega,show (i * 8+c) % 8=c by omega]
  have e2:(E.toArray)[i]! = E[i]:=by simp[hi]
  rw[e2]
  have e3:(E[i].enc)[c]! = (E[i].enc)[c]:=by simp[hl]
  rw[e3]
  simp only[World.cell?,h,Nat.zero_add]
  simpa using e1
 ·simp[World.frozen?,h]
theorem qM1 {w:World}{g:Nat}{d:Array FE}(h:HoldsK FE.enc 8 w g 0 d)(i:Nat)(f:FE)(hf:d[i]? = some f):CellsAt w (some ⟨g,0,none⟩) (i * 8) f.enc:=by
 obtain⟨hi,e⟩:=Array.getElem?_eq_some_iff.1 hf
 refine⟨g,0,rfl,fun j v hv=>?_⟩
 have hj:j<8:=by have:=(List.getElem?_eq_some_iff.1 hv).1;rw[f.len] at this;exact this
 have:=(h.cell hi hj).1
 rw[this]
 have e2:d[i]! = f:=by rw[←e];exact getElem!_pos d i hi
 rw[e2]
 congr 1
 have hl:j<f.enc.length:=by rw[f.len];exact hj
 rw[List.getElem?_eq_getElem hl] at hv
 injection hv with hv
 rw[←hv]
 simp[hl]
theorem qHC (g cap:Nat)(E:List FE)(w0 w:World)(hT:Tabs w0)(hb:Below w0.heap.size w0 w)(hg:w0.heap.size≤g)(hgl:g<w.heap.size)(hH:HoldsK FE.enc 8 w g 0 E.toArray)(hn:E.length≤1048576) :
  Calls Tryz.prog 142 #[.slice (some ⟨g,0,none⟩) E.length cap,.func (.func 143) #[] #[]] w fun e w'=>e=.returned (.tuple #[])∧∃d':Array FE,d'.size=E.length∧d'.toList.Perm E ∧
   (∀i j,i<j→j<E.length→ltOf feC d'[j]! d'[i]! = false)∧HoldsK FE.enc 8 w' g 0 d'∧Below w0.heap.size w0 w':=by
 have hs:E.toArray.size=E.length:=by simp
 have hC:CmpLays Tryz.prog 143 #[] FE.enc 8 feC g 0 E.toArray.size w:=by
  intro m os dk hd x y
  have hW:=qBX (m:=m) (dk:=dk) (os:=os) hb hg
  obtain⟨xk,xv,xc,xs,xl,x7,xo⟩:=x
  obtain⟨yk,yv,yc,ys,yl,y7,yo⟩:=y
  match xc,x7,yc,y7 with
  | [x1,x2,x3,x4,x5,x6,x7],_,[y1,y2,y3,y4,y5,y6,y7],_ =>
   refine (qN0 xk yk x1 x2 x3 x4 x5 x6 x7 y1 y2 y3 y4 y5 y6 y7 _ xl yl xs ys (hT.below hW).1).mono ?_
   rintro e w' ⟨rfl,hgr⟩
   exact⟨rfl,hgr.grow⟩
 have:=AnyQ.slices_SortFunc Tryz.laysSlF06_f68 8 Tryz.isAgg67 Tryz.sizeOf67 FE.enc FE.len FE.ones feC fe_swo 143 #[] g 0 cap E.toArray w (qAz Tryz.func143 (by kernel_rfl) (by kernel_rfl)) hC hH hgl (by omega)
 rw[hs] at this
 refine this.mono ?_
 rintro e w' ⟨rfl,d',n,os,⟨p1,_,p3⟩,hsrt,rfl⟩
 have hd:d'.size=E.length:=by rw[p1,hs]
 refine⟨rfl,d',hd,?_,fun i j hij hj=>hsrt i j (Nat.zero_le _) hij hj,holdsK_sortWorldK_c FE.enc 8 w g 0 E.toArray d' n os hH hgl p1,qBX hb hg⟩
 have e1:(d'.extract 0 E.length).toList=d'.toList:=by rw[←hd];simp
 have e2:(E.toArray.extract 0 E.length).toList=E:=by simp
 rw[e1,e2] at p3
 exact p3
theorem qLg {E:List FE}{d':Array FE}(hnd:((E.map FE.fld).map (·.1)).Nodup)(hsz:d'.size=E.length)(hp:d'.toList.Perm E)(hs:∀i j,i<j→j<E.length→ltOf feC d'[j]! d'[i]! = false):d'.toList.map FE.fld=sortK (E.map FE.fld):=by
 have hp2:=hp.map FE.fld
 have hnd2:((d'.toList.map FE.fld).map (·.1)).Nodup:=(hp2.map (·.1)).nodup_iff.2 hnd
 refine qNb hnd ?_ (fun z=>hp2.mem_iff)
 unfold Rising
 rw[List.pairwise_iff_getElem]
 intro i j hi hj hij
 have hlen:(d'.toList.map FE.fld).length=E.length:=by simp[hsz]
 have h1:=hs i j hij (by omega)
 have e1:d'[i]! = d'.toList[i]'(by simpa using hi):=by simp at hi;simp[hi]
 have e2:d'[j]! = d'.toList[j]'(by simpa using hj):=by simp at hj;simp[hj]
 rw[e1,e2] at h1
 simp only[List.getElem_map,FE.fld]
 have h2:¬ keyC (d'.toList[j]'(by simpa using hj)).key (d'.toList[i]'(by simpa using hi)).key<0:=of_decide_eq_false h1
 have h3:keyC (d'.toList[i]'(by simpa using hi)).key (d'.toList[j]'(by simpa using hj)).key≠0:=fun h=>by
  have h4:=qEv h
  have h5:=(List.pairwise_iff_getElem.1 hnd2) i j (by simpa using hi) (by simpa using hj) hij
  apply h5
  simp only[List.getElem_map,FE.fld]
  exact h4
 have:=qBA (d'.toList[i]'(by simpa using hi)).key (d'.toList[j]'(by simpa using hj)).key
 omega
theorem rdo_of {w0 w:World}{g:Nat}{d':Array FE}(hH:HoldsK FE.enc 8 w g 0 d')(hb:Below w0.heap.size w0 w)(hr:∀f ∈ d'.toList,RdV w0 f.cs f.v):RdO w (some ⟨g,0,none⟩) (d'.toList.map FE.fld):=by
 intro i x hx
 rw[List.getElem?_map] at hx
 obtain⟨f,hf,rfl⟩:=Option.map_eq_some_iff.1 hx
 have hf2:d'[i]? = some f:=by rw[←Array.getElem?_toList];exact hf
 exact⟨f.cs,qM1 hH i f hf2,f.short,(hr f (List.mem_of_getElem? hf)).stay hb⟩
theorem qIu {w:World}{obj:List Fld}(h:RdO w none obj):obj=[]:=by
 cases obj with
 | nil=>rfl
 | cons x obj =>
  obtain⟨cs,⟨b,off,e,_⟩,_⟩:=h 0 x rfl
  cases e
theorem qJx (p:Addr)(c:Nat)(w:World) :
  Calls Tryz.prog 132 #[.slice (some p) 0 c] w fun e w'=>∃(q:Option Addr) (c':Nat),e=.returned (.slice q 0 c')∧Below w.heap.size w w':=by
 obtain⟨i0,i1,i2,i3,z,i4,i5⟩:=qB9
 have h0:=World.ownsRow_made (base:=w.heap.size) (e:=67) (size:=8) w #[] 0 (Nat.le_refl _) (by unfold maxLen;omega) rfl
 have hq:=fun (W:World)=>Lib.run_eql_slice_nil (P:=Tryz.prog) W 26 67 (some p) 0 c 0 0 Tryz.underlying26
 have H0:=hid h0
 clear h0
 replace i1:=hid i1
 replace i2:=hid i2
 replace i3:=hid i3
 replace i4:=hid i4
 replace i5:=hid i5
 go_enter Tryz.func132,Tryz.ntmps132
 go_wp2_with (at_builtin;refine wpList_append_own _ rfl _ _ _ rfl w.heap.size _ i0 z 8 128 Tryz.underlying26 i1.out i4.out i2.out i3.out i5.out (by decide) _ 0 [] rfl H0.out p 0 c [] rfl rfl (fun j u h=>by simp at h) (fun u h=>by cases h) (by unfold maxLen;omega) (by omega) (by simp) ?_;intro v' w' hown hgr _)
 have hB:=hid (((Below.refl w.heap.size w).alloc (Nat.le_refl _) (.cells #[] 67)).grown hgr (by simp) (fun k hk=>by
  have hk:some w.heap.size=some k:=hk
  injection hk with hk
  omega))
 clear hgr
 obtain⟨_,ho⟩:=hown
 rcases ho with ⟨rfl,_⟩ | ⟨g,cap,cur,rfl,_⟩
 ·go_ret
  exact⟨⟨none,0,rfl⟩,hB.out⟩
 ·go_ret
  exact⟨⟨some ⟨g,0,none⟩,cap,rfl⟩,hB.out⟩
set_option maxRecDepth 100000 in
theorem qDs (obj:List Fld)(oa:Option Addr)(oc:Nat)(w:World)(h:RdO w oa obj)(hs:∀p ∈ obj,soundB p.1=true)(hnd:(obj.map (·.1)).Nodup)(hn:obj.length≤1048576)(hT:Tabs w) :
  Calls Tryz.prog 99 #[.slice oa obj.length oc] w fun e w'=>∃(a:Option Addr) (c:Nat),e=.returned (.slice a obj.length c)∧RdO w' a (sortK obj)∧Below w.heap.size w w':=by
 cases oa with
 | none =>
  obtain rfl:=qIu h
  have C1:=AnyE.slices_Clone_nil Tryz.laysSlE041_f31 0 oc w
  have C2:=AnyF.slices_SortFunc_none Tryz.laysSlF06_f68 none 0 (.func (.func 143) #[] #[]) w
  replace C1:=hid C1
  replace C2:=hid C2
  clear h hs hnd hn hT
  go_enter Tryz.func99,Tryz.ntmps99
  go_wp2_with fail
  refine C1.out.mono ?_
  rintro e w1 ⟨rfl,hw1⟩
  rw[hw1]
  clear hw1 w1
  go_wp2_with fail
  refine C2.out.mono ?_
  rintro e w1 ⟨rfl,hw1⟩
  rw[hw1]
  clear hw1 w1
  go_wp2
  go_ret
  exact⟨none,0,rfl,fun i x hx=>by simp[sortK] at hx,Below.refl _ _⟩
 | some p =>
  cases hob:obj with
  | nil =>
   subst hob
   have C1:=qJx p oc w
   have C2:=fun q c W=>AnyF.slices_SortFunc_none Tryz.laysSlF06_f68 q c (.func (.func 143) #[] #[]) W
   replace C1:=hid C1
   replace C2:=hid C2
   clear h hs hnd hn hT
   go_enter Tryz.func99,Tryz.ntmps99
   go_wp2_with fail
   refine C1.out.mono ?_
   rintro e w1 ⟨q,c',rfl,hb⟩
   go_wp2_with fail
   refine (C2.out _ _ _).mono ?_
   rintro e w2 ⟨rfl,hw2⟩
   rw[hw2]
   clear hw2 w2
   go_wp2
   go_ret
   exact⟨q,c',rfl,fun i x hx=>by simp[sortK] at hx,hb⟩
  | cons x0 obj0 =>
   rw[←hob]
   obtain⟨b,off,rfl⟩:∃b off,p=⟨b,off,none⟩:=by
    obtain⟨cs,⟨b,off,e,_⟩,_⟩:=h 0 x0 (by rw[hob];rfl)
    injection e with e
    exact⟨b,off,e⟩
   clear hob
   obtain⟨E,e1,e2,e3⟩:=qIt (obj:=obj) (k:=0) (fun i x hx=>by rw[Nat.zero_add];exact h i x hx) hs
   simp only[Nat.zero_add] at e3
   have hlen:obj.length=E.length:=by rw[←e1];simp
   rw[hlen]
   have C1:=qEg b off oc E w e3 (by omega)
   have C2:=fun g cap w1 hb hg hgl hH=>qHC g cap E w w1 hT hb hg hgl hH (by omega)
   have HD:=hid (show ((E.map FE.fld).map (·.1)).Nodup by rw[e1];exact hnd)
   have HE1:=hid e1
   have HE2:=hid e2
   replace C1:=hid C1
   replace C2:=hid C2
   clear h hs hnd hn hT e1 e2 e3 hlen
   go_enter Tryz.func99,Tryz.ntmps99
   go_wp2_with fail
   refine C1.out.mono ?_
   rintro e w1 ⟨g,cap,cur,rfl,k1,k2,k3,k4,k5,k6,k7⟩
   have hH:=qM0 k2 k3 k5 k6
   have hgl:=(Array.getElem?_eq_some_iff.1 k2).1
   have C3:=hid (C2.out g cap w1 k7 k1 hgl hH)
   clear C2 k1 k2 k3 k4 k5 k6 k7 hH hgl
   go_wp2_with fail
   refine C3.out.mono ?_
   rintro e w2 ⟨rfl,d',d1,d2,d3,d4,d5⟩
   have hR:=hid (show RdO w2 (some ⟨g,0,none⟩) (sortK obj) by
    rw[←HE1.out,←qLg HD.out d1 d2 d3]
    exact rdo_of d4 d5 (fun f hf=>HE2.out f (d2.mem_iff.1 hf)))
   have hB:=hid d5
   clear d1 d2 d3 d4 d5 HD HE1 HE2
   go_wp2
   go_ret
   exact⟨some ⟨g,0,none⟩,cap,rfl,hR.out,hB.out⟩
set_option maxRecDepth 100000 in
set_option maxHeartbeats 4000000 in
theorem qDN (g:Nat)(eg:∀args w,(callFunc g args).run Tryz.prog w=.ok (.enter g args) w)(f:JV→JV→Int)(xs ys:List (JV))(aa ba:Option Addr)(ac bc:Nat)(w:World)(hxs:RdA w aa xs)(hys:RdA w ba ys)
  (hxl:xs.length≤9223372036854775807)(_hyl:ys.length≤9223372036854775807)
  (hC:∀(x y:JV) (cx cy:List Value) (W:World),x ∈ xs→y ∈ ys→Below w.heap.size w W→RdV W cx x→RdV W cy y→Calls Tryz.prog g #[.agg (cx).toArray,.agg (cy).toArray] W fun e w'=>e=.returned (.int .i64 (f x y))∧Below W.heap.size W w') :
  Calls Tryz.prog 98 #[.slice aa xs.length ac,.slice ba ys.length bc,.func (.func g) #[] #[]] w fun e w'=>e=.returned (.int .i64 (cmpBy f xs ys))∧Below w.heap.size w w':=by
 obtain⟨R,hR⟩:∃R,R=cmpBy f xs ys:=⟨_,rfl⟩
 rw[←hR]
 replace hR:=hid hR
 replace hC:=hid hC
 replace hxs:=hid hxs
 replace hys:=hid hys
 generalize hnx:xs.length=nx at *
 generalize hny:ys.length=ny at *
 replace hnx:=hid hnx
 replace hny:=hid hny
 go_enter Tryz.func98,Tryz.ntmps98
 go_wp2
 go_loopw [7,8,9,10,13] (fun _ _ _ _ v13 wr=>∃k:Nat,k≤nx∧k≤ny∧Hid (R=cmpBy f (xs.drop k) (ys.drop k))∧v13=.int .i64 k∧Below w.heap.size w wr) (fun _ _ _ _ v13 _=>nx-(intOf v13).toNat)
 case atStart=>exact⟨0,Nat.zero_le _,Nat.zero_le _,hid (by simpa using hR.out),rfl,Below.refl _ _⟩
 case round =>
  obtain⟨k,hk,hky,hK,rfl,hb⟩:=hrel
  clear hR
  by_cases hlt:k<nx
  ·have hlt2:(k:Int)<(nx:Int):=by omega
   have hk1:k<xs.length:=by rw[hnx.out];exact hlt
   obtain⟨b,off,a1,c1,aa1,ac1,oa1,oc1,rfl,P1,C1⟩:=(hxs.out.below hb).at hk1
   have rd:=hid P1.rd
   clear P1
   unfold Cells7 strV at C1
   obtain⟨x,hx⟩:∃x,x=xs[k]:=⟨_,rfl⟩
   rw[←hx] at C1 rd
   have hxm:=hid (show x ∈ xs by rw[hx];exact List.getElem_mem hk1)
   have HXX:=hid (show xs[k]? = some x by rw[hx];exact List.getElem?_eq_getElem hk1)
   clear hx
   skip
   obtain⟨c0x,c1x,c2x,c3x,c4x,c5x,c6x⟩:=C1
   by_cases hge:ny≤k
   ·have hge2:(ny:Int)≤(k:Int):=by omega
    obtain rfl:R=1:=by rw[hK.out];exact qFi hk1 (by rw[hny.out];exact hge)
    go_wp2
    go_ret
    exact⟨rfl,hb.alloc hb.size _⟩
   ·have hge2:¬ (ny:Int)≤(k:Int):=by omega
    have hlt3:(k:Int)<(ny:Int):=by omega
    have hk2:k<ys.length:=by rw[hny.out];omega
    have hW1:∀o,Below w.heap.size w (wr.alloc o):=fun o=>hb.alloc hb.size o
    obtain⟨b',off',a2,c2,aa2,ac2,oa2,oc2,rfl,P2,C2⟩:=(hys.out.below hb).at hk2
    have rd2:=hid P2.rd
    clear P2
    unfold Cells7 strV at C2
    obtain⟨y,hy⟩:∃y,y=ys[k]:=⟨_,rfl⟩
    rw[←hy] at C2 rd2
    have hym:=hid (show y ∈ ys by rw[hy];exact List.getElem_mem hk2)
    have HYY:=hid (show ys[k]? = some y by rw[hy];exact List.getElem?_eq_getElem hk2)
    clear hy
    skip
    obtain⟨d0,d1,d2,d3,d4,d5,d6⟩:=C2
    have hl2:=qAg d0
    have hB1:∀o o',Below wr.heap.size wr ((wr.alloc o).alloc o'):=fun o o'=>((Below.refl _ _).alloc (Nat.le_refl _) _).alloc (by simp) _
    have hC2:=hid fun o o'=>hC.out x y _ _ ((wr.alloc o).alloc o') hxm.out hym.out (qAa hb (hB1 o o')) (rd.out.stay (hB1 o o')) (rd2.out.stay (hB1 o o'))
    have hKn:=hid (show R=if f x y≠0 then f x y else cmpBy f (xs.drop (k+1)) (ys.drop (k+1)) by rw[hK.out];exact qFh HXX.out HYY.out)
    obtain⟨r,hr⟩:∃r,r=f x y:=⟨_,rfl⟩
    rw[←hr] at hC2 hKn
    replace hB1:=hid hB1
    clear hr hW1 hK hge hlt
    by_cases h0:r=0
    ·subst h0
     have hK2:=hid (show R=cmpBy f (xs.drop (k+1)) (ys.drop (k+1)) by have:=hKn.out;rw[if_neg (by simp)] at this;exact this)
     clear hKn
     go_wp2_with (first | (go_at_fn g;(refine (hC2.out _ _).mono ?_);rintro en w1 ⟨rfl,hb1⟩) | fail)
     go_roundw
     case rel=>exact⟨k+1,by omega,by omega,hK2,by first | rfl | go_num,qAa hb (qAa (hB1.out _ _) hb1)⟩
     case measure=>simp[intOf];omega
    ·obtain rfl:R=r:=by have:=hKn.out;rw[if_pos h0] at this;exact this
     clear hKn
     have h1:(R == 0)=false:=by rw[beq_eq_false_iff_ne];exact h0
     have h2:(R != 0)=true:=by rw[bne_iff_ne];exact h0
     clear h0
     go_wp2_with (first | (go_at_fn g;(refine (hC2.out _ _).mono ?_);rintro en w1 ⟨rfl,hb1⟩) | fail)
     go_ret
     exact⟨rfl,qAa hb (qAa (hB1.out _ _) hb1)⟩
  ·obtain rfl:k=nx:=by omega
   have hlt2:¬ ((k:Nat):Int)<(k:Int):=by omega
   by_cases hge:k<ny
   ·have hge2:(k:Int)<(ny:Int):=by omega
    obtain rfl:R=-1:=by rw[hK.out];exact qEz (by rw[hnx.out];exact Nat.le_refl _) (by rw[hny.out];exact hge)
    go_wp2
    go_ret
    exact⟨rfl,hb⟩
   ·have hge2:¬ (k:Int)<(ny:Int):=by omega
    obtain rfl:R=0:=by rw[hK.out];exact qFj (by rw[hnx.out];exact Nat.le_refl _) (by rw[hny.out];omega)
    go_wp2
    go_ret
    exact⟨rfl,hb⟩
set_option maxRecDepth 100000 in
set_option maxHeartbeats 4000000 in
theorem qBZ (g:Nat)(eg:∀args w,(callFunc g args).run Tryz.prog w=.ok (.enter g args) w)(f:Fld→Fld→Int)(xs ys:List (Fld))(aa ba:Option Addr)(ac bc:Nat)(w:World)(hxs:RdO w aa xs)(hys:RdO w ba ys)
  (hxl:xs.length≤9223372036854775807)(_hyl:ys.length≤9223372036854775807)
  (hC:∀(x y:Fld) (cx cy:List Value) (W:World),x ∈ xs→y ∈ ys→Below w.heap.size w W→RdV W cx x.2→RdV W cy y.2→Calls Tryz.prog g #[.agg (strV x.1 :: cx).toArray,.agg (strV y.1 :: cy).toArray] W fun e w'=>e=.returned (.int .i64 (f x y))∧Below W.heap.size W w') :
  Calls Tryz.prog 100 #[.slice aa xs.length ac,.slice ba ys.length bc,.func (.func g) #[] #[]] w fun e w'=>e=.returned (.int .i64 (cmpBy f xs ys))∧Below w.heap.size w w':=by
 obtain⟨R,hR⟩:∃R,R=cmpBy f xs ys:=⟨_,rfl⟩
 rw[←hR]
 replace hR:=hid hR
 replace hC:=hid hC
 replace hxs:=hid hxs
 replace hys:=hid hys
 generalize hnx:xs.length=nx at *
 generalize hny:ys.length=ny at *
 replace hnx:=hid hnx
 replace hny:=hid hny
 go_enter Tryz.func100,Tryz.ntmps100
 go_wp2
 go_loopw [7,8,9,10,13] (fun _ _ _ _ v13 wr=>∃k:Nat,k≤nx∧k≤ny∧Hid (R=cmpBy f (xs.drop k) (ys.drop k))∧v13=.int .i64 k∧Below w.heap.size w wr) (fun _ _ _ _ v13 _=>nx-(intOf v13).toNat)
 case atStart=>exact⟨0,Nat.zero_le _,Nat.zero_le _,hid (by simpa using hR.out),rfl,Below.refl _ _⟩
 case round =>
  obtain⟨k,hk,hky,hK,rfl,hb⟩:=hrel
  clear hR
  by_cases hlt:k<nx
  ·have hlt2:(k:Int)<(nx:Int):=by omega
   have hk1:k<xs.length:=by rw[hnx.out];exact hlt
   obtain⟨b,off,a1,c1,aa1,ac1,oa1,oc1,rfl,_,P1,C1⟩:=(hxs.out.below hb).at hk1
   have rd:=hid P1.rd
   clear P1
   unfold Cells8f strV at C1
   obtain⟨x,hx⟩:∃x,x=xs[k]:=⟨_,rfl⟩
   rw[←hx] at C1 rd
   have hxm:=hid (show x ∈ xs by rw[hx];exact List.getElem_mem hk1)
   have HXX:=hid (show xs[k]? = some x by rw[hx];exact List.getElem?_eq_getElem hk1)
   clear hx
   obtain⟨kx,x⟩:=x
   simp only at C1 rd
   obtain⟨c0x,c1x,c2x,c3x,c4x,c5x,c6x,c7x⟩:=C1
   by_cases hge:ny≤k
   ·have hge2:(ny:Int)≤(k:Int):=by omega
    obtain rfl:R=1:=by rw[hK.out];exact qFi hk1 (by rw[hny.out];exact hge)
    go_wp2
    go_ret
    exact⟨rfl,hb.alloc hb.size _⟩
   ·have hge2:¬ (ny:Int)≤(k:Int):=by omega
    have hlt3:(k:Int)<(ny:Int):=by omega
    have hk2:k<ys.length:=by rw[hny.out];omega
    have hW1:∀o,Below w.heap.size w (wr.alloc o):=fun o=>hb.alloc hb.size o
    obtain⟨b',off',a2,c2,aa2,ac2,oa2,oc2,rfl,_,P2,C2⟩:=(hys.out.below hb).at hk2
    have rd2:=hid P2.rd
    clear P2
    unfold Cells8f strV at C2
    obtain⟨y,hy⟩:∃y,y=ys[k]:=⟨_,rfl⟩
    rw[←hy] at C2 rd2
    have hym:=hid (show y ∈ ys by rw[hy];exact List.getElem_mem hk2)
    have HYY:=hid (show ys[k]? = some y by rw[hy];exact List.getElem?_eq_getElem hk2)
    clear hy
    obtain⟨ky,y⟩:=y
    simp only at C2 rd2
    obtain⟨d0,d1,d2,d3,d4,d5,d6,d7⟩:=C2
    have hl2:=qAg d0
    have hB1:∀o o',Below wr.heap.size wr ((wr.alloc o).alloc o'):=fun o o'=>((Below.refl _ _).alloc (Nat.le_refl _) _).alloc (by simp) _
    have hC2:=hid fun o o'=>hC.out (kx,x) (ky,y) _ _ ((wr.alloc o).alloc o') hxm.out hym.out (qAa hb (hB1 o o')) (rd.out.stay (hB1 o o')) (rd2.out.stay (hB1 o o'))
    have hKn:=hid (show R=if f (kx,x) (ky,y)≠0 then f (kx,x) (ky,y) else cmpBy f (xs.drop (k+1)) (ys.drop (k+1)) by rw[hK.out];exact qFh HXX.out HYY.out)
    obtain⟨r,hr⟩:∃r,r=f (kx,x) (ky,y):=⟨_,rfl⟩
    rw[←hr] at hC2 hKn
    replace hB1:=hid hB1
    clear hr hW1 hK hge hlt
    by_cases h0:r=0
    ·subst h0
     have hK2:=hid (show R=cmpBy f (xs.drop (k+1)) (ys.drop (k+1)) by have:=hKn.out;rw[if_neg (by simp)] at this;exact this)
     clear hKn
     go_wp2_with (first | (go_at_fn g;(refine (hC2.out _ _).mono ?_);rintro en w1 ⟨rfl,hb1⟩) | fail)
     go_roundw
     case rel=>exact⟨k+1,by omega,by omega,hK2,by first | rfl | go_num,qAa hb (qAa (hB1.out _ _) hb1)⟩
     case measure=>simp[intOf];omega
    ·obtain rfl:R=r:=by have:=hKn.out;rw[if_pos h0] at this;exact this
     clear hKn
     have h1:(R == 0)=false:=by rw[beq_eq_false_iff_ne];exact h0
     have h2:(R != 0)=true:=by rw[bne_iff_ne];exact h0
     clear h0
     go_wp2_with (first | (go_at_fn g;(refine (hC2.out _ _).mono ?_);rintro en w1 ⟨rfl,hb1⟩) | fail)
     go_ret
     exact⟨rfl,qAa hb (qAa (hB1.out _ _) hb1)⟩
  ·obtain rfl:k=nx:=by omega
   have hlt2:¬ ((k:Nat):Int)<(k:Int):=by omega
   by_cases hge:k<ny
   ·have hge2:(k:Int)<(ny:Int):=by omega
    obtain rfl:R=-1:=by rw[hK.out];exact qEz (by rw[hnx.out];exact Nat.le_refl _) (by rw[hny.out];exact hge)
    go_wp2
    go_ret
    exact⟨rfl,hb⟩
   ·have hge2:¬ (k:Int)<(ny:Int):=by omega
    obtain rfl:R=0:=by rw[hK.out];exact qFj (by rw[hnx.out];exact Nat.le_refl _) (by rw[hny.out];omega)
    go_wp2
    go_ret
    exact⟨rfl,hb⟩
theorem qHh (x:Int)(w:World):Calls Tryz.prog 136 #[.int .i64 x] w fun e w'=>e=.returned (.bool false)∧w'=w:=by
 have h:(x == x)=true:=by simp
 go_enter Tryz.func136,Tryz.ntmps136
 go_wp2
 go_ret
 exact⟨by simp,rfl⟩
theorem qAF (x y:Int)(w:World):Calls Tryz.prog 95 #[.int .i64 x,.int .i64 y] w fun e w'=>e=.returned (.int .i64 (cmpI x y))∧w'=w:=by
 by_cases h1:x<y
 ·have e:cmpI x y=-1:=by unfold cmpI;rw[if_pos h1]
  rw[e]
  go_enter Tryz.func95,Tryz.ntmps95
  go_wp2_with first | (refine (qHh _ _).mono ?_;rintro e w' ⟨rfl,rfl⟩) | fail
  go_ret
  exact⟨rfl,rfl⟩
 ·by_cases h2:y<x
  ·have e:cmpI x y=1:=by unfold cmpI;rw[if_neg h1,if_pos h2]
   rw[e]
   go_enter Tryz.func95,Tryz.ntmps95
   go_wp2_with first | (refine (qHh _ _).mono ?_;rintro e w' ⟨rfl,rfl⟩) | fail
   go_ret
   exact⟨rfl,rfl⟩
  ·have e:cmpI x y=0:=by unfold cmpI;rw[if_neg h1,if_neg h2]
   rw[e]
   go_enter Tryz.func95,Tryz.ntmps95
   go_wp2_with first | (refine (qHh _ _).mono ?_;rintro e w' ⟨rfl,rfl⟩) | fail
   go_ret
   exact⟨rfl,rfl⟩
inductive SmallV:JV→Prop
 | mk (v:JV) (h1:v.arr.length≤1048576) (h2:v.obj.length≤1048576) (h3:v.s.length≤1048576) (h4:∀x ∈ v.arr,SmallV x) (h5:∀p ∈ v.obj,p.1.length≤1048576) (h6:∀p ∈ v.obj,SmallV p.2):SmallV v
theorem SmallV.obj {v:JV}(h:SmallV v):v.obj.length≤1048576:=by cases h;assumption
theorem SmallV.arr {v:JV}(h:SmallV v):∀x ∈ v.arr,SmallV x:=by cases h;assumption
theorem SmallV.flds {v:JV}(h:SmallV v):∀p ∈ v.obj,SmallV p.2:=by cases h;assumption
theorem qGp {n:Nat}{v:JV}(h:mayJ n v=true)(hk:v.kind=3):takenE v.g v.ls.length (Num.worth v.ls) v.e=0∧takenD v.g v.ls.length (Num.worth v.ls) v.e=dOf v:=by
 have h1:=qBd h
 simp only[baseB,Bool.and_eq_true] at h1
 have h2:=h1.1.1.1.2
 rw[if_pos hk] at h2
 unfold mayB at h2
 simp only[decide_eq_true_eq] at h2
 obtain⟨e1,e2,e3,e4⟩:=h2
 refine⟨e1,?_⟩
 have e6:(takenD v.g v.ls.length (Num.worth v.ls) v.e).m=Num.worth v.ls:=by
  have:=congrArg Num.worth e4
  rw[Num.worth_limbs] at this
  exact this
 generalize takenD v.g v.ls.length (Num.worth v.ls) v.e=d at *
 obtain⟨dg,dm,de⟩:=d
 simp only at e2 e3 e6
 subst e2 e3 e6
 rfl
set_option maxRecDepth 100000 in
set_option maxHeartbeats 1600000 in
theorem qKA (k k':Int)(g g':Bool)(a a':Option Addr)(l l' c c':Nat)(e e':Int)(s s':List UInt8)(aa aa':Option Addr)(an an' ac ac':Nat)(oa oa':Option Addr)(on on' oc oc':Nat)(w:World)(h:k≠k') :
  Calls Tryz.prog 62 #[valV k g a l c e s aa an ac oa on oc,valV k' g' a' l' c' e' s' aa' an' ac' oa' on' oc'] w fun en w'=>en=.returned (.int .i64 (cmpI k k'))∧Below w.heap.size w w':=by
 have C:=qAF k k'
 have hne:(cmpI k k' == 0)=false:=by
  rw[beq_eq_false_iff_ne]
  unfold cmpI
  split
  ·decide
  ·split
   ·decide
   ·omega
 have hne2:(cmpI k k' != 0)=true:=by rw[bne,hne];rfl
 generalize cmpI k k'=R at *
 replace C:=hid C
 unfold valV
 clear h
 go_enter Tryz.func62,Tryz.ntmps62
 go_wp2_with fail
 refine (C.out _).mono ?_
 rintro en w1 ⟨rfl,hw1⟩
 rw[hw1]
 clear hw1 w1
 go_wp2_with fail
 go_ret
 exact⟨rfl,((Below.refl _ _).alloc (Nat.le_refl _) _).alloc (by simp) _⟩
set_option maxRecDepth 100000 in
set_option maxHeartbeats 1600000 in
theorem qMA (g g':Bool)(a a':Option Addr)(l l' c c':Nat)(e e':Int)(s s':List UInt8)(aa aa':Option Addr)(an an' ac ac':Nat)(oa oa':Option Addr)(on on' oc oc':Nat)(w:World)(R:Int)
  (hC:∀W,Below w.heap.size w W→Calls Tryz.prog 96 #[.agg #[.bool g,.slice a l c,.int .i64 e],.agg #[.bool g',.slice a' l' c',.int .i64 e']] W fun en w'=>en=.returned (.tuple #[.int .i64 R,.int .i64 0])∧Below W.heap.size W w') :
  Calls Tryz.prog 62 #[valV 3 g a l c e s aa an ac oa on oc,valV 3 g' a' l' c' e' s' aa' an' ac' oa' on' oc'] w fun en w'=>en=.returned (.int .i64 R)∧Below w.heap.size w w':=by
 have C:=qAF 3 3
 rw[show cmpI 3 3=0 by decide] at C
 replace C:=hid C
 replace hC:=hid hC
 unfold valV
 go_enter Tryz.func62,Tryz.ntmps62
 go_wp2_with fail
 refine (C.out _).mono ?_
 rintro en w1 ⟨rfl,hw1⟩
 rw[hw1]
 clear hw1 w1
 go_wp2_with fail
 refine (hC.out _ (((Below.refl _ _).alloc (Nat.le_refl _) _).alloc (by simp) _)).mono ?_
 rintro en w1 ⟨rfl,hb⟩
 have hbb:=hid (qAa (((Below.refl w.heap.size w).alloc (Nat.le_refl _) _).alloc (by simp) _) hb)
 clear hb
 go_wp2_with fail
 go_ret
 exact⟨rfl,hbb.out⟩
set_option maxRecDepth 100000 in
set_option maxHeartbeats 1600000 in
theorem qKB (g g':Bool)(a a':Option Addr)(l l' c c':Nat)(e e':Int)(s s':List UInt8)(aa aa':Option Addr)(an an' ac ac':Nat)(oa oa':Option Addr)(on on' oc oc':Nat)(w:World)
  (hC:∀W,Below w.heap.size w W→Calls Tryz.prog 97 #[strV s,strV s'] W fun en w'=>en=.returned (.int .i64 (keyC s s'))∧Below W.heap.size W w') :
  Calls Tryz.prog 62 #[valV 4 g a l c e s aa an ac oa on oc,valV 4 g' a' l' c' e' s' aa' an' ac' oa' on' oc'] w fun en w'=>en=.returned (.int .i64 (keyC s s'))∧Below w.heap.size w w':=by
 have C:=qAF 4 4
 rw[show cmpI 4 4=0 by decide] at C
 generalize keyC s s'=R at *
 unfold valV
 unfold strV at *
 replace C:=hid C
 replace hC:=hid hC
 go_enter Tryz.func62,Tryz.ntmps62
 go_wp2_with fail
 refine (C.out _).mono ?_
 rintro en w1 ⟨rfl,hw1⟩
 rw[hw1]
 clear hw1 w1
 go_wp2_with fail
 refine (hC.out _ (((Below.refl _ _).alloc (Nat.le_refl _) _).alloc (by simp) _)).mono ?_
 rintro en w1 ⟨rfl,hb⟩
 have hbb:=hid (qAa (((Below.refl w.heap.size w).alloc (Nat.le_refl _) _).alloc (by simp) _) hb)
 clear hb
 go_wp2_with fail
 go_ret
 exact⟨rfl,hbb.out⟩
set_option maxRecDepth 100000 in
set_option maxHeartbeats 1600000 in
theorem qKC (k:Int)(g g':Bool)(a a':Option Addr)(l l' c c':Nat)(e e':Int)(s s':List UInt8)(aa aa':Option Addr)(an an' ac ac':Nat)(oa oa':Option Addr)(on on' oc oc':Nat)(w:World)
  (h3:k≠3)(h4:k≠4)(h5:k≠5)(h6:k≠6) :
  Calls Tryz.prog 62 #[valV k g a l c e s aa an ac oa on oc,valV k g' a' l' c' e' s' aa' an' ac' oa' on' oc'] w fun en w'=>en=.returned (.int .i64 0)∧Below w.heap.size w w':=by
 have C:=qAF k k
 rw[show cmpI k k=0 by unfold cmpI;rw[if_neg (by omega),if_neg (by omega)]] at C
 replace C:=hid C
 have e3:(k == 3)=false:=by rw[beq_eq_false_iff_ne];exact h3
 have e4:(k == 4)=false:=by rw[beq_eq_false_iff_ne];exact h4
 have e5:(k == 5)=false:=by rw[beq_eq_false_iff_ne];exact h5
 have e6:(k == 6)=false:=by rw[beq_eq_false_iff_ne];exact h6
 clear h3 h4 h5 h6
 unfold valV
 go_enter Tryz.func62,Tryz.ntmps62
 go_wp2_with fail
 refine (C.out _).mono ?_
 rintro en w1 ⟨rfl,hw1⟩
 rw[hw1]
 clear hw1 w1
 go_wp2_with fail
 go_ret
 exact⟨rfl,((Below.refl _ _).alloc (Nat.le_refl _) _).alloc (by simp) _⟩
set_option maxRecDepth 100000 in
set_option maxHeartbeats 1600000 in
theorem qMB (g g':Bool)(a a':Option Addr)(l l' c c':Nat)(e e':Int)(s s':List UInt8)(aa aa':Option Addr)(an an' ac ac':Nat)(oa oa':Option Addr)(on on' oc oc':Nat)(w:World)(R:Int)
  (hC:∀W,Below w.heap.size w W→Calls Tryz.prog 98 #[.slice aa an ac,.slice aa' an' ac',.func (.func 62) #[] #[]] W fun en w'=>en=.returned (.int .i64 R)∧Below W.heap.size W w') :
  Calls Tryz.prog 62 #[valV 5 g a l c e s aa an ac oa on oc,valV 5 g' a' l' c' e' s' aa' an' ac' oa' on' oc'] w fun en w'=>en=.returned (.int .i64 R)∧Below w.heap.size w w':=by
 have C:=qAF 5 5
 rw[show cmpI 5 5=0 by decide] at C
 replace C:=hid C
 replace hC:=hid hC
 unfold valV
 go_enter Tryz.func62,Tryz.ntmps62
 go_wp2_with fail
 refine (C.out _).mono ?_
 rintro en w1 ⟨rfl,hw1⟩
 rw[hw1]
 clear hw1 w1
 go_wp2_with fail
 refine (hC.out _ (((Below.refl _ _).alloc (Nat.le_refl _) _).alloc (by simp) _)).mono ?_
 rintro en w1 ⟨rfl,hb⟩
 have hbb:=hid (qAa (((Below.refl w.heap.size w).alloc (Nat.le_refl _) _).alloc (by simp) _) hb)
 clear hb
 go_wp2_with fail
 go_ret
 exact⟨rfl,hbb.out⟩
theorem keepW {w W' w1:World}{B N M i j:Nat}{x y:Value}(h:W'.cell? ⟨N,i,none⟩=some x∧W'.cell? ⟨M,j,none⟩=some y∧Below B w W')(hB:B≤w.heap.size)(hb:Below W'.heap.size W' w1) :
  w1.cell? ⟨N,i,none⟩=some x∧w1.cell? ⟨M,j,none⟩=some y∧Below B w w1:=⟨qAd h.1 hb,qAd h.2.1 hb,h.2.2.trans (hb.mono (Nat.le_trans hB h.2.2.size))⟩
def SortedBoth (w w':World) (u v:Value) (xs ys:List Fld):Prop:=∃(p q:Option Addr) (pc qc:Nat),u=.slice p xs.length pc∧v=.slice q ys.length qc∧RdO w' p xs∧RdO w' q ys∧Below w.heap.size w w'
def OutSorted (w:World) (l:List Fld) (e:Ending) (w':World):Prop:=∃(a:Option Addr) (c:Nat),e=.returned (.slice a l.length c)∧RdO w' a l∧Below w.heap.size w w'
set_option maxRecDepth 100000 in
set_option maxHeartbeats 6000000 in
theorem qMC (g g':Bool)(a a':Option Addr)(l l' c c':Nat)(e e':Int)(s s':List UInt8)(aa aa':Option Addr)(an an' ac ac':Nat)(oa oa':Option Addr)(on on' oc oc':Nat)(w:World)(xs ys:List Fld)(r1 r2:Int)
  (hS1:∀W,Below w.heap.size w W→Calls Tryz.prog 99 #[.slice oa on oc] W (OutSorted W xs))(hS2:∀W,Below w.heap.size w W→Calls Tryz.prog 99 #[.slice oa' on' oc'] W (OutSorted W ys))
  (hC1:∀W p q pc qc,Below w.heap.size w W→RdO W p xs→RdO W q ys→Calls Tryz.prog 100 #[.slice p xs.length pc,.slice q ys.length qc,.func (.func 101) #[] #[]] W fun en w'=>en=.returned (.int .i64 r1)∧Below W.heap.size W w')
  (hC2:∀W p q pc qc,Below w.heap.size w W→RdO W p xs→RdO W q ys→Calls Tryz.prog 100 #[.slice p xs.length pc,.slice q ys.length qc,.func (.func 102) #[] #[]] W fun en w'=>en=.returned (.int .i64 r2)∧Below W.heap.size W w') :
  Calls Tryz.prog 62 #[valV 6 g a l c e s aa an ac oa on oc,valV 6 g' a' l' c' e' s' aa' an' ac' oa' on' oc'] w fun en w'=>en=.returned (.int .i64 (if r1≠0 then r1 else r2))∧Below w.heap.size w w':=by
 obtain⟨R,hR⟩:∃R,R=(if r1≠0 then r1 else r2):=⟨_,rfl⟩
 rw[←hR]
 have C:=qAF 6 6
 rw[show cmpI 6 6=0 by decide] at C
 replace C:=hid C
 replace hS1:=hid hS1
 replace hS2:=hid hS2
 replace hC1:=hid hC1
 replace hC2:=hid hC2
 replace hR:=hid hR
 unfold valV
 go_enter Tryz.func62,Tryz.ntmps62
 go_wp2_with fail
 refine (C.out _).mono ?_
 rintro en w1 ⟨rfl,hw1⟩
 rw[hw1]
 clear hw1 w1 C
 go_upto_region 13 with fail
 have k0:((w.alloc (.cells #[.int .i64 6,.bool g,.slice a l c,.int .i64 e,strV s,.slice aa an ac,.slice oa on oc] 28)).alloc (.cells #[.int .i64 6,.bool g',.slice a' l' c',.int .i64 e',strV s',.slice aa' an' ac',.slice oa' on' oc'] 28)).cell? ⟨w.heap.size,6,none⟩=some (.slice oa on oc):=by simp[go_sem]
 have k1:((w.alloc (.cells #[.int .i64 6,.bool g,.slice a l c,.int .i64 e,strV s,.slice aa an ac,.slice oa on oc] 28)).alloc (.cells #[.int .i64 6,.bool g',.slice a' l' c',.int .i64 e',strV s',.slice aa' an' ac',.slice oa' on' oc'] 28)).cell? ⟨w.heap.size+1,6,none⟩=some (.slice oa' on' oc'):=by simp[go_sem]
 have hb0:Below w.heap.size w ((w.alloc (.cells #[.int .i64 6,.bool g,.slice a l c,.int .i64 e,strV s,.slice aa an ac,.slice oa on oc] 28)).alloc (.cells #[.int .i64 6,.bool g',.slice a' l' c',.int .i64 e',strV s',.slice aa' an' ac',.slice oa' on' oc'] 28)):=((Below.refl _ _).alloc (Nat.le_refl _) _).alloc (by simp) _
 replace hb0:=hid hb0
 generalize ((w.alloc (.cells #[.int .i64 6,.bool g,.slice a l c,.int .i64 e,strV s,.slice aa an ac,.slice oa on oc] 28)).alloc (.cells #[.int .i64 6,.bool g',.slice a' l' c',.int .i64 e',strV s',.slice aa' an' ac',.slice oa' on' oc'] 28))=W at *
 have T1:Hid (∀W',(W'.cell? ⟨w.heap.size,6,none⟩=some (.slice oa on oc)∧W'.cell? ⟨w.heap.size+1,6,none⟩=some (.slice oa' on' oc')∧Below w.heap.size w W')→Calls Tryz.prog 99 #[.slice oa on oc] W' (OutSorted W' xs)):=fun W' h=>hS1.out W' h.2.2
 have T2:Hid (∀W',(W'.cell? ⟨w.heap.size,6,none⟩=some (.slice oa on oc)∧W'.cell? ⟨w.heap.size+1,6,none⟩=some (.slice oa' on' oc')∧Below w.heap.size w W')→Calls Tryz.prog 99 #[.slice oa' on' oc'] W' (OutSorted W' ys)):=fun W' h=>hS2.out W' h.2.2
 clear hS1 hS2
 go_cut [8,9] from 10 (fun v8 v9 w'=>SortedBoth w w' v8 v9 xs ys)
 case first =>
  have hbw:=hb0.out.drew
  go_region_held3 (fun W'=>W'.cell? ⟨w.heap.size,6,none⟩=some (.slice oa on oc)∧W'.cell? ⟨w.heap.size+1,6,none⟩=some (.slice oa' on' oc')∧Below w.heap.size w W') (first | (exact⟨k0,k1,hbw⟩) | (exact keepW (by assumption) (Nat.le_refl _) (by assumption)) | assumption) ((first | (go_at_call 99;(with_reducible refine (T1.out _ ?_).mono ?_);assumption;rintro e1 w1 ⟨p,pc,rfl,hp,hbp⟩) | (go_at_call 99;(with_reducible refine (T2.out _ ?_).mono ?_);assumption;rintro e2 w2 ⟨q,qc,rfl,hq,hbq⟩)))
  all_goals
   rename_i hHeld
   have hF:Hid (SortedBoth w _ (.slice p xs.length pc) (.slice q ys.length qc) xs ys):=⟨p,q,pc,qc,rfl,rfl,by first | exact hp.below hbq | exact hp,by first | exact hq.below hbp | exact hq,hHeld.2.2⟩
   clear hHeld hp hq
   go_wp2_with fail
   go_meet
   case rel=>exact hF.out
 case rest =>
  obtain⟨p,q,pc,qc,rfl,rfl,hp,hq,hb⟩:=hcut
  have D1:=hid (hC1.out wc p q pc qc hb hp hq)
  have D2:=hid fun W (h:Below wc.heap.size wc W)=>hC2.out W p q pc qc (qAa hb h) (hp.below h) (hq.below h)
  replace hb:=hid hb
  clear hp hq hC1 hC2 T1 T2 hb0 k0 k1
  generalize xs.length=n1 at *
  generalize ys.length=n2 at *
  by_cases h0:r1=0
  ·subst h0
   obtain rfl:R=r2:=by rw[hR.out,if_neg (by simp)]
   go_wp2_with fail
   refine D1.out.mono ?_
   rintro e1 w1 ⟨rfl,hb1⟩
   have D3:=hid (D2.out w1 hb1)
   have hb2:=hid (qAa hb.out hb1)
   clear hb1 D1 D2
   go_wp2_with fail
   refine D3.out.mono ?_
   rintro e2 w2 ⟨rfl,hb3⟩
   have hb4:=hid (qAa hb2.out hb3)
   clear hb3
   go_wp2_with fail
   go_ret
   exact⟨rfl,hb4.out⟩
  ·obtain rfl:R=r1:=by rw[hR.out,if_pos h0]
   have h1:(R == 0)=false:=by rw[beq_eq_false_iff_ne];exact h0
   have h2:(R != 0)=true:=by rw[bne_iff_ne];exact h0
   clear h0 hR D2
   go_wp2_with fail
   refine D1.out.mono ?_
   rintro e1 w1 ⟨rfl,hb1⟩
   have hb2:=hid (qAa hb.out hb1)
   clear hb1 D1
   go_wp2_with fail
   go_ret
   exact⟨rfl,hb2.out⟩
set_option maxRecDepth 100000 in
theorem order2 (x y:List UInt8)(x1 x2 x3 x4 x5 x6 x7 y1 y2 y3 y4 y5 y6 y7:Value)(R:Int)(w:World)
  (hC:∀W,Below w.heap.size w W→Calls Tryz.prog 62 #[.agg #[x1,x2,x3,x4,x5,x6,x7],.agg #[y1,y2,y3,y4,y5,y6,y7]] W fun e w'=>e=.returned (.int .i64 R)∧Below W.heap.size W w') :
  Calls Tryz.prog 102 #[.agg #[strV x,x1,x2,x3,x4,x5,x6,x7],.agg #[strV y,y1,y2,y3,y4,y5,y6,y7]] w fun e w'=>e=.returned (.int .i64 R)∧Below w.heap.size w w':=by
 unfold strV
 generalize (⟨x.toArray⟩:ByteArray)=xb at *
 generalize (⟨y.toArray⟩:ByteArray)=yb at *
 replace hC:=hid hC
 go_enter Tryz.func102,Tryz.ntmps102
 go_wp2_with fail
 refine (hC.out _ (((Below.refl _ _).alloc (Nat.le_refl _) _).alloc (by simp) _)).mono ?_
 rintro en w1 ⟨rfl,hb1⟩
 have hb:=hid (qAa (((Below.refl w.heap.size w).alloc (Nat.le_refl _) _).alloc (by simp) _) hb1)
 clear hb1
 go_wp2
 go_ret
 exact⟨rfl,hb.out⟩
theorem qBk {cs:List Value}(h:cs.length=7):∃x1 x2 x3 x4 x5 x6 x7,cs=[x1,x2,x3,x4,x5,x6,x7]:=by
 match cs,h with
 | [x1,x2,x3,x4,x5,x6,x7],_=>exact⟨x1,x2,x3,x4,x5,x6,x7,rfl⟩
def OrderC (n:Nat):Prop:=∀(v u:JV) (cs ct:List Value) (w:World),mayJ n v=true→mayJ n u=true→SmallV v→SmallV u→RdV w cs v→RdV w ct u→Tabs w →
 Calls Tryz.prog 62 #[.agg cs.toArray,.agg ct.toArray] w fun e w'=>e=.returned (.int .i64 (orderJ (n+1) v u))∧Below w.heap.size w w'
theorem qE4 (n:Nat)(IH:∀m,n=m+1→OrderC m):OrderC n:=by
 intro v u cs ct w hv hu sv su rv ru hT
 obtain⟨a,c,aa,ac,oa,oc,P⟩:=rv.parts
 obtain⟨a',c',aa',ac',oa',oc',P'⟩:=ru.parts
 have e:=P.cells
 have e':=P'.cells
 subst e e'
 have hR:orderJ (n+1) v u=fibC JV.kind (kindC (orderJ n)) v u:=rfl
 rw[hR]
 unfold fibC
 by_cases hk:v.kind=u.kind
 rotate_left
 ·have:=qKA v.kind u.kind v.g u.g a a' v.ls.length u.ls.length c c' v.e u.e v.s u.s aa aa' v.arr.length u.arr.length ac ac' oa oa' v.obj.length u.obj.length oc oc' w hk
  have e1:cmpI v.kind u.kind=if v.kind<u.kind then -1 else if u.kind<v.kind then 1 else kindC (orderJ n) v.kind v u:=by
   unfold cmpI
   by_cases h1:v.kind<u.kind
   ·rw[if_pos h1,if_pos h1]
   ·rw[if_neg h1,if_neg h1,if_pos (by omega),if_pos (by omega)]
  rw[←e1]
  exact this
 rw[if_neg (by omega),if_neg (by omega)]
 unfold kindC
 by_cases h3:v.kind=3
 ·rw[if_pos h3]
  have t1:=qGp hv h3
  have t2:=qGp hu (hk ▸ h3)
  have C:=fun W (hb:Below w.heap.size w W)=>qNz v.g a c v.e v.ls u.g a' c' u.e u.ls W (P.u.below hb) (P'.u.below hb) (hT.below hb).2
  rw[t1.1,t1.2,t2.1,t2.2] at C
  have C2:∀W,Below w.heap.size w W→Calls Tryz.prog 96 #[.agg #[.bool v.g,.slice a v.ls.length c,.int .i64 v.e],.agg #[.bool u.g,.slice a' u.ls.length c',.int .i64 u.e]] W fun en w'=>en=.returned (.tuple #[.int .i64 (cmpR (dOf v) (dOf u)),.int .i64 0])∧Below W.heap.size W w':=C
  have:=qMA v.g u.g a a' v.ls.length u.ls.length c c' v.e u.e v.s u.s aa aa' v.arr.length u.arr.length ac ac' oa oa' v.obj.length u.obj.length oc oc' w _ C2
  rw[←h3] at this
  rw[show valCs u.kind=valCs v.kind by rw[hk]]
  exact this
 rw[if_neg h3]
 by_cases h4:v.kind=4
 ·rw[if_pos h4]
  have b1:=(qCO.1 (qBd hv)).2.2.1
  have b2:=(qCO.1 (qBd hu)).2.2.1
  unfold strB at b1 b2
  rw[if_pos h4] at b1
  rw[if_pos (hk ▸ h4)] at b2
  have:=qKB v.g u.g a a' v.ls.length u.ls.length c c' v.e u.e v.s u.s aa aa' v.arr.length u.arr.length ac ac' oa oa' v.obj.length u.obj.length oc oc' w (fun W hb=>qOa v.s u.s W P.s P'.s b1 b2 (hT.below hb).1)
  rw[←h4] at this
  rw[show valCs u.kind=valCs v.kind by rw[hk]]
  exact this
 rw[if_neg h4]
 by_cases h5:v.kind=5
 ·rw[if_pos h5]
  obtain⟨m,rfl⟩:∃m,n=m+1:=by
   cases n with
   | zero =>
    simp only[mayJ,Bool.and_eq_true,decide_eq_true_eq] at hv
    omega
   | succ m=>exact⟨m,rfl⟩
  have IHm:=IH m rfl
  obtain⟨⟨⟨_,ha⟩,_⟩,_⟩:=qAB.1 hv
  obtain⟨⟨⟨_,ha'⟩,_⟩,_⟩:=qAB.1 hu
  have:=qMB v.g u.g a a' v.ls.length u.ls.length c c' v.e u.e v.s u.s aa aa' v.arr.length u.arr.length ac ac' oa oa' v.obj.length u.obj.length oc oc' w _ (fun W hb=>qDN 62 (qAz Tryz.func62 (by kernel_rfl) (by kernel_rfl)) (orderJ (m+1)) v.arr u.arr aa aa' ac ac' W (P.arr.below hb) (P'.arr.below hb) (by have:=P.ac;omega) (by have:=P'.ac;omega)
   (fun x y cx cy W' hx hy hb' rx ry=>IHm x y cx cy W' (ha x hx) (ha' y hy) (sv.arr x hx) (su.arr y hy) rx ry (hT.below (qAa hb hb'))))
  rw[←h5] at this
  rw[show valCs u.kind=valCs v.kind by rw[hk]]
  exact this
 rw[if_neg h5]
 by_cases h6:v.kind=6
 rotate_left
 ·rw[if_neg h6]
  have:=qKC v.kind v.g u.g a a' v.ls.length u.ls.length c c' v.e u.e v.s u.s aa aa' v.arr.length u.arr.length ac ac' oa oa' v.obj.length u.obj.length oc oc' w h3 h4 h5 h6
  rw[show valCs u.kind=valCs v.kind by rw[hk]]
  exact this
 rw[if_pos h6]
 obtain⟨m,rfl⟩:∃m,n=m+1:=by
  cases n with
  | zero =>
   simp only[mayJ,Bool.and_eq_true,decide_eq_true_eq] at hv
   omega
  | succ m=>exact⟨m,rfl⟩
 have IHm:=IH m rfl
 obtain⟨⟨⟨_,_⟩,ho⟩,hnd⟩:=qAB.1 hv
 obtain⟨⟨⟨_,_⟩,ho'⟩,hnd'⟩:=qAB.1 hu
 have l1:(sortK v.obj).length=v.obj.length:=(qFg v.obj).length_eq
 have l2:(sortK u.obj).length=u.obj.length:=(qFg u.obj).length_eq
 have hl1:(sortK v.obj).length≤9223372036854775807:=by have:=sv.obj;omega
 have hl2:(sortK u.obj).length≤9223372036854775807:=by have:=su.obj;omega
 have ks1:∀p ∈ v.obj,p.1.length≤1048576:=by cases sv;assumption
 have ks2:∀p ∈ u.obj,p.1.length≤1048576:=by cases su;assumption
 have:=qMC v.g u.g a a' v.ls.length u.ls.length c c' v.e u.e v.s u.s aa aa' v.arr.length u.arr.length ac ac' oa oa' v.obj.length u.obj.length oc oc' w (sortK v.obj) (sortK u.obj)
  (cmpBy (fun p q:Fld=>keyC p.1 q.1) (sortK v.obj) (sortK u.obj)) (cmpBy (fun p q:Fld=>orderJ (m+1) p.2 q.2) (sortK v.obj) (sortK u.obj))
  (fun W hb=>(qDs v.obj oa oc W (P.obj.below hb) (fun p hp=>(ho p hp).1) hnd sv.obj (hT.below hb)).mono fun e w' ⟨p,pc,h1,h2,h3⟩=>⟨p,pc,by rw[l1];exact h1,h2,h3⟩)
  (fun W hb=>(qDs u.obj oa' oc' W (P'.obj.below hb) (fun p hp=>(ho' p hp).1) hnd' su.obj (hT.below hb)).mono fun e w' ⟨p,pc,h1,h2,h3⟩=>⟨p,pc,by rw[l2];exact h1,h2,h3⟩)
  (fun W p q pc qc hb hp hq=>qBZ 101 (qAz Tryz.func101 (by kernel_rfl) (by kernel_rfl)) (fun p q:Fld=>keyC p.1 q.1) (sortK v.obj) (sortK u.obj) p q pc qc W hp hq hl1 hl2
   (fun x y cx cy W' hx hy hb' rx ry=>by
    obtain⟨x1,x2,x3,x4,x5,x6,x7,rfl⟩:=qBk rx.len
    obtain⟨y1,y2,y3,y4,y5,y6,y7,rfl⟩:=qBk ry.len
    have mx:=(qBP v.obj x).1 hx
    have my:=(qBP u.obj y).1 hy
    exact (order1 x.1 y.1 x1 x2 x3 x4 x5 x6 x7 y1 y2 y3 y4 y5 y6 y7 W' (by have:=ks1 x mx;omega) (by have:=ks2 y my;omega) (ho x mx).1 (ho' y my).1 (hT.below (qAa hb hb')).1).mono fun _ _ ⟨h1,h2⟩=>⟨h1,h2.bel⟩))
  (fun W p q pc qc hb hp hq=>qBZ 102 (qAz Tryz.func102 (by kernel_rfl) (by kernel_rfl)) (fun p q:Fld=>orderJ (m+1) p.2 q.2) (sortK v.obj) (sortK u.obj) p q pc qc W hp hq hl1 hl2
   (fun x y cx cy W' hx hy hb' rx ry=>by
    obtain⟨x1,x2,x3,x4,x5,x6,x7,rfl⟩:=qBk rx.len
    obtain⟨y1,y2,y3,y4,y5,y6,y7,rfl⟩:=qBk ry.len
    have mx:=(qBP v.obj x).1 hx
    have my:=(qBP u.obj y).1 hy
    exact order2 x.1 y.1 x1 x2 x3 x4 x5 x6 x7 y1 y2 y3 y4 y5 y6 y7 _ W' (fun W2 hb2=>IHm x.2 y.2 _ _ W2 (ho x mx).2 (ho' y my).2 (sv.flds x mx) (su.flds y my) (rx.stay hb2) (ry.stay hb2) (hT.below (qAa (qAa hb hb') hb2)))))
 rw[←h6] at this
 rw[show valCs u.kind=valCs v.kind by rw[hk]]
 exact this
theorem qBR:∀n,OrderC n
 | 0=>qE4 0 (fun m hm=>by omega)
 | n+1=>qE4 (n+1) (fun m hm=>by obtain rfl:n=m:=by omega
                        exact qBR n)
theorem qAu (w:World)(o o':Obj):Below w.heap.size w ((w.alloc o).alloc o'):=((Below.refl _ _).alloc (Nat.le_refl _) _).alloc (by simp) _
theorem RdV.seven {w:World}{cs:List Value}{v:JV}(h:RdV w cs v):∃kind g a ln c e s aa an ac oa on oc,cs=valCs kind g a ln c e s aa an ac oa on oc:=by
 obtain⟨a,c,aa,ac,oa,oc,P⟩:=h.parts
 exact⟨_,_,_,_,_,_,_,_,_,_,_,_,_,P.cells⟩
set_option maxRecDepth 100000 in
set_option maxHeartbeats 3200000 in
theorem qI1 (k k':Int)(g g':Bool)(a a':Option Addr)(l l' c c':Nat)(e e':Int)(s s':List UInt8)(aa aa':Option Addr)(an an' ac ac':Nat)(oa oa':Option Addr)(on on' oc oc':Nat)(w:World)(m1 m2:Bool)(R:Int)
  (h1:∀W,Below w.heap.size w W→Calls Tryz.prog 20 #[valV k g a l c e s aa an ac oa on oc] W fun en w'=>en=.returned (.bool m1)∧Below W.heap.size W w')
  (h2:∀W,Below w.heap.size w W→Calls Tryz.prog 20 #[valV k' g' a' l' c' e' s' aa' an' ac' oa' on' oc'] W fun en w'=>en=.returned (.bool m2)∧Below W.heap.size W w')
  (h3:m1=true→m2=true→∀W,Below w.heap.size w W→Calls Tryz.prog 62 #[valV k g a l c e s aa an ac oa on oc,valV k' g' a' l' c' e' s' aa' an' ac' oa' on' oc'] W fun en w'=>en=.returned (.int .i64 R)∧Below W.heap.size W w') :
  Calls Tryz.prog 36 #[valV k g a l c e s aa an ac oa on oc,valV k' g' a' l' c' e' s' aa' an' ac' oa' on' oc'] w fun en w'=>en=.returned (.tuple #[.int .i64 (if m1=true∧m2=true then R else 0),.int .i64 (if m1=true∧m2=true then 0 else 1)])∧Below w.heap.size w w':=by
 unfold valV strV at *
 generalize (⟨s.toArray⟩:ByteArray)=sb at *
 generalize (⟨s'.toArray⟩:ByteArray)=sb' at *
 obtain⟨W,hW⟩:∃W,W=(w.alloc (.cells #[.int .i64 k,.bool g,.slice a l c,.int .i64 e,.string sb,.slice aa an ac,.slice oa on oc] 28)).alloc (.cells #[.int .i64 k',.bool g',.slice a' l' c',.int .i64 e',.string sb',.slice aa' an' ac',.slice oa' on' oc'] 28):=⟨_,rfl⟩
 have hB:=hid (show Below w.heap.size w W by rw[hW];exact qAu _ _ _)
 have hX:Hid (BoxV W w.heap.size k g a l c e sb aa an ac oa on oc):=by
  rw[hW]
  exact⟨by simp[go_sem],by simp[go_sem],by simp[go_sem],by simp[go_sem],by simp[go_sem],by simp[go_sem],by simp[go_sem]⟩
 have hY:Hid (BoxV W (w.heap.size+1) k' g' a' l' c' e' sb' aa' an' ac' oa' on' oc'):=by
  rw[hW]
  exact⟨by simp[go_sem],by simp[go_sem],by simp[go_sem],by simp[go_sem],by simp[go_sem],by simp[go_sem],by simp[go_sem]⟩
 replace hW:=hid hW.symm
 replace h1:=hid h1
 replace h2:=hid h2
 replace h3:=hid h3
 cases m1 with
 | false =>
  rw[if_neg (by simp),if_neg (by simp)]
  go_enter Tryz.func36,Tryz.ntmps36
  go_wp2_with fail
  rw[hW.out]
  refine (h1.out _ hB.out).mono ?_
  rintro en w1 ⟨rfl,hb⟩
  have hbb:=hid (qAa hB.out hb)
  clear hb
  go_wp2_with fail
  go_ret2
  exact⟨rfl,hbb.out⟩
 | true =>
  cases m2 with
  | false =>
   rw[if_neg (by simp),if_neg (by simp)]
   go_enter Tryz.func36,Tryz.ntmps36
   go_wp2_with fail
   rw[hW.out]
   refine (h1.out _ hB.out).mono ?_
   rintro en w1 ⟨rfl,hb⟩
   have hbb:=hid (qAa hB.out hb)
   obtain⟨y0,y1,y2,y3,y4,y5,y6⟩:=hY.out.stay hb
   clear hb
   go_wp2_with fail
   refine (h2.out _ hbb.out).mono ?_
   rintro en w2 ⟨rfl,hb⟩
   have hb3:=hid (qAa hbb.out hb)
   clear hb y0 y1 y2 y3 y4 y5 y6
   go_wp2_with fail
   go_ret2
   exact⟨rfl,hb3.out⟩
  | true =>
   rw[if_pos ⟨rfl,rfl⟩,if_pos ⟨rfl,rfl⟩]
   have h4:=hid (h3.out rfl rfl)
   go_enter Tryz.func36,Tryz.ntmps36
   go_wp2_with fail
   rw[hW.out]
   refine (h1.out _ hB.out).mono ?_
   rintro en w1 ⟨rfl,hb⟩
   have hbb:=hid (qAa hB.out hb)
   have hX2:=hid (hX.out.stay hb)
   have hY2:=hid (hY.out.stay hb)
   obtain⟨y0,y1,y2,y3,y4,y5,y6⟩:=hY2.out
   clear hb
   go_wp2_with fail
   refine (h2.out _ hbb.out).mono ?_
   rintro en w2 ⟨rfl,hb⟩
   have hb3:=hid (qAa hbb.out hb)
   clear y0 y1 y2 y3 y4 y5 y6
   obtain⟨x0,x1,x2,x3,x4,x5,x6⟩:=hX2.out.stay hb
   obtain⟨y0,y1,y2,y3,y4,y5,y6⟩:=hY2.out.stay hb
   clear hb
   go_wp2_with fail
   refine (h4.out _ hb3.out).mono ?_
   rintro en w3 ⟨rfl,hb⟩
   have hb4:=hid (qAa hb3.out hb)
   clear hb
   go_wp2_with fail
   go_ret2
   exact⟨rfl,hb4.out⟩
theorem qKD (v u:JV)(cs ct:List Value)(w:World)(sv:SmallV v)(su:SmallV u)(rv:RdV w cs v)(ru:RdV w ct u)(hT:Tabs w) :
  Calls Tryz.prog 36 #[.agg cs.toArray,.agg ct.toArray] w fun en w'=>en=.returned (.tuple #[.int .i64 (cmpVR v u).1,.int .i64 ((cmpVR v u).2:Nat)])∧Below w.heap.size w w':=by
 have hR:(cmpVR v u).1=(if mayJ 200 v=true∧mayJ 200 u=true then orderJ 201 v u else 0)∧(((cmpVR v u).2:Nat):Int)=(if mayJ 200 v=true∧mayJ 200 u=true then 0 else 1):=by
  unfold cmpVR
  split<;>exact⟨rfl,rfl⟩
 rw[hR.1,hR.2]
 have C1:=fun W hb=>qAX v cs W (rv.stay hb) (hT.below hb)
 have C2:=fun W hb=>qAX u ct W (ru.stay hb) (hT.below hb)
 have C3:=fun (h1:mayJ 200 v=true) (h2:mayJ 200 u=true) W hb=>qBR 200 v u cs ct W h1 h2 sv su (rv.stay hb) (ru.stay hb) (hT.below hb)
 obtain⟨k,g,a,ln,c,e,s,aa,an,ac,oa,on,oc,rfl⟩:=rv.seven
 obtain⟨k',g',a',ln',c',e',s',aa',an',ac',oa',on',oc',rfl⟩:=ru.seven
 exact qI1 k k' g g' a a' ln ln' c c' e e' s s' aa aa' an an' ac ac' oa oa' on on' oc oc' w _ _ _ C1 C2 C3
end Go.Proofs.YtcgbmmalfbpjaaaGreatDoor
