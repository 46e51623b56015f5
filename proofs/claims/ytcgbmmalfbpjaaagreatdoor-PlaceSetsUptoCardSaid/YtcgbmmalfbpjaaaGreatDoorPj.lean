/-  -/
import Derived.Test.YtcgbmmalfbpjaaaGreatDoorMt
import Derived.Test.YtcgbmmalfbpjaaaGreatDoorPb
import Derived.Test.YtcgbmmalfbpjaaaGreatDoorPd
import Derived.Test.YtcgbmmalfbpjaaaGreatDoorPa
import Derived.Test.YtcgbmmalfbpjaaaGreatDoorMl
import Derived.Deep.RegionLaw
set_option maxRecDepth 100000
set_option maxHeartbeats 16000000
namespace Go.Proofs.YtcgbmmalfbpjaaaGreatDoor
open Go.RowKit
theorem OutRowX.plain {A:Nat→Prop}{w W:World}{O:Nat}{V:Value}{L:List Fld}(h:OutRowX A w W O V L):OutRow w W O V L:=by
 obtain⟨h1,⟨E,e1,e2,e3⟩,h3,h4⟩:=h
 exact⟨h1,⟨E,e1,fun f hf=>(e2 f hf).rd,e3⟩,h3,h4⟩
theorem JC (A:Nat→Prop)(k:Int)(hk:k=6∨k=0)(g g':Bool)(a a':Option Addr)(l l' c c':Nat)(k' e e':Int)(s s':List UInt8)(aa aa':Option Addr)(an an' ac ac':Nat)(oa oa':Option Addr)(oc on' oc':Nat)(key:List UInt8)(x:JV)(w:World)(obj:List Fld)(hIn:In A w)(hO:RdO (hideW A w) oa obj)(hol:obj.length≤1048576)(hso:∀p ∈ obj,soundB p.1=true)(hks:soundB key=true)(hkl:key.length≤9223372036854775807)
  (rx:RdX A w (valCs k' g' a' l' c' e' s' aa' an' ac' oa' on' oc') x)(m3:Bool)(R:JV)(err:Nat)(hR1:m3=true→R=objV (setO key x obj)∧err=0)(hR2:m3=false→R=.null∧err=6)
  (h1:∀W,Below w.heap.size w W→Calls Tryz.prog 28 #[valV k g a l c e s aa an ac oa obj.length oc] W fun en w'=>en=.returned (.bool true)∧Below W.heap.size W w')
  (h2:∀W,Below w.heap.size w W→Calls Tryz.prog 28 #[valV k' g' a' l' c' e' s' aa' an' ac' oa' on' oc'] W fun en w'=>en=.returned (.bool true)∧Below W.heap.size W w')
  (h3:∀W,Below w.heap.size w W→Calls Tryz.prog 83 #[strV key] W fun en w'=>en=.returned (.bool true)∧Below W.heap.size W w')
  (h4:∀W cs,Below w.heap.size w W→RdV W cs (objV (setO key x obj))→Calls Tryz.prog 28 #[.agg cs.toArray] W fun en w'=>en=.returned (.bool m3)∧Below W.heap.size W w') :
  Calls Tryz.prog 92 #[valV k g a l c e s aa an ac oa obj.length oc,strV key,valV k' g' a' l' c' e' s' aa' an' ac' oa' on' oc'] w (OutX A w R err):=by
 replace hR1:=hid hR1
 replace hR2:=hid hR2
 obtain⟨fx,fx1,fx2,fx3⟩:∃f:FE,f.fld=(key,x)∧RdX A w f.cs f.v∧f.enc=strV key :: valCs k' g' a' l' c' e' s' aa' an' ac' oa' on' oc':=⟨⟨key,x,valCs k' g' a' l' c' e' s' aa' an' ac' oa' on' oc',hks,hkl,rfl,fU (RdX.rd rx)⟩,rfl,rx,rfl⟩
 unfold valCs at fx3
 clear rx
 unfold valV strV at *
 generalize (⟨s.toArray⟩:ByteArray)=sb at *
 generalize (⟨s'.toArray⟩:ByteArray)=sb' at *
 obtain⟨kb,hkb⟩:∃kb:ByteArray,kb=⟨key.toArray⟩:=⟨_,rfl⟩
 rw[←hkb] at h3 fx3 ⊢
 replace fx1:=hid fx1
 replace fx2:=hid fx2
 replace fx3:=hid fx3
 replace hkb:=hid hkb
 generalize hon:obj.length=on at *
 replace hon:=hid hon
 replace hO:=hid hO
 replace hso:=hid hso
 obtain⟨W,hW⟩:∃W,W=((w.alloc (.cells #[.int .i64 k,.bool g,.slice a l c,.int .i64 e,.string sb,.slice aa an ac,.slice oa on oc] 28)).alloc (.cells #[.int .i64 k',.bool g',.slice a' l' c',.int .i64 e',.string sb',.slice aa' an' ac',.slice oa' on' oc'] 28)).alloc (.cells #[.int .i64 0,.bool false,.slice none 0 0,.int .i64 0,.string ⟨#[]⟩,.slice none 0 0,.slice none 0 0] 28):=⟨_,rfl⟩
 have hB:=hid (show Below w.heap.size w W by rw[hW];exact (aQ _ _ _).alloc (by simp;omega) _)
 have hX:Hid (W.heap[w.heap.size]? = some (.cells #[.int .i64 k,.bool g,.slice a l c,.int .i64 e,.string sb,.slice aa an ac,.slice oa on oc] 28)):=by
  rw[hW]
  exact bZ (bZ (ak w _) _) _
 have hY:Hid (W.heap[w.heap.size+1]? = some (.cells #[.int .i64 k',.bool g',.slice a' l' c',.int .i64 e',.string sb',.slice aa' an' ac',.slice oa' on' oc'] 28)):=by
  rw[hW]
  exact bZ (ax w _ _) _
 have hZ:Hid (W.heap[w.heap.size+1+1]? = some (.cells #[.int .i64 0,.bool false,.slice none 0 0,.int .i64 0,.string ⟨#[]⟩,.slice none 0 0,.slice none 0 0] 28)):=by
  rw[hW]
  have:=ak ((w.alloc (.cells #[.int .i64 k,.bool g,.slice a l c,.int .i64 e,.string sb,.slice aa an ac,.slice oa on oc] 28)).alloc (.cells #[.int .i64 k',.bool g',.slice a' l' c',.int .i64 e',.string sb',.slice aa' an' ac',.slice oa' on' oc'] 28)) (.cells #[.int .i64 0,.bool false,.slice none 0 0,.int .i64 0,.string ⟨#[]⟩,.slice none 0 0,.slice none 0 0] 28)
  show _=_
  simpa[Nat.add_assoc] using this
 replace hW:=hid hW.symm
 replace h1:=hid h1
 replace h2:=hid h2
 replace h3:=hid h3
 replace h4:=hid h4
 obtain⟨i0,i1,i2,i3,zv,i4,i5⟩:=iT
 replace i1:=hid i1
 replace i2:=hid i2
 replace i3:=hid i3
 replace i4:=hid i4
 replace i5:=hid i5
 have hkH:=hid hk
 clear hk
 all_goals
  obtain⟨⟨p0,p1,p2,p3,p4,p5,p6⟩,_⟩:=ag hX.out
  go_enter Tryz.func92,Tryz.ntmps92
  go_wp2_with fail
  rw[hW.out]
  refine (h1.out _ hB.out).mono ?_
  rintro en w1 ⟨rfl,hb⟩
  replace hB:=hid (ae hB.out hb)
  replace hX:=hid (af hX.out hb)
  replace hY:=hid (af hY.out hb)
  replace hZ:=hid (af hZ.out hb)
  clear p0 p1 p2 p3 p4 p5 p6 hb hW
  obtain⟨⟨p0,p1,p2,p3,p4,p5,p6⟩,_⟩:=ag hY.out
  go_wp2_with fail
  refine (h2.out _ hB.out).mono ?_
  rintro en w2 ⟨rfl,hb⟩
  replace hB:=hid (ae hB.out hb)
  replace hX:=hid (af hX.out hb)
  replace hY:=hid (af hY.out hb)
  replace hZ:=hid (af hZ.out hb)
  clear p0 p1 p2 p3 p4 p5 p6 hb
  go_wp2_with fail
  refine (h3.out _ hB.out).mono ?_
  rintro en w3 ⟨rfl,hb⟩
  replace hB:=hid (ae hB.out hb)
  replace hX:=hid (af hX.out hb)
  replace hY:=hid (af hY.out hb)
  replace hZ:=hid (af hZ.out hb)
  clear hb
  obtain⟨⟨p0,p1,p2,p3,p4,p5,p6⟩,_⟩:=ag hX.out
  have hOR:Hid (OutRowX A w (w3.alloc (.cells #[.int .i64 6,.bool false,.slice none 0 0,.int .i64 0,.string ⟨#[]⟩,.slice none 0 0,.slice none 0 0] 28)) w3.heap.size (.slice none 0 0) []) :=
   ⟨ak w3 _,⟨[],rfl,(fun f hf=>by cases hf),⟨by simp,.inl ⟨rfl,rfl⟩⟩⟩,hB.out.alloc hB.out.size _,hB.out.size⟩
  have hX3:=hid (bZ hX.out (.cells #[.int .i64 6,.bool false,.slice none 0 0,.int .i64 0,.string ⟨#[]⟩,.slice none 0 0,.slice none 0 0] 28))
  have hY3:=hid (bZ hY.out (.cells #[.int .i64 6,.bool false,.slice none 0 0,.int .i64 0,.string ⟨#[]⟩,.slice none 0 0,.slice none 0 0] 28))
  have hZ3:=hid (bZ hZ.out (.cells #[.int .i64 6,.bool false,.slice none 0 0,.int .i64 0,.string ⟨#[]⟩,.slice none 0 0,.slice none 0 0] 28))
  have hXl:Hid (w.heap.size<w3.heap.size):=aC hX.out
  have hYl:Hid (w.heap.size+1<w3.heap.size):=aC hY.out
  have hZl:Hid (w.heap.size+1+1<w3.heap.size):=aC hZ.out
  go_upto_region 3 with fail
  go_cut [33] from 26 (fun v33 w'=>v33=.bool false∧w'=w3)
  case first =>
   rcases hkH.out with rfl | rfl
   all_goals
    go_wp2_with fail
    go_meet
    case rel=>exact⟨rfl,rfl⟩
  case rest =>
  obtain⟨rfl,hw3⟩:=hcut
  rw[hw3]
  clear hw3
  go_upto_region 8 with fail
  clear p0 p1 p2 p3 p4 p5 p6 h1 h2 h3 hX hY hZ hB
  generalize w3.alloc (.cells #[.int .i64 6,.bool false,.slice none 0 0,.int .i64 0,.string ⟨#[]⟩,.slice none 0 0,.slice none 0 0] 28)=w4 at *
  generalize w3.heap.size=O at *
  obtain⟨Z,hZe⟩:∃Z,Z=w.heap.size+1+1:=⟨_,rfl⟩
  have hwZ:Hid (w.heap.size≤Z):=by rw[hZe];show w.heap.size≤_;omega
  rw[←hZe] at hZ3 hZl ⊢
  clear hZe
  obtain⟨Y,hYe⟩:∃Y,Y=w.heap.size+1:=⟨_,rfl⟩
  rw[←hYe] at hY3 hYl ⊢
  clear hYe
  obtain⟨X,hXe⟩:∃X,X=w.heap.size:=⟨_,rfl⟩
  rw[←hXe] at hX3 hXl ⊢
  clear hXe
  go_loopw [9,10] (fun v9 v10 wr=>∃(j:Nat) (V:Value),j≤on∧Hid (OutRowX A w wr O V (setL key x (obj.take j)))∧v9=.bool (hasO key (obj.take j))∧v10=.int .i64 j∧Hid (wr.heap[Z]? = some (.cells #[.int .i64 0,.bool false,.slice none 0 0,.int .i64 0,.string ⟨#[]⟩,.slice none 0 0,.slice none 0 0] 28))∧Hid (wr.heap[X]? = some (.cells #[.int .i64 k,.bool g,.slice a l c,.int .i64 e,.string sb,.slice aa an ac,.slice oa on oc] 28))∧Hid (wr.heap[Y]? = some (.cells #[.int .i64 k',.bool g',.slice a' l' c',.int .i64 e',.string sb',.slice aa' an' ac',.slice oa' on' oc'] 28))) (fun _ v10 _=>on-(intOf v10).toNat)
  case atStart=>exact⟨0,_,Nat.zero_le _,hid (by simpa[setL] using hOR.out),rfl,rfl,hZ3,hX3,hY3⟩
  case round =>
   obtain⟨j,V,hj,hR,rfl,rfl,hz,hv,hy⟩:=hrel
   clear hOR hZ3 hX3 hY3
   obtain⟨⟨p0,p1,p2,p3,p4,p5,p6⟩,_⟩:=ag hv.out
   have hpl:=au p0
   obtain⟨fd,hfd⟩:∃fd,fd=hasO key (obj.take j):=⟨_,rfl⟩
   rw[←hfd]
   replace hfd:=hid hfd
   by_cases hlt:j<on
   ·have hlt2:(j:Int)<(on:Int):=by omega
    have hj1:j<obj.length:=by rw[hon.out];exact hlt
    obtain⟨b0,off0,a0,c0,aa0,ac0,oa0,oc0,rfl,hkl0,P0,C0⟩:=hO.out.at hj1
    replace C0:=C0.sub (aF A w)
    have hsk:=hso.out _ (List.getElem_mem hj1)
    unfold Cells8f strV at C0
    obtain⟨y,hyy⟩:∃y,y=obj[j]:=⟨_,rfl⟩
    have htk:Hid (obj.take (j+1)=obj.take j ++ [y]):=by show _=_;rw[List.take_succ_eq_append_getElem hj1,hyy]
    rw[←hyy] at C0 P0 hkl0 hsk
    clear hyy
    obtain⟨kx,y⟩:=y
    simp only at C0 P0 hkl0 hsk
    have hbw:=hR.out.bel
    obtain⟨s0,s1,s2,s3,s4,s5,s6,s7⟩:=C0
    replace s0:=ai s0 hbw
    replace s1:=ai s1 hbw
    replace s2:=ai s2 hbw
    replace s3:=ai s3 hbw
    replace s4:=ai s4 hbw
    replace s5:=ai s5 hbw
    replace s6:=ai s6 hbw
    replace s7:=ai s7 hbw
    clear hbw
    obtain⟨f,hf1,hf2,hf3⟩:∃f:FE,f.fld=(kx,y)∧RdX A w f.cs f.v∧f.enc=strV kx :: valCs y.kind y.g a0 y.ls.length c0 y.e y.s aa0 y.arr.length ac0 oa0 y.obj.length oc0 :=
     ⟨⟨kx,y,valCs y.kind y.g a0 y.ls.length c0 y.e y.s aa0 y.arr.length ac0 oa0 y.obj.length oc0,hsk,hkl0,rfl,fU (RdX.rd (A:=A) (w:=w) P0.rd)⟩,rfl,P0.rd,rfl⟩
    clear P0 hsk hkl0
    unfold valCs strV at hf3
    have hq1:=He kx key
    rw[show decide (keyC kx key=0)=decide (kx=key) from decide_eq_decide.2 ⟨zX,fun h=>by rw[h];exact qG _⟩,←hkb.out] at hq1
    obtain⟨kxb,hkx⟩:∃kxb:ByteArray,kxb=⟨kx.toArray⟩:=⟨_,rfl⟩
    rw[←hkx] at s0 hf3 hq1
    replace hkx:=hid hkx
    generalize (⟨y.s.toArray⟩:ByteArray)=ysb at *
    replace hf3:=hid hf3
    replace hf2:=hid hf2
    replace hf1:=hid hf1
    obtain⟨qb,hqb⟩:∃qb,qb=decide (kx=key):=⟨_,rfl⟩
    rw[←hqb] at hq1
    replace hqb:=hid hqb
    obtain⟨U,hU⟩:∃U,U=wr.alloc (.cells #[.string kxb,.int .i64 y.kind,.bool y.g,.slice a0 y.ls.length c0,.int .i64 y.e,.string ysb,.slice aa0 y.arr.length ac0,.slice oa0 y.obj.length oc0] 67):=⟨_,rfl⟩
    have hbU:Below wr.heap.size wr U:=by rw[hU];exact (Below.refl _ _).alloc (Nat.le_refl _) _
    have hFb:Hid (U.heap[wr.heap.size]? = some (.cells #[.string kxb,.int .i64 y.kind,.bool y.g,.slice a0 y.ls.length c0,.int .i64 y.e,.string ysb,.slice aa0 y.arr.length ac0,.slice oa0 y.obj.length oc0] 67)):=by rw[hU];exact ak wr _
    have hRU:=hid (hR.out.stay hbU)
    have hzU:=hid (af hz.out hbU)
    have hvU:=hid (af hv.out hbU)
    have hyU:=hid (af hy.out hbU)
    have hOl:Hid (O<wr.heap.size):=aC hR.out.blk
    have hZl2:Hid (Z<wr.heap.size):=aC hz.out
    have hXl2:Hid (X<wr.heap.size):=aC hv.out
    have hYl2:Hid (Y<wr.heap.size):=aC hy.out
    have hwF:Hid (w.heap.size≤wr.heap.size):=hR.out.bel.size
    replace hU:=hid hU.symm
    clear hbU
    have hFne:Hid (∀g2 cap n,V=.slice (some ⟨g2,0,none⟩) n cap→wr.heap.size≠g2):=by
     intro g2 cap n e
     obtain⟨E,_,_,e3⟩:=hR.out.row
     have:=(e3.lt g2 (by rw[e];rfl)).2
     omega
    obtain⟨fd2,hfd2⟩:∃fd2,fd2=hasO key (obj.take (j+1)):=⟨_,rfl⟩
    replace hfd2:=hid hfd2
    go_upto_if 51 with fail
    rw[hU.out]
    clear hU p0 p1 p2 p3 p4 p5 p6 hpl s0 s1 s2 s3 s4 s5 s6 s7 hz hv hy hR
    generalize wr.heap.size=Fb at *
    go_cut [9] from 36 to 59 (fun v9 w'=>v9=.bool fd2∧∃f:FE,Hid (setL key x (obj.take (j+1))=setL key x (obj.take j) ++ [f.fld])∧Hid (RdX A w f.cs f.v)∧Hid (w'.heap[Fb]? = some (.cells f.enc.toArray 67 (0,0)))∧Hid (OutRowX A w w' O V (setL key x (obj.take j)))∧Hid (w'.heap[Z]? = some (.cells #[.int .i64 0,.bool false,.slice none 0 0,.int .i64 0,.string ⟨#[]⟩,.slice none 0 0,.slice none 0 0] 28))∧Hid (w'.heap[X]? = some (.cells #[.int .i64 k,.bool g,.slice a l c,.int .i64 e,.string sb,.slice aa an ac,.slice (some ⟨b0,off0,none⟩) on oc] 28))∧Hid (w'.heap[Y]? = some (.cells #[.int .i64 k',.bool g',.slice a' l' c',.int .i64 e',.string sb',.slice aa' an' ac',.slice oa' on' oc'] 28)))
    case first =>
     by_cases hkk:kx=key
     ·obtain rfl:qb=true:=by rw[hqb.out];exact decide_eq_true hkk
      have e1:fd2=true:=by rw[hfd2.out,htk.out,JA];simp[hasO,hkk]
      have e2:Hid (setL key x (obj.take (j+1))=setL key x (obj.take j) ++ [fx.fld]):=by
       show _=_
       rw[htk.out,Jz,fx1.out]
       simp[setL,hkk]
      obtain⟨⟨q0,q1,q2,q3,q4,q5,q6,q7⟩,f0,f1,f2,f3,f4,f5,f6,f7⟩:=Jn hFb.out
      obtain⟨⟨p0,p1,p2,p3,p4,p5,p6⟩,_⟩:=ag hyU.out
      have hkk2:kxb=kb:=by rw[hkx.out,hkb.out,hkk]
      subst e1
      clear hkk
      have hN:=hid (KG (y1:=.int .i64 k') (y2:=.bool g') (y3:=.slice a' l' c') (y4:=.int .i64 e') (y5:=.string sb') (y6:=.slice aa' an' ac') (y7:=.slice oa' on' oc') hFb.out)
      rw[hkk2] at hN
      clear hkk2
      have hRn:Hid (OutRowX A w (U.setCells Fb 1 [.int .i64 k',.bool g',.slice a' l' c',.int .i64 e',.string sb',.slice aa' an' ac',.slice oa' on' oc']) O V (setL key x (obj.take j))):=by
       obtain⟨b1,⟨E,e1,e2,e3⟩,b3,b4⟩:=hRU.out
       refine⟨?_,⟨E,e1,e2,IP e3 ?_ _ _⟩,aB Fb hwF.out _ _ _ b3,b4⟩
       ·rw[IB (show O≠Fb by have:=hOl.out;omega)];exact b1
       ·have hb:=hFb.out
        intro hh
        rcases e3.2 with ⟨rfl,_⟩ | ⟨g2,cap,cur,rfl,_,hg,_⟩
        ·cases hh
        ·have hh:some Fb=some g2:=hh
         injection hh with hh
         exact absurd hh (hFne.out g2 cap E.length rfl)
      have hzn:Hid ((U.setCells Fb 1 [.int .i64 k',.bool g',.slice a' l' c',.int .i64 e',.string sb',.slice aa' an' ac',.slice oa' on' oc']).heap[Z]? = some (.cells #[.int .i64 0,.bool false,.slice none 0 0,.int .i64 0,.string ⟨#[]⟩,.slice none 0 0,.slice none 0 0] 28)):=by
       show _=_
       rw[IB (show Z≠Fb by have:=hZl2.out;omega)];exact hzU.out
      have hvn:Hid ((U.setCells Fb 1 [.int .i64 k',.bool g',.slice a' l' c',.int .i64 e',.string sb',.slice aa' an' ac',.slice oa' on' oc']).heap[X]? = some (.cells #[.int .i64 k,.bool g,.slice a l c,.int .i64 e,.string sb,.slice aa an ac,.slice (some ⟨b0,off0,none⟩) on oc] 28)):=by
       show _=_
       rw[IB (show X≠Fb by have:=hXl2.out;omega)];exact hvU.out
      have hyn:Hid ((U.setCells Fb 1 [.int .i64 k',.bool g',.slice a' l' c',.int .i64 e',.string sb',.slice aa' an' ac',.slice oa' on' oc']).heap[Y]? = some (.cells #[.int .i64 k',.bool g',.slice a' l' c',.int .i64 e',.string sb',.slice aa' an' ac',.slice oa' on' oc'] 28)):=by
       show _=_
       rw[IB (show Y≠Fb by have:=hYl2.out;omega)];exact hyU.out
      go_wp2_with fail
      go_meet
      case rel=>exact⟨rfl,fx,e2,fx2,hid (by rw[fx3.out];exact hN.out),hRn,hzn,hvn,hyn⟩
     ·obtain rfl:qb=false:=by rw[hqb.out];exact decide_eq_false hkk
      have e1:fd2=fd:=by rw[hfd2.out,htk.out,JA,←hfd.out];simp[hasO,hkk]
      have e2:Hid (setL key x (obj.take (j+1))=setL key x (obj.take j) ++ [f.fld]):=by
       show _=_
       rw[htk.out,Jz,hf1.out]
       simp[setL,hkk]
      subst e1
      clear hkk
      go_wp2_with fail
      go_meet
      case rel=>exact⟨rfl,f,e2,hf2,hid (by rw[hf3.out];exact hFb.out),hRU,hzU,hvU,hyU⟩
    case rest =>
    obtain⟨rfl,f9,e2,hf9,hF9,hR9,hz9,hv9,hy9⟩:=hcut
    clear hRU hzU hvU hyU hFb hf1 hf2 hf3 hq1 hqb hfd
    obtain⟨y0,y1,y2,y3,y4,y5,y6,henc⟩:∃y0 y1 y2 y3 y4 y5 y6,f9.enc=[strV f9.key,y0,y1,y2,y3,y4,y5,y6]:=by
     obtain⟨y0,y1,y2,y3,y4,y5,y6,hcs⟩:=jQ f9.seven
     exact⟨y0,y1,y2,y3,y4,y5,y6,by unfold FE.enc;rw[hcs]⟩
    unfold strV at henc
    generalize (⟨f9.key.toArray⟩:ByteArray)=kb9 at *
    have HEN:=hid henc
    have hF9':=hF9.out
    rw[henc] at hF9'
    clear henc
    obtain⟨⟨q0,q1,q2,q3,q4,q5,q6,q7⟩,_⟩:=Jn (by exact hF9')
    clear hF9'
    obtain⟨⟨o0,o1,o2,o3,o4,o5,o6⟩,_⟩:=ag hR9.out.blk
    obtain⟨E,E1,E2,E3⟩:=hR9.out.row
    have hEl:E.length≤j:=by
     have h1:E.length=(setL key x (obj.take j)).length:=by rw[←E1];simp
     have h2:(setL key x (obj.take j)).length=(obj.take j).length:=by unfold setL;simp
     have h3:(obj.take j).length≤j:=by simp;omega
     omega
    have HE1:=hid E1
    have HE2:=hid E2
    have hW7:=hid ((Below.refl wc.heap.size wc).alloc (Nat.le_refl _) (.cells #[.string kb9,y0,y1,y2,y3,y4,y5,y6] 67))
    have E4:=hid (gU E3 hW7.out)
    have hnew:Hid (∀(jj:Nat) (u:Value),([.string kb9,y0,y1,y2,y3,y4,y5,y6]:List Value)[jj]? = some u→(wc.alloc (.cells #[.string kb9,y0,y1,y2,y3,y4,y5,y6] 67)).cell? ((⟨wc.heap.size,0,none⟩:Addr).add jj)=some u):=by
     intro jj u hu
     rw[Addr.add_lit]
     have h:=ak wc (.cells #[.string kb9,y0,y1,y2,y3,y4,y5,y6] 67)
     simp only[World.cell?,h,Nat.zero_add]
     simpa using hu
    have hones:Hid (∀u ∈ ([.string kb9,y0,y1,y2,y3,y4,y5,y6]:List Value),u.oneCell'=true):=by
     have:=f9.ones
     rw[HEN.out] at this
     exact this
    have hRR:=hid (hR9.out.stay hW7.out)
    have hz4:=hid (af hz9.out hW7.out)
    have hv4:=hid (af hv9.out hW7.out)
    have hy4:=hid (af hy9.out hW7.out)
    clear E1 E2 E3 hR9 hz9 hv9 hy9
    go_wp2_with (at_builtin;refine wpList_append_own _ rfl _ _ _ rfl w.heap.size _ i0 zv 8 128 Tryz.underlying26 i1.out i4.out i2.out i3.out i5.out (by decide) _ E.length (E.flatMap FE.enc) rfl E4.out ⟨wc.heap.size,0,none⟩ 1 1 [.string kb9,y0,y1,y2,y3,y4,y5,y6] rfl rfl hnew.out hones.out (by unfold maxLen;omega) (by omega) (by have:=hRR.out.bel.size;omega) ?_;intro V2 w7 hown hgr _;obtain⟨g5,cap5,rfl⟩:=qP hown;have hOb:=(hgr.block O (aC hRR.out.blk) (kC E4.out hRR.out.blk (by decide)));have hZb:=hid ((hgr.block Z (aC hz4.out) (kC E4.out hz4.out (by decide))).trans hz4.out);have hXb:=hid ((hgr.block X (aC hv4.out) (kC E4.out hv4.out (by decide))).trans hv4.out);have hYb:=hid ((hgr.block Y (aC hy4.out) (kC E4.out hy4.out (by decide))).trans hy4.out);have hBl:=hRR.out.bel.grown hgr hRR.out.bel.size (fun k hk=>(E4.out.lt k hk).1);have hfin:=hid (OutRowX.more hf9.out hRR.out HE1.out HE2.out (by rw[HEN.out];exact hown) hBl hOb);have hOb2:=hOb.trans hRR.out.blk;obtain⟨⟨t0,t1,t2,t3,t4,t5,t6⟩,u0,u1,u2,u3,u4,u5,u6⟩:=ag hOb2;clear hgr hOb2 hOb hBl hown)
    have hzf:Hid ((w7.setCell ⟨O,6,none⟩ (.slice (some ⟨g5,0,none⟩) (E.length+1) cap5)).heap[Z]? = some (.cells #[.int .i64 0,.bool false,.slice none 0 0,.int .i64 0,.string ⟨#[]⟩,.slice none 0 0,.slice none 0 0] 28)):=by
     show (w7.setCell ⟨O,6,none⟩ (.slice (some ⟨g5,0,none⟩) (E.length+1) cap5)).heap[Z]? = _
     rw[Below.heap_setCell _ _ _ _ (show Z≠O by have:=hZl.out;omega)]
     exact hZb.out
    have hvf:Hid ((w7.setCell ⟨O,6,none⟩ (.slice (some ⟨g5,0,none⟩) (E.length+1) cap5)).heap[X]? = some (.cells #[.int .i64 k,.bool g,.slice a l c,.int .i64 e,.string sb,.slice aa an ac,.slice (some ⟨b0,off0,none⟩) on oc] 28)):=by
     show (w7.setCell ⟨O,6,none⟩ (.slice (some ⟨g5,0,none⟩) (E.length+1) cap5)).heap[X]? = _
     rw[Below.heap_setCell _ _ _ _ (show X≠O by have:=hXl.out;omega)]
     exact hXb.out
    have hyf:Hid ((w7.setCell ⟨O,6,none⟩ (.slice (some ⟨g5,0,none⟩) (E.length+1) cap5)).heap[Y]? = some (.cells #[.int .i64 k',.bool g',.slice a' l' c',.int .i64 e',.string sb',.slice aa' an' ac',.slice oa' on' oc'] 28)):=by
     show (w7.setCell ⟨O,6,none⟩ (.slice (some ⟨g5,0,none⟩) (E.length+1) cap5)).heap[Y]? = _
     rw[Below.heap_setCell _ _ _ _ (show Y≠O by have:=hYl.out;omega)]
     exact hYb.out
    go_roundw
    case rel=>exact⟨j+1,.slice (some ⟨g5,0,none⟩) (E.length+1) cap5,by omega,hid (by rw[e2.out];exact hfin.out),by rw[hfd2.out],by first | rfl | go_num,hzf,hvf,hyf⟩
    case measure=>simp[intOf];omega
   ·obtain rfl:j=on:=by omega
    have hlt2:¬ ((j:Nat):Int)<(j:Int):=by omega
    have htk:obj.take j=obj:=List.take_of_length_le (by rw[hon.out];exact Nat.le_refl _)
    rw[htk] at hfd hR
    clear htk
    have hyY:=hy
    go_upto_if 61 with fail
    clear p0 p1 p2 p3 p4 p5 p6 hpl
    go_cut [] from 60 (fun w'=>∃V,Hid (OutRowX A w w' O V (setO key x obj))∧Hid (w'.heap[Z]? = some (.cells #[.int .i64 0,.bool false,.slice none 0 0,.int .i64 0,.string ⟨#[]⟩,.slice none 0 0,.slice none 0 0] 28)))
    case first =>
     cases fd with
     | true =>
      have hL:Hid (OutRowX A w wr O V (setO key x obj)):=by
       have:=hR.out
       rw[←Jw hfd.out.symm] at this
       exact this
      go_wp2_with fail
      go_meet
      case rel=>exact⟨V,hL,hz⟩
     | false =>
      have hset:Hid (setO key x obj=setL key x obj ++ [fx.fld]):=hid (by rw[fx1.out];exact Jy hfd.out.symm)
      obtain⟨⟨q0,q1,q2,q3,q4,q5,q6⟩,_⟩:=ag hy.out
      obtain⟨⟨o0,o1,o2,o3,o4,o5,o6⟩,_⟩:=ag hR.out.blk
      obtain⟨E,E1,E2,E3⟩:=hR.out.row
      have hEl:E.length≤1048576:=by
       have h1:E.length=(setL key x obj).length:=by rw[←E1];simp
       have h2:(setL key x obj).length=obj.length:=by unfold setL;simp
       have h3:=hon.out
       omega
      have HE1:=hid E1
      have HE2:=hid E2
      have hW7:=hid ((Below.refl wr.heap.size wr).alloc (Nat.le_refl _) (.cells #[.string kb,.int .i64 k',.bool g',.slice a' l' c',.int .i64 e',.string sb',.slice aa' an' ac',.slice oa' on' oc'] 67))
      have E4:=hid (gU E3 hW7.out)
      have hnew:Hid (∀(jj:Nat) (u:Value),([.string kb,.int .i64 k',.bool g',.slice a' l' c',.int .i64 e',.string sb',.slice aa' an' ac',.slice oa' on' oc']:List Value)[jj]? = some u→(wr.alloc (.cells #[.string kb,.int .i64 k',.bool g',.slice a' l' c',.int .i64 e',.string sb',.slice aa' an' ac',.slice oa' on' oc'] 67)).cell? ((⟨wr.heap.size,0,none⟩:Addr).add jj)=some u):=by
       intro jj u hu
       rw[Addr.add_lit]
       have h:=ak wr (.cells #[.string kb,.int .i64 k',.bool g',.slice a' l' c',.int .i64 e',.string sb',.slice aa' an' ac',.slice oa' on' oc'] 67)
       simp only[World.cell?,h,Nat.zero_add]
       simpa using hu
      have hones:Hid (∀u ∈ ([.string kb,.int .i64 k',.bool g',.slice a' l' c',.int .i64 e',.string sb',.slice aa' an' ac',.slice oa' on' oc']:List Value),u.oneCell'=true):=by
       have:=fx.ones
       rw[fx3.out] at this
       exact this
      have hRR:=hid (hR.out.stay hW7.out)
      have hz4:=hid (af hz.out hW7.out)
      clear E1 E2 E3 hR hz
      go_wp2_with (at_builtin;refine wpList_append_own _ rfl _ _ _ rfl w.heap.size _ i0 zv 8 128 Tryz.underlying26 i1.out i4.out i2.out i3.out i5.out (by decide) _ E.length (E.flatMap FE.enc) rfl E4.out ⟨wr.heap.size,0,none⟩ 1 1 [.string kb,.int .i64 k',.bool g',.slice a' l' c',.int .i64 e',.string sb',.slice aa' an' ac',.slice oa' on' oc'] rfl rfl hnew.out hones.out (by unfold maxLen;omega) (by omega) (by have:=hRR.out.bel.size;omega) ?_;intro V2 w7 hown hgr _;obtain⟨g5,cap5,rfl⟩:=qP hown;have hOb:=(hgr.block O (aC hRR.out.blk) (kC E4.out hRR.out.blk (by decide)));have hZb:=hid ((hgr.block Z (aC hz4.out) (kC E4.out hz4.out (by decide))).trans hz4.out);have hBl:=hRR.out.bel.grown hgr hRR.out.bel.size (fun k hk=>(E4.out.lt k hk).1);have hfin:=hid (OutRowX.more fx2.out hRR.out HE1.out HE2.out (by rw[fx3.out];exact hown) hBl hOb);have hOb2:=hOb.trans hRR.out.blk;obtain⟨⟨t0,t1,t2,t3,t4,t5,t6⟩,u0,u1,u2,u3,u4,u5,u6⟩:=ag hOb2;clear hgr hOb2 hOb hBl hown)
      have hzf:Hid ((w7.setCell ⟨O,6,none⟩ (.slice (some ⟨g5,0,none⟩) (E.length+1) cap5)).heap[Z]? = some (.cells #[.int .i64 0,.bool false,.slice none 0 0,.int .i64 0,.string ⟨#[]⟩,.slice none 0 0,.slice none 0 0] 28)):=by
       show (w7.setCell ⟨O,6,none⟩ (.slice (some ⟨g5,0,none⟩) (E.length+1) cap5)).heap[Z]? = _
       rw[Below.heap_setCell _ _ _ _ (show Z≠O by have:=hZl.out;omega)]
       exact hZb.out
      go_meet
      case rel=>exact⟨_,hid (by rw[hset.out];exact hfin.out),hzf⟩
    case rest =>
    obtain⟨V9,hR9,hz9⟩:=hcut
    clear hR hz hv hy hyY
    have hsl:(setO key x obj).length≤1048577:=by
     have h3:=hon.out
     cases hh:hasO key obj with
     | true=>rw[Jw hh];unfold setL;simp;omega
     | false=>rw[Jy hh];unfold setL;simp;omega
    obtain⟨oa9,oc9,rfl,rd9⟩:=hR9.out.plain.rd (by omega)
    have C4:=hid (h4.out wc _ hR9.out.bel rd9)
    obtain⟨⟨o0,o1,o2,o3,o4,o5,o6⟩,_⟩:=ag hR9.out.blk
    clear rd9 h4
    go_wp2_with fail
    refine C4.out.mono ?_
    rintro en w9 ⟨rfl,hb⟩
    replace hR9:=hid (hR9.out.stay hb)
    replace hz9:=hid (af hz9.out hb)
    clear hb C4 o0 o1 o2 o3 o4 o5 o6
    obtain⟨⟨o0,o1,o2,o3,o4,o5,o6⟩,_⟩:=ag hR9.out.blk
    obtain⟨⟨r0,r1,r2,r3,r4,r5,r6⟩,s0,s1,s2,s3,s4,s5,s6⟩:=ag hz9.out
    cases m3 with
    | true =>
     obtain⟨oa7,oc7,hV7,hO7⟩:=hR9.out.final hIn hz9.out hwZ.out (by omega)
     injection hV7 with v1 v2 v3
     subst v1 v3
     have hFin:=hid hO7
     clear hO7 v2
     go_wp2_with fail
     refine bodyPost_ret (v:=.tuple #[.agg #[.int .i64 6,.bool false,.slice none 0 0,.int .i64 0,.string ⟨#[]⟩,.slice none 0 0,.slice oa9 (setO key x obj).length oc9],.int .i64 0]) (by simp[results,Tryz.results92,go_sem,r0,r1,r2,r3,r4,r5,r6]) rfl ?_
     obtain⟨hr,he⟩:=hR1.out (by first | rfl | trivial)
     rw[hr,he]
     exact hFin.out
    | false =>
     have hOut:=hid (aK (A:=A) (err:=6) (zs:=[.int .i64 0,.bool false,.slice none 0 0,.int .i64 0,.string ⟨#[]⟩,.slice none 0 0,.slice none 0 0]) hR9.out.bel hwZ.out)
     go_wp2_with fail
     refine bodyPost_ret (v:=.tuple #[.agg #[.int .i64 0,.bool false,.slice none 0 0,.int .i64 0,.string ⟨#[]⟩,.slice none 0 0,.slice none 0 0],.int .i64 6]) (by simp[results,Tryz.results92,go_sem,r0,r1,r2,r3,r4,r5,r6]) rfl ?_
     obtain⟨hr,he⟩:=hR2.out (by first | rfl | trivial)
     rw[hr,he]
     exact hOut.out
theorem Jv (A:Nat→Prop)(v x:JV)(cs cx:List Value)(key:List UInt8)(w:World)(hkl:key.length≤9223372036854775807)(sv:v.obj.length≤1048576)(hIn:In A w)(rvX:RdX A w cs v)(rxX:RdX A w cx x) :
  Calls Tryz.prog 92 #[.agg cs.toArray,strV key,.agg cx.toArray] w (OutX A w (withR v key x).1 (withR v key x).2):=by
 have rv:=rvX.rd
 have rx:=rxX.rd
 have C1:=fun W (hb:Below w.heap.size w W)=>qw v cs W (rv.stay hb)
 have C2:=fun W (hb:Below w.heap.size w W)=>qw x cx W (rx.stay hb)
 have C3:=fun W (_:Below w.heap.size w W)=>lD key W hkl
 have rx0:=rxX
 obtain⟨a,c,aa,ac,oa,oc,P⟩:=rvX.parts
 have e:=P.cells
 subst e
 obtain⟨k',g',a',ln',c',e',s',aa',an',ac',oa',on',oc',rfl⟩:=rx.seven
 have early:=fun err hx=>(JB v.kind v.g g' a a' v.ls.length ln' c c' k' v.e e' v.s s' aa aa' v.arr.length an' ac ac' oa oa' v.obj.length on' oc oc' key w (mayJ 200 v) (mayJ 200 x) (soundB key) err C1 C2 C3 hx).mono fun _ _ h=>eH (A:=A) h
 unfold withR
 by_cases hm:mayJ 200 v=true∧mayJ 200 x=true∧soundB key=true
 rotate_left
 ·rw[if_pos hm]
  refine early 1 ?_
  by_cases h1:mayJ 200 v=true
  ·by_cases h2:mayJ 200 x=true
   ·exact Or.inr (Or.inr (Or.inl ⟨h1,h2,by rw[Bool.eq_false_iff];exact fun h3=>hm ⟨h1,h2,h3⟩,rfl⟩))
   ·exact Or.inr (Or.inl ⟨h1,by rw[Bool.eq_false_iff];exact h2,rfl⟩)
  ·exact Or.inl ⟨by rw[Bool.eq_false_iff];exact h1,rfl⟩
 rw[if_neg (fun h=>h hm)]
 by_cases hk:v.kind≠6∧v.kind≠0
 ·rw[if_pos hk]
  exact early 9 (Or.inr (Or.inr (Or.inr ⟨hm.1,hm.2.1,hm.2.2,hk.1,hk.2,rfl⟩)))
 rw[if_neg hk]
 have hk2:v.kind=6∨v.kind=0:=by omega
 simp only[hm.1] at C1
 simp only[hm.2.1] at C2
 simp only[hm.2.2] at C3
 obtain⟨⟨⟨_,_⟩,ho⟩,hnd⟩:=bz.1 hm.1
 have loop:=fun R err h1 h2=>JC A v.kind hk2 v.g g' a a' v.ls.length ln' c c' k' v.e e' v.s s' aa aa' v.arr.length an' ac ac' oa oa' oc on' oc' key x w v.obj hIn P.obj sv (fun p hp=>(ho p hp).1) hm.2.2 hkl rx0 (!decide (depthJ 200 x=200)) R err h1 h2 C1 C2 C3
  (fun W cs hb hr=>by rw[←Kr hm.1 hm.2.1 hm.2.2];exact qw _ cs W hr)
 by_cases hd:depthJ 200 x=200
 ·rw[if_pos hd]
  exact loop _ _ (fun h=>by simp[hd] at h) (fun _=>⟨rfl,rfl⟩)
 ·rw[if_neg hd]
  exact loop _ _ (fun _=>⟨rfl,rfl⟩) (fun h=>by simp[hd] at h)
theorem IJ {P:Program}{w:World}{ops:Array Oper}{o:Oper}{a:Act}{K:Act→World→Prop}{Q:Exit→Act→World→Prop}{E:Prop}(hgd:o.guard=none)(s x:Operand)(t:TypeId)
  (ho:o.op=.call { callee:=.builtin .append,args:=#[s,x],argTypes:=#[t,t] })
  (base:Nat)(e:TypeId)(i:TypeInfo)(z:Value)(size bytes:Nat)(ht:P.underlying t=some (.slice e))(hi:P.info? e=some i)(hz:i.zero=some z)
  (hsize:i.size=size)(hby:i.bytes=bytes)(hzs:z.cells.size=size)(hsz:0<size)
  (v:Value)(n:Nat)(xs:List Value)(hs:a.eval s=v)(hown:w.ownsRow base e size v n xs)
  (ao:Option Addr)(m c:Nat)(ys:List Value)(hx:a.eval x=.slice ao m c)(hl:ys.length=m * size)(hnews:∀(j:Nat) u,ys[j]? = some u→∃ad,ao=some ad∧w.cell? (ad.add j)=some u)(h1:∀u ∈ ys,u.oneCell'=true)
  (h63:n+m≤maxLen)(hbytes:(n+m) * bytes≤140737488355328)(hbase:base≤w.heap.size)
  (h:∀v' w',w'.ownsRow base e size v' (n+m) (xs ++ ys)→Below base w w'→K (a.put o.dst v') w') :
  if Region.wanted o (yielded ops a.tmps)=true then Oper.wp P o a w K Q else E:=by
 have hw:Region.wanted o (yielded ops a.tmps)=true:=by simp[Region.wanted,hgd]
 rw[if_pos hw]
 cases ao with
 | some ad =>
  refine wp_append_own w s x t ho base e i z size bytes ht hi hz hsize hby hzs hsz v n xs hs hown ad m c ys hx hl (fun j u hj=>?_) h1 h63 hbytes hbase (fun v' w' hown' hgr _=>h v' w' hown' ((Below.refl base w).grown hgr hbase (fun k hk=>(hown.lt k hk).1)))
  obtain⟨ad',e1,hc⟩:=hnews j u hj
  injection e1 with e1
  subst e1
  exact hc
 | none =>
  have hys:ys=[]:=by
   cases ys with
   | nil=>rfl
   | cons y ys=>obtain⟨ad,e1,_⟩:=hnews 0 y rfl;cases e1
  subst hys
  obtain rfl:m=0:=by
   have:m * size=0:=by simpa using hl.symm
   rcases Nat.mul_eq_zero.1 this with h | h
   ·exact h
   ·omega
  have hK:=h v w (by simpa using hown) (Below.refl _ _)
  obtain⟨sa,sn,sc,rfl,hsc⟩:∃sa sn sc,v=.slice sa sn sc∧sn≤sc:=by
   obtain⟨_,hh | ⟨g,cap,cur,hv,_,_,hnc,_⟩⟩:=hown
   ·exact⟨none,0,0,hh.1,Nat.le_refl _⟩
   ·exact⟨_,n,cap,hv,hnc⟩
  have hrun:(Builtin.append_ #[t,t] o.type #[.slice sa sn sc,.slice none 0 c]).run P w=.ok (.slice sa sn sc) w:=by
   cases sa<;>simp[Builtin.append_,run_underlying ht,Builtin.lenOf,Builtin.firstCells,sizeOf,typeInfo,hi,storeCells,hsc]
  unfold Oper.wp
  simp[execOp,ho,resolve,invoke,builtin,hs,hx,hrun,Result.andThen]
  exact hK
theorem IE {w:World}{base:Nat}{e:TypeId}{size:Nat}{v:Value}{n:Nat}{xs:List Value}(h:w.ownsRow base e size v n xs):∃a m c,v=.slice a m c:=by
 rcases h.2 with h | ⟨g,cap,cur,h,_⟩
 ·exact⟨_,_,_,h.1⟩
 ·exact⟨_,_,_,h⟩
structure OutArr (A:Nat→Prop) (w W:World) (V:Value) (L:List JV):Prop where
 blk:W.heap[w.heap.size]? = some (.cells #[.int .i64 5,.bool false,.slice none 0 0,.int .i64 0,.string ⟨#[]⟩,V,.slice none 0 0] 28 (0,0))
 row:∃E:List (ZE (hideW A w)),E.map ZE.v=L∧W.ownsRow (w.heap.size+1) 28 7 V E.length (E.flatMap ZE.cs)
 bel:Below w.heap.size w W
theorem OutArr.start (A:Nat→Prop)(w:World):OutArr A w (w.alloc (.cells #[.int .i64 5,.bool false,.slice none 0 0,.int .i64 0,.string ⟨#[]⟩,.slice none 0 0,.slice none 0 0] 28)) (.slice none 0 0) [] :=
 ⟨ak w _,⟨[],rfl,World.ownsRow_nil _ _ _ _⟩,(Below.refl _ _).alloc (Nat.le_refl _) _⟩
theorem OutArr.stay {A:Nat→Prop}{w W W':World}{V:Value}{L:List JV}(h:OutArr A w W V L)(hb:Below W.heap.size W W'):OutArr A w W' V L:=by
 obtain⟨h1,⟨E,e1,e2⟩,h3⟩:=h
 exact⟨af h1 hb,⟨E,e1,aP e2 hb⟩,ae h3 hb⟩
theorem OutArr.size {A:Nat→Prop}{w W:World}{V:Value}{L:List JV}(h:OutArr A w W V L):w.heap.size+1≤W.heap.size:=aC h.blk
theorem JM {w:World}{N:Nat}{x0 x1 x2 x3 x4 x5 x6:Value}{T:TypeId}(h:w.heap[N]? = some (.cells #[x0,x1,x2,x3,x4,x5,x6] T (0,0)))(u:Value):(w.setCell ⟨N,5,none⟩ u).heap[N]? = some (.cells #[x0,x1,x2,x3,x4,u,x6] T (0,0)):=by
 simp[World.setCell,Array.getElem?_modify,h]
theorem OutArr.more {A:Nat→Prop}{w W W2:World}{V V':Value}{L:List JV}{E G:List (ZE (hideW A w))}(h:OutArr A w W V L)(e1:E.map ZE.v=L)(ho:W2.ownsRow (w.heap.size+1) 28 7 V' (E.length+G.length) (E.flatMap ZE.cs ++ G.flatMap ZE.cs))(hb:Below (w.heap.size+1) W W2) :
  OutArr A w (W2.setCell ⟨w.heap.size,5,none⟩ V') V' (L ++ G.map ZE.v):=by
 have hblk:=(hb.block w.heap.size (by omega)).trans h.blk
 refine⟨JM hblk V',⟨E ++ G,by rw[List.map_append,e1],?_⟩,?_⟩
 ·have:=IP ho (N:=w.heap.size) (fun e=>by have:=(ho.lt _ e.symm).1;omega) 5 [V']
  rw[List.flatMap_append,List.length_append]
  exact this
 ·exact (h.bel.trans (hb.mono (by omega))).setCell (Nat.le_refl _) _
theorem OutArr.more1 {A:Nat→Prop}{w W W2:World}{V V':Value}{L:List JV}{E:List (ZE (hideW A w))}{e:ZE (hideW A w)}(h:OutArr A w W V L)(e1:E.map ZE.v=L)(ho:W2.ownsRow (w.heap.size+1) 28 7 V' (E.length+1) (E.flatMap ZE.cs ++ e.cs))(hb:Below (w.heap.size+1) W W2) :
  OutArr A w (W2.setCell ⟨w.heap.size,5,none⟩ V') V' (L ++ [e.v]) :=
 OutArr.more (G:=[e]) h e1 (by simpa using ho) hb
theorem OutArr.box {A:Nat→Prop}{w W W1 W2:World}{V:Value}{L:List JV}(h:OutArr A w W V L)(h1:Below W.heap.size W W1)(hb:Below (w.heap.size+1) W1 W2):W2.heap[w.heap.size]? = some (.cells #[.int .i64 5,.bool false,.slice none 0 0,.int .i64 0,.string ⟨#[]⟩,V,.slice none 0 0] 28 (0,0)) :=
 (hb.block w.heap.size (by omega)).trans (h.stay h1).blk
theorem OutArr.final {A:Nat→Prop}{w W:World}{V:Value}{L:List JV}(hIn:In A w)(h:OutArr A w W V L):∃q c,V=.slice q L.length c∧RdA (hideW A W) q L∧L.length≤c∧c≤9223372036854775807:=by
 obtain⟨_,⟨E,rfl,e2⟩,h3⟩:=h
 obtain⟨a,n,c,rfl⟩:=IE e2
 obtain⟨h1,h2,h4,h5⟩:=qZ (A:=A) (fun k hk=>Nat.lt_succ_of_lt (hIn k hk)) (aH (fun _ _ h=>h) h3) e2
 subst h2
 rw[List.length_map]
 exact⟨a,c,rfl,h1,h4,h5⟩
theorem RdA.app {A:Nat→Prop}{w W:World}{a:Option Addr}{l:List JV}(r:RdA (hideW A w) a l)(hb:Below w.heap.size w W):∃G:List (ZE (hideW A w)),G.map ZE.v=l∧G.length=l.length∧∀(j:Nat) (u:Value),(G.flatMap ZE.cs)[j]? = some u→∃ad,a=some ad∧W.cell? (ad.add j)=some u:=by
 obtain⟨G,g1,g2⟩:=r.zes
 exact⟨G,g1,by rw[←g1,List.length_map],tV fun i e he=>(g2 i e he).sub fun p u hu=>SubW.below hb _ _ (aF A w _ _ hu)⟩
theorem JF (w:World)(k:Nat)(x0 x1 x2 x3 x4 x5 x6:Value)(T:TypeId)(hk:w.heap.size=k):∀(j:Nat) (u:Value),([x0,x1,x2,x3,x4,x5,x6]:List Value)[j]? = some u→∃ad,some (⟨k,0,none⟩:Addr)=some ad∧(w.alloc (.cells #[x0,x1,x2,x3,x4,x5,x6] T)).cell? (ad.add j)=some u:=by
 intro j u hu
 subst hk
 refine⟨_,rfl,?_⟩
 rw[Addr.add_lit]
 have h:=ak w (.cells #[x0,x1,x2,x3,x4,x5,x6] T)
 simp only[World.cell?,h,Nat.zero_add]
 simpa using hu
theorem II (kind:Int)(g:Bool)(a:Option Addr)(ln:Nat)(c:Nat)(e:Int)(s:List UInt8)(aa:Option Addr)(an ac:Nat)(oa:Option Addr)(on oc:Nat)(n:Nat)(w:World)(h:¬ (kind=5∨kind=6)) :
  Calls Tryz.prog 93 #[valV kind g a ln c e s aa an ac oa on oc,.int .i64 n] w fun en w'=>en=.returned (.int .i64 0)∧Below w.heap.size w w':=by
 have h5:(kind != 5)=true:=by rw[bne_iff_ne];omega
 have h6:(kind != 6)=true:=by rw[bne_iff_ne];omega
 clear h
 unfold valV
 go_enter Tryz.func93,Tryz.ntmps93
 go_wp2_with fail
 go_ret
 exact⟨rfl,(Below.refl _ _).alloc (Nat.le_refl _) _⟩
theorem IW (kind:Int)(g:Bool)(a:Option Addr)(ln:Nat)(c:Nat)(e:Int)(s:List UInt8)(aa:Option Addr)(an ac:Nat)(oa:Option Addr)(on oc:Nat)(w:World)(h:kind=5∨kind=6) :
  Calls Tryz.prog 93 #[valV kind g a ln c e s aa an ac oa on oc,.int .i64 0] w fun en w'=>en=.returned (.int .i64 1)∧Below w.heap.size w w':=by
 unfold valV
 rcases h with rfl | rfl
 all_goals
  go_enter Tryz.func93,Tryz.ntmps93
  go_wp2_with fail
  go_ret
  exact⟨rfl,(Below.refl _ _).alloc (Nat.le_refl _) _⟩
def DepthCR (n:Nat):Prop:=∀(v:JV) (cs:List Value) (w:World),RdV w cs v→Calls Tryz.prog 93 #[.agg cs.toArray,.int .i64 n] w fun en w'=>en=.returned (.int .i64 (depthJ n v:Nat))∧Below w.heap.size w w'
theorem IX (n N:Nat)(hN:N=n+1)(hn:n<200)(IH:DepthCR n)(v:JV)(a:Option Addr)(c:Nat)(aa:Option Addr)(ac:Nat)(oa:Option Addr)(oc:Nat)(w:World)(h:v.kind=5∨v.kind=6)
  (P:PartsV w (valCs v.kind v.g a v.ls.length c v.e v.s aa v.arr.length ac oa v.obj.length oc) v a c aa ac oa oc) :
  Calls Tryz.prog 93 #[valV v.kind v.g a v.ls.length c v.e v.s aa v.arr.length ac oa v.obj.length oc,.int .i64 (N:Int)] w fun en w'=>en=.returned (.int .i64 (depthJ N v:Nat))∧Below w.heap.size w w':=by
 have HD:=hid (DT (n:=n) h)
 have hNZ:((N:Int) == 0)=false:=by rw[beq_eq_false_iff_ne];omega
 have hA:=hid P.arr
 have hO:=hid P.obj
 have hal:v.arr.length≤9223372036854775807:=by have:=P.ac;omega
 have hol:v.obj.length≤9223372036854775807:=by have:=P.oc;omega
 replace IH:=hid IH
 clear P
 obtain⟨R,hR⟩:∃R,R=depthJ N v:=⟨_,rfl⟩
 rw[←hR]
 replace hR:=hid hR
 obtain⟨kind,g,ls,e,s,arr,obj⟩:=v
 simp only[JV.kind,JV.g,JV.ls,JV.e,JV.s,JV.arr,JV.obj] at *
 have hkk:∃kk:Int,kk=kind:=⟨_,rfl⟩
 unfold valV
 generalize ls.length=ln
 generalize hal':arr.length=an at *
 generalize hol':obj.length=on at *
 have HAL:=hid hal'
 have HOL:=hid hol'
 clear hal' hol' hkk
 have hw1:IntKind.i64.wrap ((N:Int)-1)=(n:Int):=by rw[IntWalk.i64_in _ (by omega)];omega
 have HN:=hid hN
 have hN1:(N:Int)≤200:=by omega
 have hN0:0<(N:Int):=by omega
 clear hN
 rcases h with rfl | rfl
 all_goals
  go_enter Tryz.func93,Tryz.ntmps93
  go_wp2_with fail
  go_loopw [5,6,7] (fun v5 v23 _ wr=>∃k m:Nat,k≤an∧m≤201∧Hid (m=mostN ((arr.take k).map (depthJ n)) 0)∧v5=.int .i64 m∧v23=.int .i64 k∧Below w.heap.size w wr∧wr.cell? ⟨w.heap.size,5,none⟩=some (.slice aa an ac)∧wr.cell? ⟨w.heap.size,6,none⟩=some (.slice oa on oc)) (fun _ v23 _ _=>an-(intOf v23).toNat)
  case atStart=>exact⟨0,0,Nat.zero_le _,Nat.zero_le _,hid (by simp[mostN]),rfl,rfl,(Below.refl _ _).alloc (Nat.le_refl _) _,by simp[go_sem],by simp[go_sem]⟩
  case round =>
   obtain⟨k,m,hk,hm,hM,rfl,rfl,hb,hbox5,hbox⟩:=hrel
   have hlx:=au hbox5
   by_cases hlt:k<an
   ·have hlt2:(k:Int)<(an:Int):=by omega
    have hk1:k<arr.length:=by rw[HAL.out];exact hlt
    obtain⟨b,off,a1,c1,aa1,ac1,oa1,oc1,rfl,P1,C1⟩:=(hA.out.below hb).at hk1
    have rd:=hid P1.rd
    clear P1
    unfold Cells7 strV at C1
    have hx:∃x,x=arr[k]:=⟨_,rfl⟩
    obtain⟨x,hx⟩:=hx
    rw[←hx] at C1 rd
    obtain⟨C10,C11,C12,C13,C14,C15,C16⟩:=C1
    have HX:=hid hx
    clear hx
    have hd:=gp n x
    have C:=IH.out x _ _ rd.out
    have hxe:∃dx,dx=depthJ n x:=⟨_,rfl⟩
    obtain⟨dx,hdx⟩:=hxe
    rw[←hdx] at C hd
    replace C:=hid C
    have HDX:=hid hdx
    clear hdx rd
    go_wp2_with fail
    refine C.out.mono ?_
    rintro en w1 ⟨rfl,hb1⟩
    by_cases hgt:m<dx
    ·have hgt2:(m:Int)<(dx:Int):=by omega
     have hmx:max m dx=dx:=by omega
     go_wp2_with fail
     go_roundw
     case rel =>
      exact⟨k+1,max m dx,by omega,by omega,hid (by rw[List.take_succ_eq_append_getElem hk1,List.map_append,List.map_cons,List.map_nil,ny,←hM.out,←HX.out,←HDX.out]),by first | rfl | (rw[hmx]) | (simp;omega),by first | rfl | go_num,ae hb hb1,ai hbox5 hb1,ai hbox hb1⟩
     case measure=>simp[intOf];omega
    ·have hgt2:¬ (m:Int)<(dx:Int):=by omega
     have hmx:max m dx=m:=by omega
     go_wp2_with fail
     go_roundw
     case rel =>
      exact⟨k+1,max m dx,by omega,by omega,hid (by rw[List.take_succ_eq_append_getElem hk1,List.map_append,List.map_cons,List.map_nil,ny,←hM.out,←HX.out,←HDX.out]),by first | rfl | (rw[hmx]) | (simp;omega),by first | rfl | go_num,ae hb hb1,ai hbox5 hb1,ai hbox hb1⟩
     case measure=>simp[intOf];omega
   ·obtain rfl:k=an:=by omega
    have hlt2:¬ ((k:Nat):Int)<(k:Int):=by omega
    rw[List.take_of_length_le (by rw[HAL.out];exact Nat.le_refl _)] at hM
    go_wp2
    go_loopw [5,8,9] (fun v5 v37 _ wr=>∃j m2:Nat,j≤on∧m2≤201∧Hid (m2=mostN ((obj.take j).map fun x=>depthJ n x.2) m)∧v5=.int .i64 m2∧v37=.int .i64 j∧Below w.heap.size w wr∧wr.cell? ⟨w.heap.size,6,none⟩=some (.slice oa on oc)) (fun _ v37 _ _=>on-(intOf v37).toNat)
    case atStart=>exact⟨0,m,Nat.zero_le _,hm,hid (by simp[mostN]),rfl,rfl,hb,hbox⟩
    case round =>
     obtain⟨j,m2,hj,hm2,hM2,rfl,rfl,hb2,hbox2⟩:=hrel
     have hlx2:=au hbox2
     clear hb hbox hbox5
     by_cases hlt3:j<on
     ·have hlt4:(j:Int)<(on:Int):=by omega
      have hj1:j<obj.length:=by rw[HOL.out];exact hlt3
      obtain⟨b,off,a1,c1,aa1,ac1,oa1,oc1,rfl,_,P1,C1⟩:=(hO.out.below hb2).at hj1
      have rd:=hid P1.rd
      clear P1
      unfold Cells8f strV at C1
      have hx:∃x,x=obj[j]:=⟨_,rfl⟩
      obtain⟨x,hx⟩:=hx
      rw[←hx] at C1 rd
      have HX:=hid hx
      clear hx
      obtain⟨key,x⟩:=x
      simp only at C1
      obtain⟨C10,C11,C12,C13,C14,C15,C16,C17⟩:=C1
      have hd:=gp n x
      have C:=IH.out x _ _ rd.out
      have hxe:∃dx,dx=depthJ n x:=⟨_,rfl⟩
      obtain⟨dx,hdx⟩:=hxe
      rw[←hdx] at C hd
      replace C:=hid C
      have HDX:=hid hdx
      clear hdx rd
      go_wp2_with fail
      refine C.out.mono ?_
      rintro en w1 ⟨rfl,hb1⟩
      by_cases hgt:m2<dx
      ·have hgt2:(m2:Int)<(dx:Int):=by omega
       have hmx:max m2 dx=dx:=by omega
       go_wp2_with fail
       go_roundw
       case rel=>exact⟨j+1,max m2 dx,by omega,by omega,hid (by rw[List.take_succ_eq_append_getElem hj1,List.map_append,List.map_cons,List.map_nil,ny,←hM2.out,←HX.out];show max m2 dx=max m2 (depthJ n x);rw[←HDX.out]),by first | rfl | (rw[hmx]) | (simp;omega),by first | rfl | go_num,ae hb2 hb1,ai hbox2 hb1⟩
       case measure=>simp[intOf];omega
      ·have hgt2:¬ (m2:Int)<(dx:Int):=by omega
       have hmx:max m2 dx=m2:=by omega
       go_wp2_with fail
       go_roundw
       case rel=>exact⟨j+1,max m2 dx,by omega,by omega,hid (by rw[List.take_succ_eq_append_getElem hj1,List.map_append,List.map_cons,List.map_nil,ny,←hM2.out,←HX.out];show max m2 dx=max m2 (depthJ n x);rw[←HDX.out]),by first | rfl | (rw[hmx]) | (simp;omega),by first | rfl | go_num,ae hb2 hb1,ai hbox2 hb1⟩
       case measure=>simp[intOf];omega
     ·obtain rfl:j=on:=by omega
      have hlt4:¬ ((j:Nat):Int)<(j:Int):=by omega
      rw[List.take_of_length_le (by rw[HOL.out];exact Nat.le_refl _)] at hM2
      have hR2:R=m2+1:=by rw[hR.out,HN.out,HD.out,hM2.out,hM.out]
      clear hR
      subst hR2
      have hw2:IntKind.i64.wrap ((m2:Int)+1)=((m2+1:Nat):Int):=by rw[IntWalk.i64_in _ (by omega)];omega
      go_wp2
      go_ret
      exact⟨by first | rfl | (rw[hw2]) | go_num,hb2⟩
theorem IQ:∀(n:Nat),n≤200→DepthCR n
 | 0,_=>fun v cs w h=>by
  obtain⟨a,c,aa,ac,oa,oc,P⟩:=h.parts
  have e:=P.cells
  subst e
  by_cases hk:v.kind=5∨v.kind=6
  ·have:=IW v.kind v.g a v.ls.length c v.e v.s aa v.arr.length ac oa v.obj.length oc w hk
   rw[show depthJ 0 v=1 by simp only[depthJ];rw[if_pos hk]]
   exact this
  ·rw[dw hk]
   exact II v.kind v.g a v.ls.length c v.e v.s aa v.arr.length ac oa v.obj.length oc 0 w hk
 | n+1,hn=>fun v cs w h=>by
  obtain⟨a,c,aa,ac,oa,oc,P⟩:=h.parts
  have e:=P.cells
  subst e
  by_cases hk:v.kind=5∨v.kind=6
  ·exact IX n (n+1) rfl (by omega) (IQ n (by omega)) v a c aa ac oa oc w hk P
  ·rw[dw hk]
   exact II v.kind v.g a v.ls.length c v.e v.s aa v.arr.length ac oa v.obj.length oc (n+1) w hk
theorem IY (v:JV)(cs:List Value)(w:World)(h:RdV w cs v):Calls Tryz.prog 93 #[.agg cs.toArray,.int .i64 200] w fun en w'=>en=.returned (.int .i64 (depthJ 200 v:Nat))∧Below w.heap.size w w' :=
 IQ 200 (Nat.le_refl _) v cs w h
end Go.Proofs.YtcgbmmalfbpjaaaGreatDoor
