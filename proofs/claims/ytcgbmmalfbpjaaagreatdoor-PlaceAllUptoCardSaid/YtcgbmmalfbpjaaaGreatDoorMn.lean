/-  -/
import Derived.Test.YtcgbmmalfbpjaaaGreatDoorMm
import Derived.Test.YtcgbmmalfbpjaaaGreatDoorMk
import Derived.Laws.IdiomCopy
set_option maxRecDepth 100000
set_option maxHeartbeats 16000000
namespace Go.Proofs.YtcgbmmalfbpjaaaGreatDoor
open Go.RowKit
def idxO (key:List UInt8):List Fld→Nat→Int
 | [],_=>-1
 | x :: l,k=>if x.1=key then (k:Int) else idxO key l (k+1)
theorem Ag {key:List UInt8}{xs:List Fld}{k:Nat}{x:Fld}(h:xs[k]? = some x)(i:Nat):idxO key (xs.drop k) i=if x.1=key then (i:Int) else idxO key (xs.drop (k+1)) (i+1):=by
 obtain⟨h1,e1⟩:=List.getElem?_eq_some_iff.1 h
 rw[List.drop_eq_getElem_cons h1,e1]
 rfl
theorem oN (g:Nat)(eg:∀args w,(callFunc g args).run Tryz.prog w=.ok (.enter g args) w)(kp:Value)(key:List UInt8)(xs:List Fld)(aa:Option Addr)(ac:Nat)(w:World)(hxs:RdO w aa xs)(hxl:xs.length≤1048576)
  (hC:∀(x:Fld) (cx:List Value) (W:World),Below w.heap.size w W→RdV W cx x.2→Calls Tryz.prog g #[.agg (strV x.1 :: cx).toArray,kp] W fun e w'=>e=.returned (.bool (decide (x.1=key)))∧Below W.heap.size W w') :
  Calls Tryz.prog 119 #[.slice aa xs.length ac,.func (.func g) #[] #[kp]] w fun e w'=>e=.returned (.int .i64 (idxO key xs 0))∧Below w.heap.size w w':=by
 obtain⟨R,hR⟩:∃R,R=idxO key xs 0:=⟨_,rfl⟩
 rw[←hR]
 replace hR:=hid hR
 replace hC:=hid hC
 replace hxs:=hid hxs
 generalize hnx:xs.length=nx at *
 replace hnx:=hid hnx
 go_enter Tryz.func119,Tryz.ntmps119
 go_wp2
 go_loopw [5,8] (fun _ v8 wr=>∃k:Nat,k≤nx∧Hid (R=idxO key (xs.drop k) k)∧v8=.int .i64 k∧Below w.heap.size w wr) (fun _ v8 _=>nx-(intOf v8).toNat)
 case atStart=>exact⟨0,Nat.zero_le _,hid (by simpa using hR.out),rfl,Below.refl _ _⟩
 case round =>
  obtain⟨k,hk,hK,rfl,hb⟩:=hrel
  clear hR
  by_cases hlt:k<nx
  ·have hlt2:(k:Int)<(nx:Int):=by omega
   have hk1:k<xs.length:=by rw[hnx.out];exact hlt
   obtain⟨b,off,a1,c1,aa1,ac1,oa1,oc1,rfl,_,P1,C1⟩:=(hxs.out.below hb).at hk1
   have rd:=hid P1.rd
   clear P1
   unfold Cells8f strV at C1
   obtain⟨x,hx⟩:∃x,x=xs[k]:=⟨_,rfl⟩
   rw[←hx] at C1 rd
   have HXX:=hid (show xs[k]? = some x by rw[hx];exact List.getElem?_eq_getElem hk1)
   clear hx
   have hKn:=hid (show R=if x.1=key then (k:Int) else idxO key (xs.drop (k+1)) (k+1) by rw[hK.out];exact Ag HXX.out k)
   have hC2:=hC.out x _ wr hb rd.out
   obtain⟨kx,x⟩:=x
   simp only at C1
   obtain⟨c0,c1',c2,c3,c4,c5,c6,c7⟩:=C1
   clear hK rd HXX
   by_cases he:kx=key
   ·obtain rfl:R=(k:Int):=by rw[hKn.out,if_pos he]
    rw[show decide ((kx,x).1=key)=true from decide_eq_true he] at hC2
    replace hC2:=hid hC2
    clear hKn he
    go_wp2_with (first | (go_at_fn g;(refine hC2.out.mono ?_);rintro en w1 ⟨rfl,hb1⟩) | fail)
    go_ret
    exact⟨rfl,ae hb hb1⟩
   ·have hK2:=hid (show R=idxO key (xs.drop (k+1)) (k+1) by rw[hKn.out,if_neg he])
    rw[show decide ((kx,x).1=key)=false from decide_eq_false he] at hC2
    replace hC2:=hid hC2
    clear hKn he
    go_wp2_with (first | (go_at_fn g;(refine hC2.out.mono ?_);rintro en w1 ⟨rfl,hb1⟩) | fail)
    go_roundw
    case rel=>exact⟨k+1,by omega,hK2,by first | rfl | go_num,ae hb hb1⟩
    case measure=>simp[intOf];omega
  ·obtain rfl:k=nx:=by omega
   have hlt2:¬ ((k:Nat):Int)<(k:Int):=by omega
   obtain rfl:R=-1:=by rw[hK.out,List.drop_of_length_le (by rw[hnx.out];exact Nat.le_refl _)];rfl
   go_wp2
   go_ret
   exact⟨rfl,hb⟩
theorem Fh (x key:List UInt8)(x1 x2 x3 x4 x5 x6 x7:Value)(kb:Nat)(w:World)(hk:w.cell? ⟨kb,0,none⟩=some (strV key)) :
  Calls Tryz.prog 120 #[.agg #[strV x,x1,x2,x3,x4,x5,x6,x7],.pointer (some ⟨kb,0,none⟩)] w fun e w'=>e=.returned (.bool (decide (x=key)))∧Below w.heap.size w w':=by
 have hl:=ax hk
 have he:=EY x key
 rw[show decide (keyC x key=0)=decide (x=key) from decide_eq_decide.2 ⟨yP,fun h=>by rw[h];exact qm _⟩] at he
 unfold strV at *
 generalize (⟨x.toArray⟩:ByteArray)=xb at *
 generalize (⟨key.toArray⟩:ByteArray)=yb at *
 generalize decide (x=key)=B at *
 have hb:=hid ((Below.refl w.heap.size w).alloc (Nat.le_refl _) (.cells #[.string xb,x1,x2,x3,x4,x5,x6,x7] 67))
 go_enter Tryz.func120,Tryz.ntmps120
 go_wp2
 go_ret
 exact⟨by first | rfl | rw[he],hb.out⟩
theorem gY (v:JV)(cs:List Value)(key:List UInt8)(w:World)(sv:SmallV v)(rv:RdV w cs v) :
  Calls Tryz.prog 77 #[.agg cs.toArray,strV key] w fun e w'=>e=.returned (.int .i64 (idxO key v.obj 0))∧Below w.heap.size w w':=by
 obtain⟨a,c,aa,ac,oa,oc,P⟩:=rv.parts
 have e:=P.cells
 subst e
 have hO:=P.obj
 have hol:=sv.obj
 have HI:=fun W (kb:Nat) (hb:Below w.heap.size w W) (hk:W.cell? ⟨kb,0,none⟩=some (strV key))=>oN 120 (bD Tryz.func120 (by kernel_rfl) (by kernel_rfl)) (.pointer (some ⟨kb,0,none⟩)) key v.obj oa oc W (hO.below hb) hol (fun x cx W' hb' rx=>by
  obtain⟨x1,x2,x3,x4,x5,x6,x7,rfl⟩:=jG rx.len
  exact Fh x.1 key x1 x2 x3 x4 x5 x6 x7 kb W' (ai hk hb'))
 replace HI:=hid HI
 clear P hO rv sv
 generalize idxO key v.obj 0=R at *
 obtain⟨kind,g,ls,e,s,arr,obj⟩:=v
 simp only[JV.kind,JV.g,JV.ls,JV.e,JV.s,JV.arr,JV.obj] at *
 unfold valCs strV at *
 generalize ls.length=ln at *
 generalize arr.length=an at *
 generalize obj.length=on at *
 generalize (⟨s.toArray⟩:ByteArray)=sb at *
 generalize (⟨key.toArray⟩:ByteArray)=kb at *
 have hk:∀o,((w.alloc o).alloc (.cells #[.string kb] 9)).cell? ⟨w.heap.size+1,0,none⟩=some (.string kb):=fun o=>by simp[go_sem]
 replace hk:=hid hk
 go_enter Tryz.func77,Tryz.ntmps77
 go_wp2_with fail
 refine (HI.out _ _ (aW _ _ _) (hk.out _)).mono ?_
 rintro en w1 ⟨rfl,hb1⟩
 have hbb:=hid (ae (aW _ _ _) hb1)
 clear hb1
 go_wp2
 go_ret
 exact⟨rfl,hbb.out⟩
def OutV (w:World) (x:JV) (err:Nat) (e:Ending) (w':World):Prop:=∃cs,e=.returned (.tuple #[.agg cs.toArray,.int .i64 err])∧RdV w' cs x∧Below w.heap.size w w'
theorem ag {w:World}{N:Nat}{x0 x1 x2 x3 x4 x5 x6:Value}{T:TypeId}(h:w.heap[N]? = some (.cells #[x0,x1,x2,x3,x4,x5,x6] T (0,0))) :
  (w.cell? ⟨N,0,none⟩=some x0∧w.cell? ⟨N,1,none⟩=some x1∧w.cell? ⟨N,2,none⟩=some x2∧w.cell? ⟨N,3,none⟩=some x3∧w.cell? ⟨N,4,none⟩=some x4∧w.cell? ⟨N,5,none⟩=some x5∧w.cell? ⟨N,6,none⟩=some x6) ∧
  (w.frozen? ⟨N,0,none⟩=false∧w.frozen? ⟨N,1,none⟩=false∧w.frozen? ⟨N,2,none⟩=false∧w.frozen? ⟨N,3,none⟩=false∧w.frozen? ⟨N,4,none⟩=false∧w.frozen? ⟨N,5,none⟩=false∧w.frozen? ⟨N,6,none⟩=false) :=
 ⟨⟨ay h 0,ay h 1,ay h 2,ay h 3,ay h 4,ay h 5,ay h 6⟩,aP h 0,aP h 1,aP h 2,aP h 3,aP h 4,aP h 5,aP h 6⟩
/-- The walk,over what each call tells. -/
theorem AZ (g g':Bool)(a a':Option Addr)(l l' c c':Nat)(k':Int)(e e':Int)(s s':List UInt8)(aa aa':Option Addr)(an an' ac ac':Nat)(oa oa':Option Addr)(on on' oc oc':Nat)(key:List UInt8)(i:Nat)(D:Nat)(hD:D≠200)(_hDl:D≤201)(hi:i<on)(w:World)(Q:Ending→World→Prop)
  (y0 y1 y2 y3 y4 y5 y6:Value)(G:World→Nat→Nat→Prop)
  (h1:∀W,Below w.heap.size w W→Calls Tryz.prog 20 #[valV 6 g a l c e s aa an ac oa on oc] W fun en w'=>en=.returned (.bool true)∧Below W.heap.size W w')
  (h2:∀W,Below w.heap.size w W→Calls Tryz.prog 20 #[valV k' g' a' l' c' e' s' aa' an' ac' oa' on' oc'] W fun en w'=>en=.returned (.bool true)∧Below W.heap.size W w')
  (h3:∀W,Below w.heap.size w W→Calls Tryz.prog 76 #[strV key] W fun en w'=>en=.returned (.bool true)∧Below W.heap.size W w')
  (h4:∀W,Below w.heap.size w W→Calls Tryz.prog 91 #[valV k' g' a' l' c' e' s' aa' an' ac' oa' on' oc'] W fun en w'=>en=.returned (.int .i64 (D:Int))∧Below W.heap.size W w')
  (h5:∀W,Below w.heap.size w W→Calls Tryz.prog 132 #[.slice oa on oc] W fun en w'=>∃q cap,en=.returned (.slice (some ⟨q,0,none⟩) on cap)∧W.heap.size≤q∧on≤cap∧cap≤9223372036854775807∧G w' q cap∧Below W.heap.size W w')
  (h6:∀W,Below w.heap.size w W→Calls Tryz.prog 77 #[valV 6 g a l c e s aa an ac oa on oc,strV key] W fun en w'=>en=.returned (.int .i64 (i:Int))∧Below W.heap.size W w')
  (hG:∀W q cap W',G W q cap→Below W.heap.size W W'→G W' q cap)
  (hGc:∀W q cap,G W q cap→(W.cell? ⟨q,i * 8+1,none⟩=some y0∧W.cell? ⟨q,i * 8+2,none⟩=some y1∧W.cell? ⟨q,i * 8+3,none⟩=some y2∧W.cell? ⟨q,i * 8+4,none⟩=some y3∧W.cell? ⟨q,i * 8+5,none⟩=some y4∧W.cell? ⟨q,i * 8+6,none⟩=some y5∧W.cell? ⟨q,i * 8+7,none⟩=some y6)∧∀j,W.frozen? ⟨q,j,none⟩=false)
  (hQ:∀W q cap r zs,G W q cap→Below w.heap.size w W→w.heap.size≤q→on≤cap→cap≤9223372036854775807→q≠r→w.heap.size≤r →
   Q (.returned (.tuple #[.agg (valCs 6 false none 0 0 0 [] none 0 0 (some ⟨q,0,none⟩) on cap).toArray,.int .i64 0])) ((W.setCells q (i * 8+1) (valCs k' g' a' l' c' e' s' aa' an' ac' oa' on' oc')).setCells r 0 zs)) :
  Calls Tryz.prog 89 #[valV 6 g a l c e s aa an ac oa on oc,strV key,valV k' g' a' l' c' e' s' aa' an' ac' oa' on' oc'] w Q:=by
 unfold valV valCs strV at *
 generalize (⟨s.toArray⟩:ByteArray)=sb at *
 generalize (⟨s'.toArray⟩:ByteArray)=sb' at *
 generalize (⟨key.toArray⟩:ByteArray)=kb at *
 obtain⟨W,hW⟩:∃W,W=((w.alloc (.cells #[.int .i64 6,.bool g,.slice a l c,.int .i64 e,.string sb,.slice aa an ac,.slice oa on oc] 28)).alloc (.cells #[.int .i64 k',.bool g',.slice a' l' c',.int .i64 e',.string sb',.slice aa' an' ac',.slice oa' on' oc'] 28)).alloc (.cells #[.int .i64 0,.bool false,.slice none 0 0,.int .i64 0,.string ⟨#[]⟩,.slice none 0 0,.slice none 0 0] 28):=⟨_,rfl⟩
 have hB:=hid (show Below w.heap.size w W by rw[hW];exact (aW _ _ _).alloc (by simp;omega) _)
 have hX:Hid (BoxV W w.heap.size 6 g a l c e sb aa an ac oa on oc):=by
  rw[hW]
  exact⟨by simp[go_sem],by simp[go_sem],by simp[go_sem],by simp[go_sem],by simp[go_sem],by simp[go_sem],by simp[go_sem]⟩
 have hY:Hid (BoxV W (w.heap.size+1) k' g' a' l' c' e' sb' aa' an' ac' oa' on' oc'):=by
  rw[hW]
  exact⟨by simp[go_sem],by simp[go_sem],by simp[go_sem],by simp[go_sem],by simp[go_sem],by simp[go_sem],by simp[go_sem]⟩
 have hZ0:(W.heap[w.heap.size+1+1]? = some (.cells #[.int .i64 0,.bool false,.slice none 0 0,.int .i64 0,.string ⟨#[]⟩,.slice none 0 0,.slice none 0 0] 28)):=by
  rw[hW]
  have:=aj ((w.alloc (.cells #[.int .i64 6,.bool g,.slice a l c,.int .i64 e,.string sb,.slice aa an ac,.slice oa on oc] 28)).alloc (.cells #[.int .i64 k',.bool g',.slice a' l' c',.int .i64 e',.string sb',.slice aa' an' ac',.slice oa' on' oc'] 28)) (.cells #[.int .i64 0,.bool false,.slice none 0 0,.int .i64 0,.string ⟨#[]⟩,.slice none 0 0,.slice none 0 0] 28)
  simpa[Nat.add_assoc] using this
 have hZ:=hid hZ0
 clear hZ0
 replace hW:=hid hW.symm
 replace h1:=hid h1
 replace h2:=hid h2
 replace h3:=hid h3
 replace h4:=hid h4
 replace h5:=hid h5
 replace h6:=hid h6
 replace hG:=hid hG
 replace hGc:=hid hGc
 replace hQ:=hid hQ
 have hD1:((D:Int) == 200)=false:=by rw[beq_eq_false_iff_ne];omega
 have hD2:(D == 200)=false:=by rw[beq_eq_false_iff_ne];exact hD
 clear hD
 go_enter Tryz.func89,Tryz.ntmps89
 go_wp2_with fail
 rw[hW.out]
 refine (h1.out _ hB.out).mono ?_
 rintro en w1 ⟨rfl,hb⟩
 replace hB:=hid (ae hB.out hb)
 replace hX:=hid (hX.out.stay hb)
 replace hY:=hid (hY.out.stay hb)
 replace hZ:=hid (af hZ.out hb)
 obtain⟨q0,q1,q2,q3,q4,q5,q6⟩:=hY.out
 clear hb hW
 go_wp2_with fail
 refine (h2.out _ hB.out).mono ?_
 rintro en w2 ⟨rfl,hb⟩
 replace hB:=hid (ae hB.out hb)
 replace hX:=hid (hX.out.stay hb)
 replace hY:=hid (hY.out.stay hb)
 replace hZ:=hid (af hZ.out hb)
 clear hb q0 q1 q2 q3 q4 q5 q6
 go_wp2_with fail
 refine (h3.out _ hB.out).mono ?_
 rintro en w3 ⟨rfl,hb⟩
 replace hB:=hid (ae hB.out hb)
 replace hX:=hid (hX.out.stay hb)
 replace hY:=hid (hY.out.stay hb)
 replace hZ:=hid (af hZ.out hb)
 obtain⟨p0,p1,p2,p3,p4,p5,p6⟩:=hX.out
 obtain⟨q0,q1,q2,q3,q4,q5,q6⟩:=hY.out
 clear hb
 go_wp2_with fail
 refine (h4.out _ hB.out).mono ?_
 rintro en w4 ⟨rfl,hb⟩
 replace hB:=hid (ae hB.out hb)
 replace hX:=hid (hX.out.stay hb)
 replace hY:=hid (hY.out.stay hb)
 replace hZ:=hid (af hZ.out hb)
 clear p0 p1 p2 p3 p4 p5 p6 q0 q1 q2 q3 q4 q5 q6
 obtain⟨p0,p1,p2,p3,p4,p5,p6⟩:=hX.out
 clear hb
 go_wp2_with fail
 refine (h5.out _ hB.out).mono ?_
 rintro en w5 ⟨q,cap,rfl,hq,hcap,hcm,hg5,hb⟩
 have hqw:Hid (w.heap.size≤q):=Nat.le_trans hB.out.size hq
 have hq2:Hid (w.heap.size+1+1<q):=Nat.lt_of_lt_of_le (aA hZ.out) hq
 replace hB:=hid (ae hB.out hb)
 replace hX:=hid (hX.out.stay hb)
 replace hY:=hid (hY.out.stay hb)
 replace hZ:=hid (af hZ.out hb)
 clear hb p0 p1 p2 p3 p4 p5 p6
 obtain⟨U,hU⟩:∃U,U=w5.alloc (.cells #[.int .i64 6,.bool false,.slice none 0 0,.int .i64 0,.string ⟨#[]⟩,.slice none 0 0,.slice (some ⟨q,0,none⟩) on cap] 28):=⟨_,rfl⟩
 have hbU:Below w5.heap.size w5 U:=by rw[hU];exact (Below.refl _ _).alloc (Nat.le_refl _) _
 have hOut0:U.heap[w5.heap.size]? = some (.cells #[.int .i64 6,.bool false,.slice none 0 0,.int .i64 0,.string ⟨#[]⟩,.slice none 0 0,.slice (some ⟨q,0,none⟩) on cap] 28):=by rw[hU];exact aj w5 _
 obtain⟨p0,p1,p2,p3,p4,p5,p6⟩:=hX.out
 have hl5:=ax p0
 have hOut:=hid hOut0
 have hbU2:=hid hbU
 replace hU:=hid hU.symm
 clear hOut0 hbU
 go_wp2_with fail
 rw[hU.out]
 refine (h6.out _ (ae hB.out hbU2.out)).mono ?_
 rintro en w6 ⟨rfl,hb⟩
 have hb56:=hid (ae hbU2.out hb)
 have hq5:Hid (q<w5.heap.size):=ax (hGc.out w5 q cap hg5).1.1
 have hG6:=hid (hG.out w5 q cap w6 hg5 hb56.out)
 replace hOut:=hid (af hOut.out hb)
 replace hB:=hid (ae hB.out hb56.out)
 have hY6:=hid (hY.out.stay hb56.out)
 have hZ6:=hid (af hZ.out hb56.out)
 clear hb hg5 hX hY hZ p0 p1 p2 p3 p4 p5 p6 hl5 hbU2 hU h1 h2 h3 h4 h5 h6
 obtain⟨O,hO⟩:∃O,O=w5.heap.size:=⟨_,rfl⟩
 rw[←hO] at hOut hq5 ⊢
 clear hO hb56
 obtain⟨B,hBB⟩:∃B,B=w.heap.size+1+1:=⟨_,rfl⟩
 rw[←hBB] at hZ6 hq2 ⊢
 have hwB:Hid (w.heap.size≤B):=by rw[hBB];show w.heap.size≤_;omega
 clear hBB
 obtain⟨⟨r0,r1,r2,r3,r4,r5,r6⟩,s0,s1,s2,s3,s4,s5,s6⟩:=ag hZ6.out
 obtain⟨⟨o0,o1,o2,o3,o4,o5,o6⟩,_⟩:=ag hOut.out
 obtain⟨x0,x1,x2,x3,x4,x5,x6⟩:=hY6.out
 obtain⟨⟨g0,g1,g2,g3,g4,g5,g6⟩,gf⟩:=hGc.out w6 q cap hG6.out
 have f1:=gf (i * 8+1)
 have f2:=gf (i * 8+2)
 have f3:=gf (i * 8+3)
 have f4:=gf (i * 8+4)
 have f5:=gf (i * 8+5)
 have f6:=gf (i * 8+6)
 have f7:=gf (i * 8+7)
 have n1:¬ q=O:=by have:=hq5.out;omega
 have n2:¬ O=q:=by have:=hq5.out;omega
 have n3:¬ q=B:=by have:=hq2.out;omega
 have n4:¬ B=q:=by have:=hq2.out;omega
 have i0:(0:Int)≤(i:Int):=by omega
 have i1:(i:Int)<(on:Int):=by omega
 have i2:(on:Int)≤9223372036854775807:=by omega
 clear gf hGc
 go_wp2_with fail
 refine bodyPost_ret (v:=.tuple #[.agg #[.int .i64 6,.bool false,.slice none 0 0,.int .i64 0,.string ⟨#[]⟩,.slice none 0 0,.slice (some ⟨q,0,none⟩) on cap],.int .i64 0]) (by simp[results,Tryz.results89,go_sem,r0,r1,r2,r3,r4,r5,r6]) rfl ?_
 exact hQ.out w6 q cap B [.int .i64 6,.bool false,.slice none 0 0,.int .i64 0,.string ⟨#[]⟩,.slice none 0 0,.slice (some ⟨q,0,none⟩) on cap] hG6.out hB.out hqw.out hcap hcm (by have:=hq2.out;omega) hwB.out
theorem aF {B:Nat}{a:World}(b:Nat)(hb:B≤b):∀(vs:List Value) (o:Nat) (w:World),Below B a w→Below B a (w.setCells b o vs)
 | [],_,_,h=>h
 | v :: vs,o,w,h=>aF b hb vs (o+1) _ (h.setCell (by exact hb) v)
def RowF (E:List FE) (W:World) (q cap:Nat):Prop:=∃cur,W.heap[q]? = some (.cells cur 67 (0,0))∧E.length≤cap∧cur.size=cap * 8∧cur.toList.take (E.length * 8)=E.flatMap FE.enc
theorem RowF.stay {E:List FE}{W W':World}{q cap:Nat}(h:RowF E W q cap)(hb:Below W.heap.size W W'):RowF E W' q cap:=by
 obtain⟨cur,h1,h2⟩:=h
 exact⟨cur,af h1 hb,h2⟩
theorem RowF.cell {E:List FE}{W:World}{q cap:Nat}(h:RowF E W q cap){i:Nat}{f:FE}(hf:E[i]? = some f){j:Nat}{v:Value}(hv:f.enc[j]? = some v):W.cell? ⟨q,i * 8+j,none⟩=some v:=by
 obtain⟨cur,h1,h2,h3,h4⟩:=h
 have hj:j<8:=by have:=(List.getElem?_eq_some_iff.1 hv).1;rw[f.len] at this;exact this
 have hi:=(List.getElem?_eq_some_iff.1 hf).1
 have e1:cur[i * 8+j]? = (E.flatMap FE.enc)[i * 8+j]?:=by
  rw[←h4,List.getElem?_take_of_lt (by omega),Array.getElem?_toList]
 rw[rf E i j f hf hj,hv] at e1
 simp only[World.cell?,h1]
 simpa using e1
theorem RowF.frozen {E:List FE}{W:World}{q cap:Nat}(h:RowF E W q cap)(j:Nat):W.frozen? ⟨q,j,none⟩=false:=by
 obtain⟨cur,h1,_⟩:=h
 simp[World.frozen?,h1]
end Go.Proofs.YtcgbmmalfbpjaaaGreatDoor
