/-  -/
import Derived.Test.YtcgbmmalfbpjaaaGreatDoorPathW
import Derived.Test.YtcgbmmalfbpjaaaGreatDoorPa
import Derived.Test.YtcgbmmalfbpjaaaGreatDoorPc
import Derived.Laws.EntriesVeiled
set_option maxRecDepth 100000
set_option maxHeartbeats 16000000
namespace Go.Proofs.YtcgbmmalfbpjaaaGreatDoor
open Go.RowKit
theorem qQ:∀(f:Nat) {L K base:Nat} {w0:World},Tabs w0→w0.heap.size≤L→L<base→K<base→K≠L→∀(x:JV) (m:Nat),mayJ f x=true→SmallV x→m+f≤1000→KidAt (pathsJ f) m L K base w0 x
 | 0,L,K,base,w0,hT,hL0,hLb,hKb,hKL,x,m,hm,hs,hmf=>by
  intro path ps cs pa pc lv w hpm h0 hcnt hb0 hbw hL hK hR rx rp
  simp only[mayJ,Bool.and_eq_true,decide_eq_true_eq] at hm
  have ea:=jM hm.1 (by omega)
  have eo:=jO hm.1 (by omega)
  obtain⟨a,c,aa,ac,oa,oc,P⟩:=RdV.parts rx
  have e:=P.cells
  subst e
  have:=nH (pathsJ 0) x.kind x.g a x.ls.length c x.e ⟨x.s.toArray⟩ aa x.arr.length ac oa x.obj.length oc pa path.length pc L K base lv x path ps w0 w rfl (by omega) h0 rfl rfl (by rw[ea];exact Nat.zero_le _) (by rw[eo];exact Nat.zero_le _) (by rw[ea,eo];exact hcnt) (by rw[eo];intro p hp;cases hp) hT hb0 hL0 hLb hKb hKL hbw hL hK hR P.arr P.obj rp (by rw[ea];intro p hp;cases hp) (by rw[eo];intro p hp;cases hp)
  rw[show itemsP (pathsJ 0) x.arr 0 path ++ fldsP (pathsJ 0) x.obj path=pathsJ 0 x path by rw[ea,eo];rfl] at this
  exact this
 | f+1,L,K,base,w0,hT,hL0,hLb,hKb,hKL,x,m,hm,hs,hmf=>by
  intro path ps cs pa pc lv w hpm h0 hcnt hb0 hbw hL hK hR rx rp
  simp only[mayJ,Bool.and_eq_true,List.all_eq_true] at hm
  obtain⟨a,c,aa,ac,oa,oc,P⟩:=RdV.parts rx
  have e:=P.cells
  subst e
  exact nH (pathsJ f) x.kind x.g a x.ls.length c x.e ⟨x.s.toArray⟩ aa x.arr.length ac oa x.obj.length oc pa path.length pc L K base lv x path ps w0 w rfl (by omega) h0 rfl rfl hs.al hs.obj hcnt hs.keys hT hb0 hL0 hLb hKb hKL hbw hL hK hR P.arr P.obj rp
   (fun y hy=>qQ f hT hL0 hLb hKb hKL y (path.length+1) (hm.1.1.2 y hy) (hs.arr y hy) (by omega)) (fun p hp=>qQ f hT hL0 hLb hKb hKL p.2 (path.length+1) (hm.1.2 p hp).2 (hs.flds p hp) (by omega))
theorem wQ {A:Nat→Prop}{w W:World}(hb:Below w.heap.size w W)(hA:∀k,A k→w.heap.size≤k):SubW w (hideW A W):=fun a u hu=>aI.2 ⟨fun h=>by have:=World.block_lt_of_cell? w a hu;have:=hA _ h;omega,SubW.below hb a u hu⟩
def OutPaths (w:World) (m:Bool) (ps:List (List JV)) (e:Ending) (w':World):Prop :=
 Below w.heap.size w w'∧((m=false∧e=.returned (.tuple #[.slice none 0 0,.int .i64 1]))∨(m=true∧∃a c,e=.returned (.tuple #[.slice a ps.length c,.int .i64 0])∧(∀(i:Nat) (p:List JV),ps[i]? = some p→∃(pb po:Nat) (q:Option Addr) (c:Nat),a=some ⟨pb,po,none⟩∧w'.cell? ⟨pb,po+i,none⟩=some (.slice q p.length c)∧RdA w' q p∧p.length≤c∧c≤9223372036854775807)∧ps.length≤c∧c≤9223372036854775807))
theorem wR (xk:Int)(xg:Bool)(xa:Option Addr)(xl xc:Nat)(xe:Int)(xs:ByteArray)(xaa:Option Addr)(xan xac:Nat)(xoa:Option Addr)(xon xoc:Nat)(v:JV)(m:Bool)(ps:List (List JV))(w:World)(hT:Tabs w)(rv:RdV w [.int .i64 xk,.bool xg,.slice xa xl xc,.int .i64 xe,.string xs,.slice xaa xan xac,.slice xoa xon xoc] v)
  (CM:∀W b,Below w.heap.size w W→W.heap[b]? = some (.cells #[.int .i64 xk,.bool xg,.slice xa xl xc,.int .i64 xe,.string xs,.slice xaa xan xac,.slice xoa xon xoc] 28 (0,0))→Calls Tryz.prog 26 #[.slice (some ⟨b,0,none⟩) 1 1] W fun e w'=>e=.returned (.bool m)∧Below W.heap.size W w')
  (CK:m=true→∀(L K base:Nat) (w0:World),Tabs w0→w0.heap.size≤L→L<base→K<base→K≠L→KidAt (fun _ _=>ps) 0 L K base w0 v)(hps:ps.length≤1048576) :
  Calls Tryz.prog 21 #[.agg #[.int .i64 xk,.bool xg,.slice xa xl xc,.int .i64 xe,.string xs,.slice xaa xan xac,.slice xoa xon xoc]] w (OutPaths w m ps):=by
 have hB0:=(Below.refl w.heap.size w).alloc (Nat.le_refl _) (.cells #[.int .i64 xk,.bool xg,.slice xa xl xc,.int .i64 xe,.string xs,.slice xaa xan xac,.slice xoa xon xoc] 28)
 have hX:=hid (aj w (.cells #[.int .i64 xk,.bool xg,.slice xa xl xc,.int .i64 xe,.string xs,.slice xaa xan xac,.slice xoa xon xoc] 28))
 obtain⟨W,hW⟩:∃W,W=w.alloc (.cells #[.int .i64 xk,.bool xg,.slice xa xl xc,.int .i64 xe,.string xs,.slice xaa xan xac,.slice xoa xon xoc] 28):=⟨_,rfl⟩
 rw[←hW] at hB0 hX
 have HB:=hid hB0
 have HR:=hid rv
 have HT:=hid hT
 replace hW:=hid hW.symm
 replace CK:=hid CK
 obtain⟨⟨p0,p1,p2,p3,p4,p5,p6⟩,_⟩:=ag hX.out
 have hbA:=(Below.refl W.heap.size W).alloc (Nat.le_refl _) (.cells #[.int .i64 xk,.bool xg,.slice xa xl xc,.int .i64 xe,.string xs,.slice xaa xan xac,.slice xoa xon xoc] 28)
 have hM:=hid (CM _ _ (ae hB0 hbA) (aj W (.cells #[.int .i64 xk,.bool xg,.slice xa xl xc,.int .i64 xe,.string xs,.slice xaa xan xac,.slice xoa xon xoc] 28)))
 have b1:=hid (ae hB0 hbA)
 have x1:=hid (af hX.out hbA)
 have hcall:=bD Tryz.func42 (by kernel_rfl) (by kernel_rfl)
 clear hB0 rv hT CM hbA
 go_enter Tryz.func21,Tryz.ntmps21
 go_upto_region 1 with fail
 rw[hW.out]
 go_wp2_with fail
 refine hM.out.mono ?_
 rintro en w1 ⟨rfl,hb⟩
 have b2:=hid (ae b1.out hb)
 have x2:=hid (af x1.out hb)
 clear hb b1 x1 hM p0 p1 p2 p3 p4 p5 p6
 cases m with
 | false =>
  go_wp2_with fail
  refine bodyPost_ret (v:=.tuple #[.slice none 0 0,.int .i64 1]) (by simp[results,Tryz.results21,go_sem]) rfl ?_
  exact⟨b2.out,Or.inl ⟨rfl,rfl⟩⟩
 | true =>
  obtain⟨hw1,hw2,hw3⟩:=bG w1 #[.slice none 0 0] #[.nilFunc] 42 64
  go_upto_region 5 with fail
  obtain⟨W2,hW2⟩:∃W2,W2=(w1.alloc (.cells #[.slice none 0 0] 42)).alloc (.cells #[.nilFunc] 64):=⟨_,rfl⟩
  rw[←hW2] at hw1 hw2 hw3 ⊢
  clear hW2
  have c2:=bf hw3
  have f2:=aP hw3 0
  obtain⟨W3,hW3⟩:∃W3,W3=W2.setCell ⟨w1.heap.size+1,0,none⟩ (.func (.func 42) #[] #[.pointer (some ⟨w1.heap.size,0,none⟩),.pointer (some ⟨w1.heap.size+1,0,none⟩)]):=⟨_,rfl⟩
  have k3:=hid (uD (u:=.func (.func 42) #[] #[.pointer (some ⟨w1.heap.size,0,none⟩),.pointer (some ⟨w1.heap.size+1,0,none⟩)]) hw3)
  have l3:=hid ((Below.heap_setCell W2 ⟨w1.heap.size+1,0,none⟩ (.func (.func 42) #[] #[.pointer (some ⟨w1.heap.size,0,none⟩),.pointer (some ⟨w1.heap.size+1,0,none⟩)]) w1.heap.size (by simp)).trans hw2)
  have b3:=hid (hw1.setCell (p:=⟨w1.heap.size+1,0,none⟩) (by simp) (.func (.func 42) #[] #[.pointer (some ⟨w1.heap.size,0,none⟩),.pointer (some ⟨w1.heap.size+1,0,none⟩)]))
  rw[←hW3] at k3 l3 b3
  go_upto_region 6 with fail
  rw[←hW3]
  clear hW3 c2 f2 hw1 hw2 hw3
  have x3:=hid (af x2.out b3.out)
  have ck:=bf k3.out
  obtain⟨⟨p0,p1,p2,p3,p4,p5,p6⟩,_⟩:=ag x3.out
  have hb3:=hid (ae b2.out b3.out)
  have hsz:=aA k3.out
  have hw1:=hid b2.out.size
  have HAll:=CK.out (by simp) w1.heap.size (w1.heap.size+1) (w1.heap.size+2) w1 (HT.out.below b2.out) (Nat.le_refl _) (by omega) (by omega) (by omega) [] [] [.int .i64 xk,.bool xg,.slice xa xl xc,.int .i64 xe,.string xs,.slice xaa xan xac,.slice xoa xon xoc] none 0 (.slice none 0 0) W3 rfl (fun _=>rfl) (by simpa using hps) b3.out (by omega) l3.out k3.out (RowsP.nil _ _ _)
   (RdV.sub HR.out (wQ hb3.out (fun k hk=>by
    have:=hw1.out
    rcases hk with hk | hk
    ·unfold XL at hk;omega
    ·cases hk))) (fun i y hy=>by simp at hy)
  replace HAll:=hid HAll
  clear CK
  go_wp2_with fail
  refine HAll.out.mono ?_
  rintro en w4 ⟨rfl,lv',l4,r4,f4⟩
  have cl:=bf l4
  obtain⟨a,c,rfl,e1,e2,e3⟩:=r4.rd
  have hF:=hid (show OutPaths w true ps (.returned (.tuple #[.slice a ps.length c,.int .i64 0])) w4 from ⟨hb3.out.trans (f4.below (B:=w.heap.size) (RowsP.nil (XL w1.heap.size) (w1.heap.size+2) W3) (fun k hk=>by have:=hw1.out;unfold XL at hk;omega) (by have:=hw1.out;omega) hb3.out.size),Or.inr ⟨rfl,a,c,by simp,by simpa using e1,by simpa using e2,e3⟩⟩)
  clear HAll r4 f4 l4 e1 e2
  go_wp2_with fail
  refine bodyPost_ret (v:=.tuple #[.slice a ps.length c,.int .i64 0]) (by simp[results,Tryz.results21,go_sem]) rfl ?_
  exact hF.out
theorem tC (v:JV)(cs:List Value)(w:World)(sv:SmallV v)(hc:cntJ 200 v≤1048576)(rv:RdV w cs v)(hT:Tabs w) :
  Calls Tryz.prog 21 #[.agg cs.toArray] w (OutPaths w (mayJ 200 v) (pathsJ 200 v [])):=by
 have rv':=rv
 obtain⟨xk,xg,xa,xl,xc,xe,xs,xaa,xan,xac,xoa,xon,xoc,rfl⟩:=RdV.sevenB rv
 refine wR xk xg xa xl xc xe xs xaa xan xac xoa xon xoc v (mayJ 200 v) (pathsJ 200 v []) w hT rv ?_ ?_ (by rw[fD];exact hc)
 ·intro W b hb hh
  have:=bP [v] (some ⟨b,0,none⟩) 1 W (rda1 xk xg xa xl xc xe xs xaa xan xac xoa xon xoc hh (rv'.stay hb)) (by simp) (hT.below hb)
  rw[show decide (∀x ∈ [v],mayJ 200 x=true)=mayJ 200 v by simp] at this
  exact this
 ·intro h L K base w0 h1 h2 h3 h4 h5
  have:=qQ 200 h1 h2 h3 h4 h5 v 0 h sv (by omega)
  intro path ps cs pa pc lv w hm
  obtain rfl:path=[]:=List.length_eq_zero_iff.1 hm
  exact this [] ps cs pa pc lv w hm
end Go.Proofs.YtcgbmmalfbpjaaaGreatDoor
