/-  -/
import Derived.Test.YtcgbmmalfbpjaaaGreatDoorPathP
import Derived.Test.YtcgbmmalfbpjaaaGreatDoorPb
import Derived.Test.YtcgbmmalfbpjaaaGreatDoorMn
set_option maxRecDepth 100000
set_option maxHeartbeats 16000000
namespace Go.Proofs.YtcgbmmalfbpjaaaGreatDoor
open Go.RowKit
theorem Gi {α:Type}(g:α→Nat){l:List α}{k:Nat}(hk:k<l.length):((l.take (k+1)).map g).sum=((l.take k).map g).sum+g l[k]:=by
 rw[List.take_succ_eq_append_getElem hk,List.map_append,List.sum_append]
 simp
theorem FY {α:Type}(g:α→Nat)(l:List α)(k:Nat):((l.take k).map g).sum≤(l.map g).sum:=by
 conv=>rhs;rw[←List.take_append_drop k l]
 rw[List.map_append,List.sum_append]
 omega
def SizeC (n:Nat):Prop:=∀(v:JV) (cs:List Value) (w:World),RdV w cs v→cntJ n v≤1048576→Calls Tryz.prog 46 #[.agg cs.toArray,.int .i64 n] w fun en w'=>en=.returned (.int .i64 ((cntJ n v+1:Nat):Int))∧Below w.heap.size w w'
theorem Gx (xk:Int)(xg:Bool)(xa:Option Addr)(xl xc:Nat)(xe:Int)(xs:ByteArray)(xaa:Option Addr)(xan xac:Nat)(xoa:Option Addr)(xon xoc:Nat)(w:World):Calls Tryz.prog 46 #[.agg #[.int .i64 xk,.bool xg,.slice xa xl xc,.int .i64 xe,.string xs,.slice xaa xan xac,.slice xoa xon xoc],.int .i64 0] w fun en w'=>en=.returned (.int .i64 1)∧Below w.heap.size w w':=by
 go_enter Tryz.func46,Tryz.ntmps46
 go_wp2_with fail
 go_ret
 exact⟨rfl,(Below.refl _ _).alloc (Nat.le_refl _) _⟩
theorem Gy (n N:Nat)(xk:Int)(xg:Bool)(xa:Option Addr)(xl xc:Nat)(xe:Int)(xs:ByteArray)(xaa:Option Addr)(xan xac:Nat)(xoa:Option Addr)(xon xoc:Nat)(v:JV)(w:World)(hN:N=n+1)(hn:n<200)(IH:SizeC n)(han:xan=v.arr.length)(hon:xon=v.obj.length)(hal:xan≤9223372036854775807)(hol:xon≤9223372036854775807)(rA:RdA w xaa v.arr)(rO:RdO w xoa v.obj)
  (hc:(v.arr.map fun x=>cntJ n x+1).sum+(v.obj.map fun x=>cntJ n x.2+1).sum≤1048576) :
  Calls Tryz.prog 46 #[.agg #[.int .i64 xk,.bool xg,.slice xa xl xc,.int .i64 xe,.string xs,.slice xaa xan xac,.slice xoa xon xoc],.int .i64 (N:Int)] w fun en w'=>en=.returned (.int .i64 (((v.arr.map fun x=>cntJ n x+1).sum+(v.obj.map fun x=>cntJ n x.2+1).sum+1:Nat):Int))∧Below w.heap.size w w':=by
 obtain⟨SA,hSA⟩:∃SA,SA=(v.arr.map fun x=>cntJ n x+1).sum:=⟨_,rfl⟩
 obtain⟨SO,hSO⟩:∃SO,SO=(v.obj.map fun x=>cntJ n x.2+1).sum:=⟨_,rfl⟩
 rw[←hSA,←hSO] at hc ⊢
 have hB0:=(Below.refl w.heap.size w).alloc (Nat.le_refl _) (.cells #[.int .i64 xk,.bool xg,.slice xa xl xc,.int .i64 xe,.string xs,.slice xaa xan xac,.slice xoa xon xoc] 28)
 have hX:=hid (aj w (.cells #[.int .i64 xk,.bool xg,.slice xa xl xc,.int .i64 xe,.string xs,.slice xaa xan xac,.slice xoa xon xoc] 28))
 obtain⟨W,hW⟩:∃W,W=w.alloc (.cells #[.int .i64 xk,.bool xg,.slice xa xl xc,.int .i64 xe,.string xs,.slice xaa xan xac,.slice xoa xon xoc] 28):=⟨_,rfl⟩
 rw[←hW] at hB0 hX
 have b0:=hid hB0
 replace hW:=hid hW.symm
 replace hSA:=hid hSA
 replace hSO:=hid hSO
 replace rA:=hid rA
 replace rO:=hid rO
 replace IH:=hid IH
 have han':=hid han
 have hon':=hid hon
 have hNZ:((N:Int) == 0)=false:=by rw[beq_eq_false_iff_ne];omega
 have hw1:IntKind.i64.wrap ((N:Int)-1)=(n:Int):=by rw[IntWalk.i64_in _ (by omega)];omega
 have hN1:(N:Int)≤200:=by omega
 have hN0:0<(N:Int):=by omega
 clear hB0 han hon hN
 obtain⟨⟨p0,p1,p2,p3,p4,p5,p6⟩,_⟩:=ag hX.out
 go_enter Tryz.func46,Tryz.ntmps46
 go_upto_region 1 with fail
 rw[hW.out]
 go_upto_region 5 with fail
 clear p0 p1 p2 p3 p4 p5 p6
 go_loopw [5,7,16] (fun v5 _ v16 wr=>∃k m:Nat,k≤xan∧m≤SA∧v16=.int .i64 k∧v5=.int .i64 ((m+1:Nat):Int)∧Hid (m=((v.arr.take k).map fun x=>cntJ n x+1).sum)∧Hid (Below W.heap.size W wr)) (fun _ _ v16 _=>xan-(intOf v16).toNat)
 case atStart=>exact⟨0,0,Nat.zero_le _,Nat.zero_le _,rfl,rfl,hid (by simp),hid (Below.refl _ _)⟩
 case round =>
  obtain⟨k,m,hk,hm,rfl,rfl,hM,hb⟩:=hrel
  by_cases hlt:k<xan
  ·have hlt2:(k:Int)<(xan:Int):=by omega
   have hk1:k<v.arr.length:=by rw[←han'.out];exact hlt
   obtain⟨x,hx⟩:∃x,x=v.arr[k]:=⟨_,rfl⟩
   obtain⟨dx,hdx⟩:∃dx,dx=cntJ n x:=⟨_,rfl⟩
   have hst:=Gi (fun x=>cntJ n x+1) hk1
   have hle:=FY (fun x=>cntJ n x+1) v.arr (k+1)
   rw[←hx,←hM.out] at hst
   rw[←hSA.out] at hle
   rw[←hdx] at hst
   rw[hst] at hle
   have hst':=hid hst
   obtain⟨ck,⟨b,off,rfl,hc1⟩,hrk⟩:=(rA.out.below (ae b0.out hb.out)) k x (by rw[hx];exact List.getElem?_eq_getElem hk1)
   obtain⟨kk,kg,ka,kl,kc,ke,ks,kaa,kan,kac,koa,kon,koc,rfl⟩:=hrk.sevenB
   have u0:=hc1 0 _ rfl
   have u1:=hc1 1 _ rfl
   have u2:=hc1 2 _ rfl
   have u3:=hc1 3 _ rfl
   have u4:=hc1 4 _ rfl
   have u5:=hc1 5 _ rfl
   have u6:=hc1 6 _ rfl
   rw[Nat.add_zero] at u0
   have hbA:=(Below.refl wr.heap.size wr).alloc (Nat.le_refl _) (.cells #[.int .i64 kk,.bool kg,.slice ka kl kc,.int .i64 ke,.string ks,.slice kaa kan kac,.slice koa kon koc] 28)
   have C:=IH.out x _ _ (hrk.stay hbA) (by rw[←hdx];omega)
   rw[←hdx] at C
   replace C:=hid C
   have q1:=hid (hb.out.trans (hbA.mono hb.out.size))
   clear hst hc1 hrk hbA hx hdx hk1
   go_wp2_with fail
   refine C.out.mono ?_
   rintro en w1 ⟨rfl,hb1⟩
   have q2:=hid (ae q1.out hb1)
   have hsum:IntKind.i64.wrap (((m+1:Nat):Int)+((dx+1:Nat):Int))=((m+(dx+1)+1:Nat):Int):=by rw[IntWalk.i64_in _ (by omega)];omega
   clear hb1 C q1 hb u0 u1 u2 u3 u4 u5 u6
   go_wp2_with fail
   go_roundw
   case rel=>exact⟨k+1,m+(dx+1),Nat.succ_le_of_lt hlt,hle,by go_num,by first | rfl | (rw[hsum]) | go_num,hid hst'.out.symm,q2⟩
   case measure=>simp[intOf];omega
  ·obtain rfl:k=xan:=by omega
   have hlt2:¬ ((k:Nat):Int)<(k:Int):=by omega
   have hm2:m=SA:=by rw[hM.out,hSA.out,List.take_of_length_le (by rw[←han'.out];exact Nat.le_refl _)]
   subst hm2
   have x1:=hid (af hX.out hb.out)
   obtain⟨⟨p0,p1,p2,p3,p4,p5,p6⟩,_⟩:=ag x1.out
   go_upto_region 10 with fail
   have b9:=hid hb.out
   clear hb hM p0 p1 p2 p3 p4 p5 p6 x1 hlt hlt2 hk hm
   go_loopw [5,9,30] (fun v5 _ v30 wq=>∃j m2:Nat,j≤xon∧m2≤SO∧v30=.int .i64 j∧v5=.int .i64 ((m+m2+1:Nat):Int)∧Hid (m2=((v.obj.take j).map fun x=>cntJ n x.2+1).sum)∧Hid (Below W.heap.size W wq)) (fun _ _ v30 _=>xon-(intOf v30).toNat)
   case atStart=>exact⟨0,0,Nat.zero_le _,Nat.zero_le _,rfl,rfl,hid (by simp),b9⟩
   case round =>
    clear b9
    obtain⟨j,m2,hj,hm2,rfl,rfl,hM,hb⟩:=hrel
    by_cases hlt:j<xon
    ·have hlt2:(j:Int)<(xon:Int):=by omega
     have hk1:j<v.obj.length:=by rw[←hon'.out];exact hlt
     obtain⟨x,hx⟩:∃x,x=v.obj[j]:=⟨_,rfl⟩
     obtain⟨dx,hdx⟩:∃dx,dx=cntJ n x.2:=⟨_,rfl⟩
     have hst:=Gi (fun x:Fld=>cntJ n x.2+1) hk1
     have hle:=FY (fun x:Fld=>cntJ n x.2+1) v.obj (j+1)
     rw[←hx,←hM.out] at hst
     rw[←hSO.out] at hle
     rw[←hdx] at hst
     rw[hst] at hle
     have hst':=hid hst
     obtain⟨ck,⟨b,off,rfl,hc1⟩,_,hrk⟩:=(rO.out.below (ae b0.out hb.out)) j x (by rw[hx];exact List.getElem?_eq_getElem hk1)
     obtain⟨kk,kg,ka,kl,kc,ke,ks,kaa,kan,kac,koa,kon,koc,rfl⟩:=hrk.sevenB
     have u0:=hc1 0 _ rfl
     have u1:=hc1 1 _ rfl
     have u2:=hc1 2 _ rfl
     have u3:=hc1 3 _ rfl
     have u4:=hc1 4 _ rfl
     have u5:=hc1 5 _ rfl
     have u6:=hc1 6 _ rfl
     have u7:=hc1 7 _ rfl
     rw[Nat.add_zero] at u0
     unfold strV at u0
     generalize (⟨x.1.toArray⟩:ByteArray)=sb at u0
     have hbA:=(Below.refl wr.heap.size wr).alloc (Nat.le_refl _) (.cells #[.string sb,.int .i64 kk,.bool kg,.slice ka kl kc,.int .i64 ke,.string ks,.slice kaa kan kac,.slice koa kon koc] 67)
     have C:=IH.out x.2 _ _ (hrk.stay hbA) (by rw[←hdx];omega)
     rw[←hdx] at C
     replace C:=hid C
     have q1:=hid (hb.out.trans (hbA.mono hb.out.size))
     clear hst hc1 hrk hbA hx hdx hk1
     go_wp2_with fail
     refine C.out.mono ?_
     rintro en w1 ⟨rfl,hb1⟩
     have q2:=hid (ae q1.out hb1)
     have hsum:IntKind.i64.wrap (((m+m2+1:Nat):Int)+((dx+1:Nat):Int))=((m+(m2+(dx+1))+1:Nat):Int):=by rw[IntWalk.i64_in _ (by omega)];omega
     clear hb1 C q1 hb u0 u1 u2 u3 u4 u5 u6 u7
     go_wp2_with fail
     go_roundw
     case rel=>exact⟨j+1,m2+(dx+1),Nat.succ_le_of_lt hlt,hle,by go_num,by first | rfl | (rw[hsum]) | go_num,hid hst'.out.symm,q2⟩
     case measure=>simp[intOf];omega
    ·obtain rfl:j=xon:=by omega
     have hlt2:¬ ((j:Nat):Int)<(j:Int):=by omega
     have hm3:m2=SO:=by rw[hM.out,hSO.out,List.take_of_length_le (by rw[←hon'.out];exact Nat.le_refl _)]
     subst hm3
     have hF:=hid (ae b0.out hb.out)
     clear hb hM
     go_wp2_with fail
     go_ret
     exact⟨rfl,hF.out⟩
theorem FU:∀(n:Nat),n≤200→SizeC n
 | 0,_=>fun v cs w h _=>by
  obtain⟨xk,xg,xa,xl,xc,xe,xs,xaa,xan,xac,xoa,xon,xoc,rfl⟩:=h.sevenB
  exact Gx xk xg xa xl xc xe xs xaa xan xac xoa xon xoc w
 | n+1,hn=>fun v cs w h hc=>by
  obtain⟨a,c,aa,ac,oa,oc,P⟩:=h.parts
  have e:=P.cells
  subst e
  exact Gy n (n+1) v.kind v.g a v.ls.length c v.e ⟨v.s.toArray⟩ aa v.arr.length ac oa v.obj.length oc v w rfl (by omega) (FU n (by omega)) rfl rfl (by have:=P.ac;omega) (by have:=P.oc;omega) P.arr P.obj hc
theorem Gm (v:JV)(cs:List Value)(w:World)(h:RdV w cs v)(hc:cntJ 200 v≤1048576):Calls Tryz.prog 23 #[.agg cs.toArray] w fun en w'=>en=.returned (.int .i64 ((cntJ 200 v+1:Nat):Int))∧Below w.heap.size w w':=by
 have h':=h
 obtain⟨xk,xg,xa,xl,xc,xe,xs,xaa,xan,xac,xoa,xon,xoc,rfl⟩:=h.sevenB
 have hbA:=(Below.refl w.heap.size w).alloc (Nat.le_refl _) (.cells #[.int .i64 xk,.bool xg,.slice xa xl xc,.int .i64 xe,.string xs,.slice xaa xan xac,.slice xoa xon xoc] 28)
 have C:=hid (FU 200 (Nat.le_refl _) v _ _ (h'.stay hbA) hc)
 have q:=hid hbA
 clear hbA
 go_enter Tryz.func23,Tryz.ntmps23
 go_wp2_with fail
 refine C.out.mono ?_
 rintro en w1 ⟨rfl,hb⟩
 have q2:=hid (ae q.out hb)
 clear hb
 go_wp2_with fail
 go_ret
 exact⟨rfl,q2.out⟩
end Go.Proofs.YtcgbmmalfbpjaaaGreatDoor
