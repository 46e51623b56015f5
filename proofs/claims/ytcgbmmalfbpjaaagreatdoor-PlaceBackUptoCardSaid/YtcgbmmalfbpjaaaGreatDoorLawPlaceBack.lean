/-  -/
import Derived.Test.YtcgbmmalfbpjaaaGreatDoorPe
import Derived.Test.YtcgbmmalfbpjaaaGreatDoorPg
import Derived.Test.YtcgbmmalfbpjaaaGreatDoorPm
set_option maxRecDepth 100000
set_option maxHeartbeats 16000000
namespace Go.Proofs.YtcgbmmalfbpjaaaGreatDoor
open Go.RowKit
theorem KN {k:JV}(h:¬ okK k):k.kind≠4∧(k.kind≠3∨k.g=true):=by
 unfold okK at h
 refine⟨fun e=>h (Or.inl e),?_⟩
 by_cases h3:k.kind=3
 ·refine Or.inr ?_
  cases hg:k.g with
  | true=>rfl
  | false=>exact absurd (Or.inr ⟨h3,hg⟩) h
 ·exact Or.inl h3
theorem KA {v:JV}(h:mayJ 200 v=true):getPJ v []=(v,0):=by
 unfold getPJ
 rw[if_pos ⟨h,fun x hx=>by cases hx⟩]
 rfl
theorem Je (v:JV)(cv:List Value)(path:List JV)(pa:Option Addr)(pc:Nat)(x:JV)(cx:List Value)(y:JV)(cy:List Value)(w:World)(sv:SmallV v)(sv1:Small1 v)(rv:RdV w cv v)(hp:path.length≤1048576)(hc:path.length≤pc∧pc≤9223372036854775807)(sp:∀k ∈ path,SmallV k)(rp:RdA w pa path)(sx:SmallV x)(rx:RdV w cx x)(sy:SmallV y)(ry:RdV w cy y)(hT:Tabs w) :
  Calls Tryz.prog 7 #[.agg cv.toArray,.slice pa path.length pc,.agg cx.toArray,.agg cy.toArray] w fun en w'=>en=.returned (.bool true)∧Below w.heap.size w w':=by
 have hS:=hid fun W (hb:Below w.heap.size w W)=>uG W (hT.below hb)
 obtain⟨A1,ea,hA⟩:∃V e,setPJ v path x=(V,e):=⟨_,_,rfl⟩
 obtain⟨G1,eg,hG⟩:∃V e,getPJ v []=(V,e):=⟨_,_,rfl⟩
 obtain⟨CR,ec,hC⟩:∃V e,setPJ v path y=(V,e):=⟨_,_,rfl⟩
 obtain⟨XR,eR,hXR⟩:∃V e,getPJ A1 path=(V,e):=⟨_,_,rfl⟩
 obtain⟨k1,g1,a1,l1,c1,e1,s1,aa1,an1,ac1,oa1,on1,oc1,rfl⟩:=rv.seven
 obtain⟨k2,g2,a2,l2,c2,e2,s2,aa2,an2,ac2,oa2,on2,oc2,rfl⟩:=rx.seven
 obtain⟨k3,g3,a3,l3,c3,e3,s3,aa3,an3,ac3,oa3,on3,oc3,rfl⟩:=ry.seven
 obtain⟨W,hW⟩:∃W,W=((w.alloc (.cells #[.int .i64 k1,.bool g1,.slice a1 l1 c1,.int .i64 e1,.string ⟨s1.toArray⟩,.slice aa1 an1 ac1,.slice oa1 on1 oc1] 28)).alloc (.cells #[.int .i64 k2,.bool g2,.slice a2 l2 c2,.int .i64 e2,.string ⟨s2.toArray⟩,.slice aa2 an2 ac2,.slice oa2 on2 oc2] 28)).alloc (.cells #[.int .i64 k3,.bool g3,.slice a3 l3 c3,.int .i64 e3,.string ⟨s3.toArray⟩,.slice aa3 an3 ac3,.slice oa3 on3 oc3] 28):=⟨_,rfl⟩
 have hst0:St w W [(w.heap.size+1+1,y),(w.heap.size+1,x),(w.heap.size,v)]:=by
  have h1:=St.add (l:=[]) (⟨Below.refl _ _,fun p hp=>by cases hp⟩:St w w []) (Below.refl _ _) rv
  have h2:=St.add h1 (Below.refl _ _) (rx.stay ((Below.refl w.heap.size w).alloc (Nat.le_refl _) _))
  have h3:=St.add h2 (Below.refl _ _) (ry.stay (aQ _ _ _))
  rw[hW]
  simpa using h3
 have HT:=hid hT
 have hst:=hid hst0
 replace hW:=hid hW.symm
 replace hA:=hid hA
 replace hG:=hid hG
 replace hC:=hid hC
 replace hXR:=hid hXR
 clear hst0 rv rx ry hT
 show Calls _ _ #[valV k1 g1 a1 l1 c1 e1 s1 aa1 an1 ac1 oa1 on1 oc1,.slice pa path.length pc,valV k2 g2 a2 l2 c2 e2 s2 aa2 an2 ac2 oa2 on2 oc2,valV k3 g3 a3 l3 c3 e3 s3 aa3 an3 ac3 oa3 on3 oc3] w _
 unfold valV strV
 replace rp:=hid rp
 replace hp:=hid hp
 replace hc:=hid hc
 replace sv:=hid sv
 replace sv1:=hid sv1
 replace sx:=hid sx
 replace sy:=hid sy
 replace sp:=hid sp
 generalize hpl:path.length=pl at *
 replace hpl:=hid hpl
 go_enter Tryz.func7,Tryz.ntmps7
 go_upto_region 1 with fail
 go_cut [9] from 21 (fun v9 w'=>v9=.bool true∧St w w' [(w.heap.size+1+1,y),(w.heap.size+1,x),(w.heap.size,v)])
 case first =>
  rw[hW.out]
  go_wp2_with fail
  refine (hS.out _ hst.out.1).mono ?_
  rintro en w1 ⟨rfl,hb⟩
  have q:=hid (hst.out.stay hb)
  clear hb
  go_wp2_with fail
  go_meet
  case rel=>exact⟨rfl,q.out⟩
 case rest =>
 obtain⟨rfl,g0⟩:=hcut
 replace hst:=hid g0
 clear g0 hS hW
 obtain⟨B2,hB2⟩:∃B2,B2=w.heap.size+1+1:=⟨_,rfl⟩
 rw[←hB2] at hst ⊢
 clear hB2
 obtain⟨B1,hB1⟩:∃B1,B1=w.heap.size+1:=⟨_,rfl⟩
 rw[←hB1] at hst ⊢
 clear hB1
 go_upto_region 2 with fail
 go_cut [10,11] from 21 (fun v1 v2 w'=>NewJ w w' v1 v2 A1 ea [(B2,y),(B1,x),(w.heap.size,v)])
 case first =>
  obtain⟨k1,g1,a1,l1,c1,e1,s1,aa1,an1,ac1,oa1,on1,oc1,⟨y10,y11,y12,y13,y14,y15,y16⟩,r1⟩:=hst.out.2 (w.heap.size,v) (by simp)
  obtain⟨k2,g2,a2,l2,c2,e2,s2,aa2,an2,ac2,oa2,on2,oc2,⟨y20,y21,y22,y23,y24,y25,y26⟩,r2⟩:=hst.out.2 (B1,x) (by simp)
  have C:=hid (by have h:=zI (BA NoA v path x _ _ pa pc wc xA sv.out sx.out.al (by rw[hpl.out];exact hp.out) (by rw[hpl.out];exact hc.out) (jR r1) (jR r2) (rp.out.below hst.out.1) (HT.out.below hst.out.1));rw[hA.out] at h;rw[hpl.out] at h;exact h:Calls Tryz.prog 16 _ wc (OutV wc A1 ea))
  go_wp2_with fail
  refine C.out.mono ?_
  rintro en w1 ⟨cs1,rfl,rr,hb⟩
  obtain⟨k9,g9,a9,l9,c9,e9,s9,aa9,an9,ac9,oa9,on9,oc9,rfl⟩:=rr.seven
  have hN:Hid (NewJ w _ (.pointer (some ⟨w1.heap.size,0,none⟩)) (.int .i64 ea) A1 ea [(B2,y),(B1,x),(w.heap.size,v)]):=⟨w1.heap.size,rfl,rfl,hst.out.add hb rr⟩
  unfold valCs at hN
  clear hb rr C
  unfold valCs strV
  go_wp2_with fail
  go_meet
  case rel=>exact hN.out
 case rest =>
 obtain⟨b1,rfl,rfl,g0⟩:=hcut
 replace hst:=hid g0
 clear g0
 go_upto_region 3 with fail
 go_cut [12,13] from 21 (fun v1 v2 w'=>NewJ w w' v1 v2 G1 eg [(b1,A1),(B2,y),(B1,x),(w.heap.size,v)])
 case first =>
  obtain⟨k1,g1,a1,l1,c1,e1,s1,aa1,an1,ac1,oa1,on1,oc1,⟨y10,y11,y12,y13,y14,y15,y16⟩,r1⟩:=hst.out.2 (w.heap.size,v) (by simp)
  have C:=hid (by have h:=zI (Bv NoA v [] _ none 0 wc xA sv.out (Nat.zero_le _) (jR r1) (fun i x hx=>by simp at hx) (HT.out.below hst.out.1));rw[hG.out] at h;exact h:Calls Tryz.prog 14 _ wc (OutV wc G1 eg))
  go_wp2_with fail
  refine C.out.mono ?_
  rintro en w1 ⟨cs1,rfl,rr,hb⟩
  obtain⟨k9,g9,a9,l9,c9,e9,s9,aa9,an9,ac9,oa9,on9,oc9,rfl⟩:=rr.seven
  have hN:Hid (NewJ w _ (.pointer (some ⟨w1.heap.size,0,none⟩)) (.int .i64 eg) G1 eg [(b1,A1),(B2,y),(B1,x),(w.heap.size,v)]):=⟨w1.heap.size,rfl,rfl,hst.out.add hb rr⟩
  unfold valCs at hN
  clear hb rr C
  unfold valCs strV
  go_wp2_with fail
  go_meet
  case rel=>exact hN.out
 case rest =>
 obtain⟨b2,rfl,rfl,g0⟩:=hcut
 replace hst:=hid g0
 clear g0
 go_upto_region 4 with fail
 go_cut [45] from 21 (fun v45 w'=>v45=.bool false∧St w w' [(b2,G1),(b1,A1),(B2,y),(B1,x),(w.heap.size,v)])
 case first =>
  obtain⟨k1,g1,a1,l1,c1,e1,s1,aa1,an1,ac1,oa1,on1,oc1,⟨y10,y11,y12,y13,y14,y15,y16⟩,r1⟩:=hst.out.2 (w.heap.size,v) (by simp)
  have CM:=hid (dE v _ wc r1 (HT.out.below hst.out.1))
  obtain⟨m,hm⟩:∃m,m=mayJ 200 v:=⟨_,rfl⟩
  rw[←hm] at CM
  replace hm:=hid hm
  go_wp2_with fail
  refine CM.out.mono ?_
  rintro en w1 ⟨rfl,hb⟩
  replace hst:=hid (hst.out.stay hb)
  clear hb CM r1 y10 y11 y12 y13 y14 y15 y16
  cases m with
  | false =>
   go_wp2_with fail
   go_meet
   case rel=>exact⟨rfl,hst.out⟩
  | true =>
   have hg:=hG.out
   rw[KA hm.out.symm] at hg
   have h1:G1=v:=(congrArg Prod.fst hg).symm
   have h20:eg=0:=(congrArg Prod.snd hg).symm
   have h2:((eg:Int) != 0)=false:=by rw[h20];rfl
   clear h20
   replace h1:=hid h1
   clear hg
   obtain⟨k1,g1,a1,l1,c1,e1,s1,aa1,an1,ac1,oa1,on1,oc1,⟨y10,y11,y12,y13,y14,y15,y16⟩,r1⟩:=hst.out.2 (b2,G1) (by simp)
   obtain⟨k2,g2,a2,l2,c2,e2,s2,aa2,an2,ac2,oa2,on2,oc2,⟨y20,y21,y22,y23,y24,y25,y26⟩,r2⟩:=hst.out.2 (w.heap.size,v) (by simp)
   have C1:=hid (by have h:=xC G1 v _ _ w1 r1 r2;rw[jS h1.out] at h;exact h:Calls Tryz.prog 13 _ w1 fun en w'=>en=.returned (.bool true)∧Below w1.heap.size w1 w')
   go_wp2_with fail
   refine C1.out.mono ?_
   rintro en w2 ⟨rfl,hb⟩
   replace hst:=hid (hst.out.stay hb)
   clear hb C1
   go_wp2_with fail
   go_meet
   case rel=>exact⟨rfl,hst.out⟩
 case rest =>
 obtain⟨rfl,g0⟩:=hcut
 replace hst:=hid g0
 clear g0
 go_upto_region 7 with fail
 go_loopw [14] (fun v14 wr=>∃k:Nat,k≤pl∧v14=.int .i64 k∧Hid (∀q ∈ path.take k,okK q)∧Hid (St w wr [(b2,G1),(b1,A1),(B2,y),(B1,x),(w.heap.size,v)])) (fun v14 _=>pl-(intOf v14).toNat)
 case atStart=>exact⟨0,Nat.zero_le _,rfl,hid (by simp),hst⟩
 case round =>
  obtain⟨k,hk,rfl,hok,hs⟩:=hrel
  clear hst
  have hpB:pl≤1048576:=hp.out
  by_cases hlt:k<pl
  ·have hlt2:(k:Int)<(pl:Int):=by omega
   have hk1:k<path.length:=by rw[hpl.out];exact hlt
   obtain⟨q,hq⟩:∃q,q=path[k]:=⟨_,rfl⟩
   obtain⟨b,off,a0,c0,aa0,ac0,oa0,oc0,rfl,P0,C0⟩:=(rp.out.below hs.out.1).at hk1
   have htk:=hid (show path.take (k+1)=path.take k ++ [q] by rw[List.take_succ_eq_append_getElem hk1,hq])
   unfold Cells7 at C0
   obtain⟨t0,t1,_⟩:=C0
   rw[←hq] at t0 t1
   have hlb:=au t0
   clear P0 hq
   by_cases hqk:okK q
   ·have hok2:Hid (∀q' ∈ path.take (k+1),okK q'):=by
     intro q' hq'
     rw[htk.out] at hq'
     rcases List.mem_append.1 hq' with h | h
     ·exact hok.out q' h
     ·rw[List.mem_singleton.1 h];exact hqk
    clear hok htk
    rcases hqk with h4 | ⟨h3,hg⟩
    ·rw[h4] at t0
     go_wp2_with fail
     go_roundw
     case rel=>exact⟨k+1,by omega,by first | rfl | go_num,hok2,hs⟩
     case measure=>simp[intOf];omega
    ·rw[h3] at t0
     rw[hg] at t1
     go_wp2_with fail
     go_roundw
     case rel=>exact⟨k+1,by omega,by first | rfl | go_num,hok2,hs⟩
     case measure=>simp[intOf];omega
   ·obtain⟨n4,n3⟩:=KN hqk
    have f4:(q.kind != 4)=true:=by rw[bne_iff_ne];exact n4
    clear hqk hok htk
    rcases n3 with n3 | hg
    ·have f3:(q.kind != 3)=true:=by rw[bne_iff_ne];exact n3
     go_wp2_with fail
     go_ret
     exact⟨rfl,hs.out.1⟩
    ·rw[hg] at t1
     by_cases n3:q.kind=3
     ·rw[n3] at t0
      go_wp2_with fail
      go_ret
      exact⟨rfl,hs.out.1⟩
     ·have f3:(q.kind != 3)=true:=by rw[bne_iff_ne];exact n3
      go_wp2_with fail
      go_ret
      exact⟨rfl,hs.out.1⟩
  ·obtain rfl:k=pl:=by omega
   have hlt2:¬ ((k:Nat):Int)<(k:Int):=by omega
   have hall:∀q ∈ path,okK q:=by
    have:=hok.out
    rw[List.take_of_length_le (by rw[hpl.out];exact Nat.le_refl _)] at this
    exact this
   have hst:=hs
   have HALL:=hid hall
   clear hok hall hs hlt
   go_upto_region 11 with fail
   by_cases he:ea=0
   rotate_left
   ·have g:((ea:Int) != 0)=true:=by rw[bne_iff_ne];omega
    have hn:=hid (show A1=.null by have h:=Ky (v:=v) (x:=x) (p:=path);rw[hA.out] at h;exact h he)
    obtain⟨k1,g1,a1,l1,c1,e1,s1,aa1,an1,ac1,oa1,on1,oc1,⟨y10,y11,y12,y13,y14,y15,y16⟩,r1⟩:=hst.out.2 (b1,A1) (by simp)
    have C1:=hid (by have h:=xC A1 .null _ _ wr r1 (eu wr);rw[jS hn.out] at h;exact h:Calls Tryz.prog 13 _ wr fun en w'=>en=.returned (.bool true)∧Below wr.heap.size wr w')
    clear he hn
    go_wp2_with fail
    refine C1.out.mono ?_
    rintro en w1 ⟨rfl,hb⟩
    replace hst:=hid (hst.out.stay hb)
    clear hb C1
    go_wp2_with fail
    go_ret
    exact⟨rfl,hst.out.1⟩
   subst he
   have hA0:=hA.out
   obtain⟨ma,mg,ms⟩:=JR HALL.out hA0
   have HMA:=hid ma
   have sA:=hid (JG HALL.out sp.out sv1.out sv.out sx.out hA0)
   have hX:=hXR.out
   rw[mg] at hX
   have hXx:=hid (show XR=x from (congrArg Prod.fst hX).symm)
   have gz:eR=0:=(congrArg Prod.snd hX).symm
   have gR:=hid (show ((eR:Int) == 0)=true by rw[gz];rfl)
   have hC2:=hid (show setPJ A1 path y=(CR,ec) by rw[ms y];exact hC.out)
   clear ma mg ms hA0 hX gz
   go_upto_region 13 with fail
   go_cut [15,16] from 21 (fun v1 v2 w'=>NewJ w w' v1 v2 XR eR [(b2,G1),(b1,A1),(B2,y),(B1,x),(w.heap.size,v)])
   case first =>
    obtain⟨k1,g1,a1,l1,c1,e1,s1,aa1,an1,ac1,oa1,on1,oc1,⟨y10,y11,y12,y13,y14,y15,y16⟩,r1⟩:=hst.out.2 (b1,A1) (by simp)
    have C:=hid (by have h:=zI (Bv NoA A1 path _ pa pc wr xA sA.out (by rw[hpl.out];exact hp.out) (jR r1) (rp.out.below hst.out.1) (HT.out.below hst.out.1));rw[hXR.out] at h;rw[hpl.out] at h;exact h:Calls Tryz.prog 14 _ wr (OutV wr XR eR))
    go_wp2_with fail
    refine C.out.mono ?_
    rintro en w1 ⟨cs1,rfl,rr,hb⟩
    obtain⟨k9,g9,a9,l9,c9,e9,s9,aa9,an9,ac9,oa9,on9,oc9,rfl⟩:=rr.seven
    have hN:Hid (NewJ w _ (.pointer (some ⟨w1.heap.size,0,none⟩)) (.int .i64 eR) XR eR [(b2,G1),(b1,A1),(B2,y),(B1,x),(w.heap.size,v)]):=⟨w1.heap.size,rfl,rfl,hst.out.add hb rr⟩
    unfold valCs at hN
    clear hb rr C
    unfold valCs strV
    go_wp2_with fail
    go_meet
    case rel=>exact hN.out
   case rest =>
   obtain⟨b3,rfl,rfl,g0⟩:=hcut
   replace hst:=hid g0
   clear g0
   go_upto_region 14 with fail
   go_cut [17,18] from 21 (fun v1 v2 w'=>NewJ w w' v1 v2 CR ec [(b3,XR),(b2,G1),(b1,A1),(B2,y),(B1,x),(w.heap.size,v)])
   case first =>
    obtain⟨k1,g1,a1,l1,c1,e1,s1,aa1,an1,ac1,oa1,on1,oc1,⟨y10,y11,y12,y13,y14,y15,y16⟩,r1⟩:=hst.out.2 (b1,A1) (by simp)
    obtain⟨k2,g2,a2,l2,c2,e2,s2,aa2,an2,ac2,oa2,on2,oc2,⟨y20,y21,y22,y23,y24,y25,y26⟩,r2⟩:=hst.out.2 (B2,y) (by simp)
    have C:=hid (by have h:=zI (BA NoA A1 path y _ _ pa pc wc xA sA.out sy.out.al (by rw[hpl.out];exact hp.out) (by rw[hpl.out];exact hc.out) (jR r1) (jR r2) (rp.out.below hst.out.1) (HT.out.below hst.out.1));rw[hC2.out] at h;rw[hpl.out] at h;exact h:Calls Tryz.prog 16 _ wc (OutV wc CR ec))
    go_wp2_with fail
    refine C.out.mono ?_
    rintro en w1 ⟨cs1,rfl,rr,hb⟩
    obtain⟨k9,g9,a9,l9,c9,e9,s9,aa9,an9,ac9,oa9,on9,oc9,rfl⟩:=rr.seven
    have hN:Hid (NewJ w _ (.pointer (some ⟨w1.heap.size,0,none⟩)) (.int .i64 ec) CR ec [(b3,XR),(b2,G1),(b1,A1),(B2,y),(B1,x),(w.heap.size,v)]):=⟨w1.heap.size,rfl,rfl,hst.out.add hb rr⟩
    unfold valCs at hN
    clear hb rr C
    unfold valCs strV
    go_wp2_with fail
    go_meet
    case rel=>exact hN.out
   case rest =>
   obtain⟨b4,rfl,rfl,g0⟩:=hcut
   replace hst:=hid g0
   clear g0
   go_upto_region 15 with fail
   go_cut [19,20] from 21 (fun v1 v2 w'=>NewJ w w' v1 v2 CR ec [(b4,CR),(b3,XR),(b2,G1),(b1,A1),(B2,y),(B1,x),(w.heap.size,v)])
   case first =>
    obtain⟨k1,g1,a1,l1,c1,e1,s1,aa1,an1,ac1,oa1,on1,oc1,⟨y10,y11,y12,y13,y14,y15,y16⟩,r1⟩:=hst.out.2 (w.heap.size,v) (by simp)
    obtain⟨k2,g2,a2,l2,c2,e2,s2,aa2,an2,ac2,oa2,on2,oc2,⟨y20,y21,y22,y23,y24,y25,y26⟩,r2⟩:=hst.out.2 (B2,y) (by simp)
    have C:=hid (by have h:=zI (BA NoA v path y _ _ pa pc wc xA sv.out sy.out.al (by rw[hpl.out];exact hp.out) (by rw[hpl.out];exact hc.out) (jR r1) (jR r2) (rp.out.below hst.out.1) (HT.out.below hst.out.1));rw[hC.out] at h;rw[hpl.out] at h;exact h:Calls Tryz.prog 16 _ wc (OutV wc CR ec))
    go_wp2_with fail
    refine C.out.mono ?_
    rintro en w1 ⟨cs1,rfl,rr,hb⟩
    obtain⟨k9,g9,a9,l9,c9,e9,s9,aa9,an9,ac9,oa9,on9,oc9,rfl⟩:=rr.seven
    have hN:Hid (NewJ w _ (.pointer (some ⟨w1.heap.size,0,none⟩)) (.int .i64 ec) CR ec [(b4,CR),(b3,XR),(b2,G1),(b1,A1),(B2,y),(B1,x),(w.heap.size,v)]):=⟨w1.heap.size,rfl,rfl,hst.out.add hb rr⟩
    unfold valCs at hN
    clear hb rr C
    unfold valCs strV
    go_wp2_with fail
    go_meet
    case rel=>exact hN.out
   case rest =>
   obtain⟨b5,rfl,rfl,g0⟩:=hcut
   replace hst:=hid g0
   clear g0
   replace gR:=gR.out
   have gc:((ec:Int) != (ec:Int))=false:=bne_self_eq_false _
   go_upto_region 18 with fail
   obtain⟨k1,g1,a1,l1,c1,e1,s1,aa1,an1,ac1,oa1,on1,oc1,⟨y10,y11,y12,y13,y14,y15,y16⟩,r1⟩:=hst.out.2 (b3,XR) (by simp)
   obtain⟨k2,g2,a2,l2,c2,e2,s2,aa2,an2,ac2,oa2,on2,oc2,⟨y20,y21,y22,y23,y24,y25,y26⟩,r2⟩:=hst.out.2 (B1,x) (by simp)
   have C1:=hid (by have h:=xC XR x _ _ wc r1 r2;rw[jS hXx.out] at h;exact h:Calls Tryz.prog 13 _ wc fun en w'=>en=.returned (.bool true)∧Below wc.heap.size wc w')
   go_wp2_with fail
   refine C1.out.mono ?_
   rintro en w1 ⟨rfl,hb⟩
   replace hst:=hid (hst.out.stay hb)
   clear hb C1 r1 r2 y10 y11 y12 y13 y14 y15 y16 y20 y21 y22 y23 y24 y25 y26
   obtain⟨k1,g1,a1,l1,c1,e1,s1,aa1,an1,ac1,oa1,on1,oc1,⟨y10,y11,y12,y13,y14,y15,y16⟩,r1⟩:=hst.out.2 (b4,CR) (by simp)
   obtain⟨k2,g2,a2,l2,c2,e2,s2,aa2,an2,ac2,oa2,on2,oc2,⟨y20,y21,y22,y23,y24,y25,y26⟩,r2⟩:=hst.out.2 (b5,CR) (by simp)
   have C1:=hid (by have h:=xC CR CR _ _ w1 r1 r2;rw[jS rfl] at h;exact h:Calls Tryz.prog 13 _ w1 fun en w'=>en=.returned (.bool true)∧Below w1.heap.size w1 w')
   go_wp2_with fail
   refine C1.out.mono ?_
   rintro en w2 ⟨rfl,hb⟩
   replace hst:=hid (hst.out.stay hb)
   clear hb C1 r1 r2 y10 y11 y12 y13 y14 y15 y16 y20 y21 y22 y23 y24 y25 y26
   obtain⟨k1,g1,a1,l1,c1,e1,s1,aa1,an1,ac1,oa1,on1,oc1,⟨y10,y11,y12,y13,y14,y15,y16⟩,r1⟩:=hst.out.2 (b1,A1) (by simp)
   have CM:=hid (by have h:=dE A1 _ w2 r1 (HT.out.below hst.out.1);rw[HMA.out] at h;exact h:Calls Tryz.prog 20 _ w2 fun en w'=>en=.returned (.bool true)∧Below w2.heap.size w2 w')
   go_wp2_with fail
   refine CM.out.mono ?_
   rintro en w3 ⟨rfl,hb⟩
   replace hst:=hid (hst.out.stay hb)
   clear hb CM
   go_wp2_with fail
   go_ret
   exact⟨rfl,hst.out.1⟩
end Go.Proofs.YtcgbmmalfbpjaaaGreatDoor
