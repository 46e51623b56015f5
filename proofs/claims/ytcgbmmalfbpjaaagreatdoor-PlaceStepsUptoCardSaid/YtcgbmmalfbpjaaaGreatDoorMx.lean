/-  -/
import Derived.Test.YtcgbmmalfbpjaaaGreatDoorMw
namespace Go.Proofs.YtcgbmmalfbpjaaaGreatDoor
open Go.RowKit Go.Sort
theorem qBE {α:Type}{l:List α}{t:Nat}{p:α}(h:l[t]? = some p):(l.take (t+1)).getLast? = some p:=by
 obtain⟨ht,e⟩:=List.getElem?_eq_some_iff.1 h
 rw[List.take_succ_eq_append_getElem ht,List.getLast?_append,List.getLast?_singleton,e]
 rfl
theorem qCV {α:Type}{l:List α}{t:Nat}{p:α}(h:l[t]? = some p):(l.drop t).head? = some p:=by
 rw[List.head?_drop]
 exact h
theorem qM6 {α:Type}(X A Z:List α)(x:α):X ++ A.take 0 ++ x :: (A.drop 0 ++ Z)=X ++ x :: (A ++ Z):=by simp
theorem qIv {α:Type}(X A Z:List α)(x:α):X ++ A.take A.length ++ x :: (A.drop A.length ++ Z)=X ++ A ++ x :: Z:=by simp
set_option maxRecDepth 100000 in
set_option maxHeartbeats 12000000 in
theorem qM7 {w0:World}(g:Nat)(eg:∀args w,(callFunc g args).run Tryz.prog w=.ok (.enter g args) w)(hC:CmpC w0 g)(gb off cap:Nat)(X R Y:List (VT w0))(x:VT w0)(a m b L:Nat)(w:World)(ha:X.length=a)(hm:m=a+1)(hb:b=m+R.length)(hL:(X ++ (x :: R) ++ Y).length=L)(hLs:L≤1048576)
  (hS:Stab veC R)(ht:∀p ∈ R,x.2<p.2)(h:HoldV gb off (X ++ (x :: R) ++ Y) w) :
  Calls Tryz.prog 135 #[.slice (some ⟨gb,off,none⟩) L cap,.int .i64 a,.int .i64 m,.int .i64 b,.func (.func g) #[] #[]] w fun e w'=>e=.returned (.tuple #[])∧∃S':List (VT w0),S'.Perm (x :: R)∧Stab veC S'∧HoldV gb off (X ++ S' ++ Y) w':=by
 obtain⟨G,hG⟩:∃G:List (VT w0)→World→Prop,G=fun S' W=>HoldV gb off (X ++ S' ++ Y) W:=⟨_,rfl⟩
 show Calls _ _ _ w fun e w'=>e=.returned (.tuple #[])∧∃S':List (VT w0),S'.Perm (x :: R)∧Stab veC S'∧(fun S' W=>HoldV gb off (X ++ S' ++ Y) W) S' w'
 rw[←hG]
 have hfin:=hid (fun wr (S':List (VT w0)) (h:HoldV gb off (X ++ S' ++ Y) wr)=>(by rw[hG];exact h:G S' wr))
 clear hG
 obtain⟨T0,hT0⟩:∃T0,T0=X ++ (x :: R) ++ Y:=⟨_,rfl⟩
 have hlen:X.length+(R.length+1)+Y.length=L:=by rw[←hL];simp;omega
 have hx0:T0[a]? = some x:=by rw[hT0,←ha];simp
 have hr0:=hid (show ∀(t:Nat) (p:VT w0),R[t]? = some p→T0[m+t]? = some p by
  intro t p hp
  have hlt:=(List.getElem?_eq_some_iff.1 hp).1
  rw[hT0,show X ++ (x :: R) ++ Y=(X ++ [x]) ++ (R ++ Y) by simp,List.getElem?_append_right (by simp;omega),show m+t-(X ++ [x]).length=t by simp;omega,List.getElem?_append_left hlt]
  exact hp)
 have hT1:=hid hT0
 rw[←hT0] at h
 replace hC:=hid hC
 have h0:=hid h
 have hbL:b≤L:=by omega
 have haL:a<L:=by omega
 have haL2:(a:Int)<(L:Int):=by omega
 have hw1:IntKind.i64.wrap ((m:Int)-(a:Int))=1:=by rw[IntWalk.i64_in _ (by omega)];omega
 have hlast0:=hid (show ∀p ∈ (R.take 0).getLast?,veC p.1 x.1<0 by intro p hp;simp at hp)
 have hhead0:=hid (show ∀t,t=R.length→∀q ∈ (R.drop t).head?,0≤veC q.1 x.1 by
  intro t e q hq
  rw[List.drop_of_length_le (by omega)] at hq
  cases hq)
 have hend:=hid (show ∀(r:Nat),r≤R.length→(∀p ∈ (R.take r).getLast?,veC p.1 x.1<0)→(∀q ∈ (R.drop r).head?,0≤veC q.1 x.1)→(R.take r ++ x :: R.drop r).Perm (x :: R)∧Stab veC (R.take r ++ x :: R.drop r) by
  intro r hr k1 k2
  refine⟨List.perm_middle.trans (by rw[List.take_append_drop]),qFM qFd (fun _ _=>trivial) trivial (by rw[List.take_append_drop];exact hS) (by rw[List.take_append_drop];exact ht) k1 (fun q hq=>Int.not_lt.2 (k2 q hq))⟩)
 have hmid:=hid (show ∀r,r≤R.length→Mid a L (R.take r) x (fun t=>X ++ (R.take r).take t ++ x :: ((R.take r).drop t ++ (R.drop r ++ Y))) by
  intro r hr
  exact qLr X (R.take r) (R.drop r ++ Y) x a L ha (by simp only[List.length_append,List.length_take,List.length_drop];omega))
 replace hx0:=hid hx0
 obtain⟨n,hn⟩:∃n,n=R.length:=⟨_,rfl⟩
 have hn2:=hid hn
 rw[←hn] at hb hend hhead0 hmid
 have hLen:=hid (show T0.length=L by rw[hT0];exact hL)
 have hma:a<m:=by omega
 have hmb:m≤b:=by omega
 have hmB:=hid hm
 have hbB:=hid hb
 clear h hL hS ht ha hT0 hlen hn hm hb
 replace hmid:=hid hmid.out
 go_enter Tryz.func135,Tryz.ntmps135
 go_upto_region 3 with fail
 go_loopw [10,11] (fun v10 v11 wr=>∃i j ri rj:Nat,Hid (i=m+ri)∧Hid (j=m+rj)∧i≤j∧m≤i∧j≤b∧v10=.int .i64 i∧v11=.int .i64 j∧Hid (∀p ∈ (R.take ri).getLast?,veC p.1 x.1<0)∧Hid (∀q ∈ (R.drop rj).head?,0≤veC q.1 x.1)∧Hid (HoldV gb off T0 wr)) (fun v10 v11 _=>(intOf v11-intOf v10).toNat)
 case atStart=>exact⟨m,b,0,n,hid rfl,hbB,hmb,Nat.le_refl _,Nat.le_refl _,rfl,rfl,hlast0,hid (hhead0.out n rfl),h0⟩
 case round =>
  clear h0 hlast0 hhead0
  obtain⟨i,j,ri,rj,hi,hj,hij,hmi,hjb,rfl,rfl,hA,hB,hH⟩:=hrel
  by_cases hlt:i<j
  ·have hlt2:(i:Int)<(j:Int):=by omega
   go_upto_region 4 with fail
   go_cut [12] from 31 to 53 (fun v12 w'=>∃h:Nat,v12=.int .i64 h∧i≤h∧h<j∧Hid (HoldV gb off T0 w'))
   case first =>
    go_wp2_with fail
    go_meet
    case rel=>exact⟨(i+j) / 2,by go_num,by omega,by omega,hH⟩
   case rest =>
   clear hH
   obtain⟨h,rfl,hih,hhj,hH⟩:=hcut
   obtain⟨rh,hrh⟩:∃rh,rh=h-m:=⟨_,rfl⟩
   have hrn:rh<n:=by have:=hbB.out;omega
   have hhm:h=m+rh:=by omega
   obtain⟨p,hp⟩:∃p,R[rh]? = some p:=⟨_,List.getElem?_eq_getElem (by have:=hn2.out;omega)⟩
   have hp1:=hr0.out rh p hp
   rw[←hhm] at hp1
   have hhL:h<L:=by omega
   have hhL2:(h:Int)<(L:Int):=by omega
   have hC0:=hid (fun W' (hb:Below wc.heap.size wc W')=>hC.out p x W' (qAa hH.out.2.1 hb))
   obtain⟨d,hd⟩:∃d,d=veC p.1 x.1:=⟨_,rfl⟩
   rw[←hd] at hC0
   obtain⟨k1,q1,a1,n1,z1,w1,s1,aa1,an1,ac1,oa1,on1,oc1,ex⟩:=qAN p
   obtain⟨k2,q2,a2,n2,z2,w2,s2,aa2,an2,ac2,oa2,on2,oc2,ey⟩:=qAN x
   unfold valCs strV at ex ey
   generalize (⟨s1.toArray⟩:ByteArray)=sb1 at ex
   generalize (⟨s2.toArray⟩:ByteArray)=sb2 at ey
   rw[ex,ey] at hC0
   obtain⟨c0,c1,c2,c3,c4,c5,c6⟩:=hH.out.cells hp1 ex
   obtain⟨d0,d1,d2,d3,d4,d5,d6⟩:=hH.out.cells hx0.out ey
   have hlast:=hid (qBE hp)
   have hhead:=hid (qCV hp)
   have hstay:=hid (fun W' (hb:Below wc.heap.size wc W')=>hH.out.stay hb)
   have hDD:=hid hd
   have hhm2:=hid hhm
   clear hp1 hp hd ex ey hH hrh hhm hmid hend hr0
   by_cases hneg:d<0
   ·have hA2:Hid (∀p ∈ (R.take (rh+1)).getLast?,veC p.1 x.1<0):=by
     intro q hq
     rw[hlast.out] at hq
     injection hq with hq
     rw[←hq,←hDD.out]
     exact hneg
    have hi2:Hid (h+1=m+(rh+1)):=by have:=hhm2.out;show _=_;omega
    clear hA hlast hhead hDD
    go_wp2_with fail
    go_region_held3 (fun W'=>W'.cell? ⟨gb,off+h * 7,none⟩=some (.int .i64 k1)∧W'.cell? ⟨gb,off+h * 7+1,none⟩=some (.bool q1)∧W'.cell? ⟨gb,off+h * 7+2,none⟩=some (.slice a1 n1 z1)∧W'.cell? ⟨gb,off+h * 7+3,none⟩=some (.int .i64 w1)∧W'.cell? ⟨gb,off+h * 7+4,none⟩=some (.string sb1)∧W'.cell? ⟨gb,off+h * 7+5,none⟩=some (.slice aa1 an1 ac1)∧W'.cell? ⟨gb,off+h * 7+6,none⟩=some (.slice oa1 on1 oc1)∧W'.cell? ⟨gb,off+a * 7,none⟩=some (.int .i64 k2)∧W'.cell? ⟨gb,off+a * 7+1,none⟩=some (.bool q2)∧W'.cell? ⟨gb,off+a * 7+2,none⟩=some (.slice a2 n2 z2)∧W'.cell? ⟨gb,off+a * 7+3,none⟩=some (.int .i64 w2)∧W'.cell? ⟨gb,off+a * 7+4,none⟩=some (.string sb2)∧W'.cell? ⟨gb,off+a * 7+5,none⟩=some (.slice aa2 an2 ac2)∧W'.cell? ⟨gb,off+a * 7+6,none⟩=some (.slice oa2 on2 oc2)∧Below wc.heap.size wc W') (first | (exact⟨c0,c1,c2,c3,c4,c5,c6,d0,d1,d2,d3,d4,d5,d6,(Below.refl _ _).drew⟩) | (exact qDt (by assumption) (by assumption)) | assumption) ((go_at_fn g;(with_reducible refine (hC0.out _ ?_).mono ?_);(simp only[*]);rintro e3 w3 ⟨rfl,hb3⟩))
    all_goals
     rename_i hHeld
     have hb3:=hid (hHeld.2.2.2.2.2.2.2.2.2.2.2.2.2.2)
     clear hHeld c0 c1 c2 c3 c4 c5 c6 d0 d1 d2 d3 d4 d5 d6
     have hH3:=hid (hstay.out _ hb3.out)
     go_wp2_with fail
     go_roundw
     case rel=>exact⟨h+1,j,rh+1,rj,hi2,hj,by omega,by omega,hjb,by go_num,rfl,hA2,hB,hH3⟩
     case measure=>simp[intOf];omega
   ·have hB2:Hid (∀q ∈ (R.drop rh).head?,0≤veC q.1 x.1):=by
     intro q hq
     rw[hhead.out] at hq
     injection hq with hq
     rw[←hq,←hDD.out]
     exact Int.not_lt.1 hneg
    clear hB hlast hhead hDD
    go_wp2_with fail
    go_region_held3 (fun W'=>W'.cell? ⟨gb,off+h * 7,none⟩=some (.int .i64 k1)∧W'.cell? ⟨gb,off+h * 7+1,none⟩=some (.bool q1)∧W'.cell? ⟨gb,off+h * 7+2,none⟩=some (.slice a1 n1 z1)∧W'.cell? ⟨gb,off+h * 7+3,none⟩=some (.int .i64 w1)∧W'.cell? ⟨gb,off+h * 7+4,none⟩=some (.string sb1)∧W'.cell? ⟨gb,off+h * 7+5,none⟩=some (.slice aa1 an1 ac1)∧W'.cell? ⟨gb,off+h * 7+6,none⟩=some (.slice oa1 on1 oc1)∧W'.cell? ⟨gb,off+a * 7,none⟩=some (.int .i64 k2)∧W'.cell? ⟨gb,off+a * 7+1,none⟩=some (.bool q2)∧W'.cell? ⟨gb,off+a * 7+2,none⟩=some (.slice a2 n2 z2)∧W'.cell? ⟨gb,off+a * 7+3,none⟩=some (.int .i64 w2)∧W'.cell? ⟨gb,off+a * 7+4,none⟩=some (.string sb2)∧W'.cell? ⟨gb,off+a * 7+5,none⟩=some (.slice aa2 an2 ac2)∧W'.cell? ⟨gb,off+a * 7+6,none⟩=some (.slice oa2 on2 oc2)∧Below wc.heap.size wc W') (first | (exact⟨c0,c1,c2,c3,c4,c5,c6,d0,d1,d2,d3,d4,d5,d6,(Below.refl _ _).drew⟩) | (exact qDt (by assumption) (by assumption)) | assumption) ((go_at_fn g;(with_reducible refine (hC0.out _ ?_).mono ?_);(simp only[*]);rintro e3 w3 ⟨rfl,hb3⟩))
    all_goals
     rename_i hHeld
     have hb3:=hid (hHeld.2.2.2.2.2.2.2.2.2.2.2.2.2.2)
     clear hHeld c0 c1 c2 c3 c4 c5 c6 d0 d1 d2 d3 d4 d5 d6
     have hH3:=hid (hstay.out _ hb3.out)
     go_wp2_with fail
     go_roundw
     case rel=>exact⟨i,h,ri,rh,hi,hhm2,by omega,by omega,by omega,rfl,by go_num,hA,hB2,hH3⟩
     case measure=>simp[intOf];omega
  ·obtain rfl:i=j:=by omega
   have hlt2:¬ (i:Int)<(i:Int):=by omega
   have hrr:ri=rj:=by have h1:=hi.out;have h2:=hj.out;omega
   subst hrr
   have hrn:ri≤n:=by have h1:=hi.out;have h2:=hbB.out;omega
   have hP:=hid (hend.out ri hrn hA.out hB.out)
   have hM:=hid (hmid.out ri hrn)
   have hlenA:=hid (show (R.take ri).length=ri by rw[List.length_take];have:=hn2.out;omega)
   have hz0:Hid (HoldV gb off ((fun t=>X ++ (R.take ri).take t ++ x :: ((R.take ri).drop t ++ (R.drop ri ++ Y))) 0) wr):=by
    show HoldV gb off (X ++ (R.take ri).take 0 ++ x :: ((R.take ri).drop 0 ++ (R.drop ri ++ Y))) wr
    rw[qM6,←List.append_assoc (R.take ri),List.take_append_drop]
    have:=hH.out
    rw[hT1.out] at this
    simpa using this
   have hze:Hid (∀wr',HoldV gb off ((fun t=>X ++ (R.take ri).take t ++ x :: ((R.take ri).drop t ++ (R.drop ri ++ Y))) ri) wr'→G (R.take ri ++ x :: R.drop ri) wr'):=by
    intro wr' hh
    refine hfin.out wr' _ ?_
    have hh2:HoldV gb off (X ++ (R.take ri).take ri ++ x :: ((R.take ri).drop ri ++ (R.drop ri ++ Y))) wr':=hh
    have e:=qIv X (R.take ri) (R.drop ri ++ Y) x
    rw[hlenA.out] at e
    rw[e] at hh2
    simpa using hh2
   generalize (fun t=>X ++ (R.take ri).take t ++ x :: ((R.take ri).drop t ++ (R.drop ri ++ Y)))=T at hM hz0 hze
   generalize R.take ri ++ x :: R.drop ri=Q at hP hze
   generalize hRA:R.take ri=A at hM hlenA
   clear hRA hend hmid hA hB hH hr0 hx0 hT1 hfin hLen
   obtain⟨e,he⟩:∃e,e=a+ri:=⟨_,rfl⟩
   obtain rfl:i=e+1:=by have:=hi.out;have:=hmB.out;omega
   have heB:=hid he
   have hae:a≤e:=by omega
   have hwe:IntKind.i64.wrap (e:Int)=(e:Int):=by rw[IntKind.wrap_i64];omega
   have hwe2:IntKind.i64.wrap ((e:Int)+1-1)=(e:Int):=by rw[IntKind.wrap_i64];omega
   clear hi hj hw1 he
   go_upto_region 9 with fail
   go_loopw [13] (fun v13 wr=>∃t K:Nat,t≤ri∧Hid (K=a+t)∧K≤e∧v13=.int .i64 K∧Hid (HoldV gb off (T t) wr)) (fun v13 _=>e-(intOf v13).toNat)
   case atStart=>exact⟨0,a,Nat.zero_le _,hid rfl,hae,rfl,hz0⟩
   case round =>
    clear hz0
    obtain⟨t,K,htr,hK,hKe,rfl,hH⟩:=hrel
    by_cases hlt3:K<e
    ·have hlt4:(K:Int)<(e:Int):=by omega
     have hKt:=hK.out
     have htl:t<A.length:=by have:=hlenA.out;have:=heB.out;omega
     have hx1:=hM.out.atx t (by omega)
     have hp1:=hM.out.after t htl
     have hsw:=hM.out.up t htl
     have hlT:(T t).length=L:=hM.out.len t (by omega)
     have hKL:K+1<L:=by omega
     have hKL2:(K:Int)+1<(L:Int):=by omega
     have hKL3:(K:Int)<(L:Int):=by omega
     rw[show a+t+1=K+1 by omega] at hp1 hsw
     rw[←hKt] at hsw hx1
     obtain⟨p,hp⟩:∃p,A[t]? = some p:=⟨_,List.getElem?_eq_getElem htl⟩
     rw[hp] at hp1
     obtain⟨k1,q1,a1,n1,z1,w1,s1,aa1,an1,ac1,oa1,on1,oc1,ex⟩:=qAN x
     obtain⟨k2,q2,a2,n2,z2,w2,s2,aa2,an2,ac2,oa2,on2,oc2,ey⟩:=qAN p
     unfold valCs strV at ex ey
     generalize (⟨s1.toArray⟩:ByteArray)=sb1 at ex
     generalize (⟨s2.toArray⟩:ByteArray)=sb2 at ey
     obtain⟨c0,c1,c2,c3,c4,c5,c6⟩:=hH.out.cells hx1 ex
     obtain⟨d0,d1,d2,d3,d4,d5,d6⟩:=hH.out.cells hp1 ey
     have f1:=hH.out.frozen (i:=K) (by rw[hlT];omega)
     have f2:=hH.out.frozen (i:=(K+1)) (by rw[hlT];omega)
     have e1:=hid (hH.out.swap7 hx1 hp1 hsw ex ey)
     have u0:=f1 0 (by omega)
     have u1:=f1 1 (by omega)
     have u2:=f1 2 (by omega)
     have u3:=f1 3 (by omega)
     have u4:=f1 4 (by omega)
     have u5:=f1 5 (by omega)
     have u6:=f1 6 (by omega)
     have v0:=f2 0 (by omega)
     have v1:=f2 1 (by omega)
     have v2:=f2 2 (by omega)
     have v3:=f2 3 (by omega)
     have v4:=f2 4 (by omega)
     have v5:=f2 5 (by omega)
     have v6:=f2 6 (by omega)
     rw[Nat.add_zero] at u0 v0
     have hK2:Hid (K+1=a+(t+1)):=by show _=_;omega
     have htr2:t+1≤ri:=by have:=hlenA.out;omega
     clear f1 f2 hx1 hp1 hp ex ey hH hsw hKt hM hlT hze hP
     have mixed:Tryz.prog.follows .mixedOrders=true:=by kernel_rfl
     go_wp2_with fail
     go_big_region_o
     all_goals
      go_wp2_with fail
      go_roundw
      case rel=>exact⟨t+1,K+1,htr2,hK2,by omega,by go_num,e1⟩
      case measure=>first | (simp[intOf];done) | (simp[intOf];omega)
    ·obtain rfl:K=e:=by omega
     have hlt4:¬ (K:Int)<(K:Int):=by omega
     obtain rfl:t=ri:=by have:=hK.out;have:=heB.out;omega
     have hF:=hid (hze.out _ hH.out)
     clear hze hH
     go_wp2_with fail
     refine bodyPost_ret (results_none rfl _ _ _) rfl ?_
     exact⟨rfl,Q,hP.out.1,hP.out.2,hF.out⟩
set_option maxRecDepth 100000 in
set_option maxHeartbeats 12000000 in
theorem qLs {w0:World}(g:Nat)(eg:∀args w,(callFunc g args).run Tryz.prog w=.ok (.enter g args) w)(hC:CmpC w0 g)(gb off cap:Nat)(X A Y:List (VT w0))(x:VT w0)(a m b L:Nat)(w:World)(ha:X.length=a)(hm:m=a+A.length)(hA1:1<A.length)(hb:b=m+1)(hL:(X ++ (A ++ [x]) ++ Y).length=L)(hLs:L≤1048576)
  (hS:Stab veC A)(ht:∀p ∈ A,p.2<x.2)(h:HoldV gb off (X ++ (A ++ [x]) ++ Y) w) :
  Calls Tryz.prog 135 #[.slice (some ⟨gb,off,none⟩) L cap,.int .i64 a,.int .i64 m,.int .i64 b,.func (.func g) #[] #[]] w fun e w'=>e=.returned (.tuple #[])∧∃S':List (VT w0),S'.Perm (A ++ [x])∧Stab veC S'∧HoldV gb off (X ++ S' ++ Y) w':=by
 obtain⟨G,hG⟩:∃G:List (VT w0)→World→Prop,G=fun S' W=>HoldV gb off (X ++ S' ++ Y) W:=⟨_,rfl⟩
 show Calls _ _ _ w fun e w'=>e=.returned (.tuple #[])∧∃S':List (VT w0),S'.Perm (A ++ [x])∧Stab veC S'∧(fun S' W=>HoldV gb off (X ++ S' ++ Y) W) S' w'
 rw[←hG]
 have hfin:=hid (fun wr (S':List (VT w0)) (h:HoldV gb off (X ++ S' ++ Y) wr)=>(by rw[hG];exact h:G S' wr))
 clear hG
 obtain⟨T0,hT0⟩:∃T0,T0=X ++ (A ++ [x]) ++ Y:=⟨_,rfl⟩
 have hlen:X.length+(A.length+1)+Y.length=L:=by rw[←hL];simp;omega
 have hx0:T0[m]? = some x:=by
  rw[hT0,show X ++ (A ++ [x]) ++ Y=(X ++ A) ++ x :: Y by simp,List.getElem?_append_right (by simp;omega),show m-(X ++ A).length=0 by simp;omega]
  rfl
 have hr0:=hid (show ∀(t:Nat) (p:VT w0),A[t]? = some p→T0[a+t]? = some p by
  intro t p hp
  have hlt:=(List.getElem?_eq_some_iff.1 hp).1
  rw[hT0,show X ++ (A ++ [x]) ++ Y=X ++ (A ++ ([x] ++ Y)) by simp,List.getElem?_append_right (by omega),show a+t-X.length=t by omega,List.getElem?_append_left hlt]
  exact hp)
 have hT1:=hid hT0
 rw[←hT0] at h
 replace hC:=hid hC
 have h0:=hid h
 have hbL:b≤L:=by omega
 have hmL:m<L:=by omega
 have hmL2:(m:Int)<(L:Int):=by omega
 obtain⟨n,hn⟩:∃n,n=A.length:=⟨_,rfl⟩
 have hn2:=hid hn
 rw[←hn] at hm hA1
 have hw1:IntKind.i64.wrap ((m:Int)-(a:Int))=(n:Int):=by rw[IntWalk.i64_in _ (by omega)];omega
 have hw2:((n:Int) == 1)=false:=by rw[beq_eq_false_iff_ne];omega
 have hw3:IntKind.i64.wrap ((b:Int)-(m:Int))=1:=by rw[IntWalk.i64_in _ (by omega)];omega
 have hlast0:=hid (show ∀p ∈ (A.take 0).getLast?,0≤veC x.1 p.1 by intro p hp;simp at hp)
 have hhead0:=hid (show ∀t,t=n→∀q ∈ (A.drop t).head?,veC x.1 q.1<0 by
  intro t e q hq
  rw[List.drop_of_length_le (by omega)] at hq
  cases hq)
 have hend:=hid (show ∀(r:Nat),r≤n→(∀p ∈ (A.take r).getLast?,0≤veC x.1 p.1)→(∀q ∈ (A.drop r).head?,veC x.1 q.1<0)→(A.take r ++ x :: A.drop r).Perm (A ++ [x])∧Stab veC (A.take r ++ x :: A.drop r) by
  intro r hr k1 k2
  refine⟨List.perm_middle.trans (by rw[List.take_append_drop];exact (List.perm_append_singleton x A).symm),qEP qFd (fun _ _=>trivial) trivial (by rw[List.take_append_drop];exact hS) (by rw[List.take_append_drop];exact ht) (fun p hp=>Int.not_lt.2 (k1 p hp)) k2⟩)
 have hM:=hid (qLr X A Y x a L ha (by omega))
 replace hx0:=hid hx0
 have hLen:=hid (show T0.length=L by rw[hT0];exact hL)
 have hzn:Hid (∀t,t=n→HoldV gb off ((fun t=>X ++ A.take t ++ x :: (A.drop t ++ Y)) t)=HoldV gb off T0):=by
  intro t e
  show HoldV gb off (X ++ A.take t ++ x :: (A.drop t ++ Y))=_
  rw[e,hn,qIv X A Y x,hT0]
  simp
 have hze:Hid (∀t wr',HoldV gb off ((fun t=>X ++ A.take t ++ x :: (A.drop t ++ Y)) t) wr'→G (A.take t ++ x :: A.drop t) wr'):=by
  intro t wr' hh
  refine hfin.out wr' _ ?_
  have hh2:HoldV gb off (X ++ A.take t ++ x :: (A.drop t ++ Y)) wr':=hh
  simpa using hh2
 generalize (fun t=>X ++ A.take t ++ x :: (A.drop t ++ Y))=T at hM hzn hze
 have hma:a+1<m:=by omega
 have hmb:m<b:=by omega
 have hmB:=hid hm
 clear h hL hS ht ha hT0 hlen hn hm hb hfin hT1
 go_enter Tryz.func135,Tryz.ntmps135
 go_upto_region 15 with fail
 go_loopw [14,15] (fun v10 v11 wr=>∃i j ri rj:Nat,Hid (i=a+ri)∧Hid (j=a+rj)∧i≤j∧a≤i∧j≤m∧v10=.int .i64 i∧v11=.int .i64 j∧Hid (∀p ∈ (A.take ri).getLast?,0≤veC x.1 p.1)∧Hid (∀q ∈ (A.drop rj).head?,veC x.1 q.1<0)∧Hid (HoldV gb off T0 wr)) (fun v10 v11 _=>(intOf v11-intOf v10).toNat)
 case atStart=>exact⟨a,m,0,n,hid rfl,hmB,by omega,Nat.le_refl _,Nat.le_refl _,rfl,rfl,hlast0,hid (hhead0.out n rfl),h0⟩
 case round =>
  clear h0 hlast0 hhead0
  obtain⟨i,j,ri,rj,hi,hj,hij,hmi,hjb,rfl,rfl,hA,hB,hH⟩:=hrel
  by_cases hlt:i<j
  ·have hlt2:(i:Int)<(j:Int):=by omega
   go_upto_region 16 with fail
   go_cut [16] from 83 to 106 (fun v12 w'=>∃h:Nat,v12=.int .i64 h∧i≤h∧h<j∧Hid (HoldV gb off T0 w'))
   case first =>
    go_wp2_with fail
    go_meet
    case rel=>exact⟨(i+j) / 2,by go_num,by omega,by omega,hH⟩
   case rest =>
   clear hH
   obtain⟨h,rfl,hih,hhj,hH⟩:=hcut
   obtain⟨rh,hrh⟩:∃rh,rh=h-a:=⟨_,rfl⟩
   have hrn:rh<n:=by have:=hmB.out;omega
   have hhm:h=a+rh:=by omega
   obtain⟨p,hp⟩:∃p,A[rh]? = some p:=⟨_,List.getElem?_eq_getElem (by have:=hn2.out;omega)⟩
   have hp1:=hr0.out rh p hp
   rw[←hhm] at hp1
   have hhL:h<L:=by omega
   have hhL2:(h:Int)<(L:Int):=by omega
   have hC0:=hid (fun W' (hb:Below wc.heap.size wc W')=>hC.out x p W' (qAa hH.out.2.1 hb))
   obtain⟨d,hd⟩:∃d,d=veC x.1 p.1:=⟨_,rfl⟩
   rw[←hd] at hC0
   obtain⟨k1,q1,a1,n1,z1,w1,s1,aa1,an1,ac1,oa1,on1,oc1,ex⟩:=qAN x
   obtain⟨k2,q2,a2,n2,z2,w2,s2,aa2,an2,ac2,oa2,on2,oc2,ey⟩:=qAN p
   unfold valCs strV at ex ey
   generalize (⟨s1.toArray⟩:ByteArray)=sb1 at ex
   generalize (⟨s2.toArray⟩:ByteArray)=sb2 at ey
   rw[ex,ey] at hC0
   obtain⟨c0,c1,c2,c3,c4,c5,c6⟩:=hH.out.cells hx0.out ex
   obtain⟨d0,d1,d2,d3,d4,d5,d6⟩:=hH.out.cells hp1 ey
   have hlast:=hid (qBE hp)
   have hhead:=hid (qCV hp)
   have hstay:=hid (fun W' (hb:Below wc.heap.size wc W')=>hH.out.stay hb)
   have hDD:=hid hd
   have hhm2:=hid hhm
   clear hp1 hp hd ex ey hH hrh hhm hM hend hr0 hze hzn
   by_cases hneg:d<0
   ·have hd1:decide (d<0)=true:=decide_eq_true hneg
    have hB2:Hid (∀q ∈ (A.drop rh).head?,veC x.1 q.1<0):=by
     intro q hq
     rw[hhead.out] at hq
     injection hq with hq
     rw[←hq,←hDD.out]
     exact hneg
    clear hB hlast hhead hDD
    go_wp2_with fail
    go_region_held3 (fun W'=>W'.cell? ⟨gb,off+m * 7,none⟩=some (.int .i64 k1)∧W'.cell? ⟨gb,off+m * 7+1,none⟩=some (.bool q1)∧W'.cell? ⟨gb,off+m * 7+2,none⟩=some (.slice a1 n1 z1)∧W'.cell? ⟨gb,off+m * 7+3,none⟩=some (.int .i64 w1)∧W'.cell? ⟨gb,off+m * 7+4,none⟩=some (.string sb1)∧W'.cell? ⟨gb,off+m * 7+5,none⟩=some (.slice aa1 an1 ac1)∧W'.cell? ⟨gb,off+m * 7+6,none⟩=some (.slice oa1 on1 oc1)∧W'.cell? ⟨gb,off+h * 7,none⟩=some (.int .i64 k2)∧W'.cell? ⟨gb,off+h * 7+1,none⟩=some (.bool q2)∧W'.cell? ⟨gb,off+h * 7+2,none⟩=some (.slice a2 n2 z2)∧W'.cell? ⟨gb,off+h * 7+3,none⟩=some (.int .i64 w2)∧W'.cell? ⟨gb,off+h * 7+4,none⟩=some (.string sb2)∧W'.cell? ⟨gb,off+h * 7+5,none⟩=some (.slice aa2 an2 ac2)∧W'.cell? ⟨gb,off+h * 7+6,none⟩=some (.slice oa2 on2 oc2)∧Below wc.heap.size wc W') (first | (exact⟨c0,c1,c2,c3,c4,c5,c6,d0,d1,d2,d3,d4,d5,d6,(Below.refl _ _).drew⟩) | (exact qDt (by assumption) (by assumption)) | assumption) ((go_at_fn g;(with_reducible refine (hC0.out _ ?_).mono ?_);(simp only[*]);rintro e3 w3 ⟨rfl,hb3⟩))
    all_goals
     rename_i hHeld
     have hb3:=hid (hHeld.2.2.2.2.2.2.2.2.2.2.2.2.2.2)
     clear hHeld c0 c1 c2 c3 c4 c5 c6 d0 d1 d2 d3 d4 d5 d6
     have hH3:=hid (hstay.out _ hb3.out)
     go_wp2_with fail
     go_roundw
     case rel=>exact⟨i,h,ri,rh,hi,hhm2,by omega,by omega,by omega,rfl,by go_num,hA,hB2,hH3⟩
     case measure=>simp[intOf];omega
   ·have hd1:decide (d<0)=false:=decide_eq_false hneg
    have hA2:Hid (∀p ∈ (A.take (rh+1)).getLast?,0≤veC x.1 p.1):=by
     intro q hq
     rw[hlast.out] at hq
     injection hq with hq
     rw[←hq,←hDD.out]
     exact Int.not_lt.1 hneg
    have hi2:Hid (h+1=a+(rh+1)):=by have:=hhm2.out;show _=_;omega
    clear hA hlast hhead hDD
    go_wp2_with fail
    go_region_held3 (fun W'=>W'.cell? ⟨gb,off+m * 7,none⟩=some (.int .i64 k1)∧W'.cell? ⟨gb,off+m * 7+1,none⟩=some (.bool q1)∧W'.cell? ⟨gb,off+m * 7+2,none⟩=some (.slice a1 n1 z1)∧W'.cell? ⟨gb,off+m * 7+3,none⟩=some (.int .i64 w1)∧W'.cell? ⟨gb,off+m * 7+4,none⟩=some (.string sb1)∧W'.cell? ⟨gb,off+m * 7+5,none⟩=some (.slice aa1 an1 ac1)∧W'.cell? ⟨gb,off+m * 7+6,none⟩=some (.slice oa1 on1 oc1)∧W'.cell? ⟨gb,off+h * 7,none⟩=some (.int .i64 k2)∧W'.cell? ⟨gb,off+h * 7+1,none⟩=some (.bool q2)∧W'.cell? ⟨gb,off+h * 7+2,none⟩=some (.slice a2 n2 z2)∧W'.cell? ⟨gb,off+h * 7+3,none⟩=some (.int .i64 w2)∧W'.cell? ⟨gb,off+h * 7+4,none⟩=some (.string sb2)∧W'.cell? ⟨gb,off+h * 7+5,none⟩=some (.slice aa2 an2 ac2)∧W'.cell? ⟨gb,off+h * 7+6,none⟩=some (.slice oa2 on2 oc2)∧Below wc.heap.size wc W') (first | (exact⟨c0,c1,c2,c3,c4,c5,c6,d0,d1,d2,d3,d4,d5,d6,(Below.refl _ _).drew⟩) | (exact qDt (by assumption) (by assumption)) | assumption) ((go_at_fn g;(with_reducible refine (hC0.out _ ?_).mono ?_);(simp only[*]);rintro e3 w3 ⟨rfl,hb3⟩))
    all_goals
     rename_i hHeld
     have hb3:=hid (hHeld.2.2.2.2.2.2.2.2.2.2.2.2.2.2)
     clear hHeld c0 c1 c2 c3 c4 c5 c6 d0 d1 d2 d3 d4 d5 d6
     have hH3:=hid (hstay.out _ hb3.out)
     go_wp2_with fail
     go_roundw
     case rel=>exact⟨h+1,j,rh+1,rj,hi2,hj,by omega,by omega,hjb,by go_num,rfl,hA2,hB,hH3⟩
     case measure=>simp[intOf];omega
  ·obtain rfl:i=j:=by omega
   have hlt2:¬ (i:Int)<(i:Int):=by omega
   have hrr:ri=rj:=by have h1:=hi.out;have h2:=hj.out;omega
   subst hrr
   have hrn:ri≤n:=by have h1:=hi.out;have h2:=hmB.out;omega
   have hP:=hid (hend.out ri hrn hA.out hB.out)
   have hze2:=hid (hze.out ri)
   generalize A.take ri ++ x :: A.drop ri=Q at hP hze2
   have hz0:Hid (HoldV gb off (T n) wr):=by rw[←hzn.out n rfl] at hH;exact hH
   clear hend hA hB hH hr0 hx0 hLen hze hzn hj hw1 hw2 hw3
   go_upto_region 21 with fail
   go_loopw [17] (fun v13 wr=>∃t K:Nat,ri≤t∧t≤n∧Hid (K=a+t)∧i≤K∧K≤m∧v13=.int .i64 K∧Hid (HoldV gb off (T t) wr)) (fun v13 _=>(intOf v13).toNat)
   case atStart=>exact⟨n,m,hrn,Nat.le_refl _,hmB,hjb,Nat.le_refl _,rfl,hz0⟩
   case round =>
    clear hz0
    obtain⟨t,K,htr,htn,hK,hiK,hKm,rfl,hH⟩:=hrel
    by_cases hlt3:i<K
    ·have hlt4:(i:Int)<(K:Int):=by omega
     obtain⟨J,hJ⟩:∃J,K=J+1:=⟨K-1,by omega⟩
     obtain⟨s,hs⟩:∃s,t=s+1:=⟨t-1,by have:=hK.out;have:=hi.out;omega⟩
     subst hJ hs
     have hKt:J=a+s:=by have:=hK.out;omega
     have htl:s<A.length:=by have:=hn2.out;omega
     have hx1:=hM.out.atx (s+1) (by omega)
     have hp1:=hM.out.before s htl
     have hsw:=hM.out.down s htl
     have hlT:(T (s+1)).length=L:=hM.out.len (s+1) (by omega)
     have hKL:J+1<L:=by omega
     have hKL2:(J:Int)+1<(L:Int):=by omega
     have hKL3:(J:Int)<(L:Int):=by omega
     have hwp:IntKind.i64.wrap (J:Int)=(J:Int):=by rw[IntKind.wrap_i64];omega
     have hwp2:IntKind.i64.wrap ((J:Int)+1-1)=(J:Int):=by rw[IntKind.wrap_i64];omega
     have hK0:(0:Int)≤(J:Int):=by omega
     have hp0:(0:Int)≤(J:Int)+1:=by omega
     have he0:((J:Int)+1).toNat=J+1:=by omega
     rw[show a+(s+1)=J+1 by omega] at hx1
     rw[show a+s+1=J+1 by omega] at hsw
     rw[←hKt] at hp1 hsw
     obtain⟨p,hp⟩:∃p,A[s]? = some p:=⟨_,List.getElem?_eq_getElem htl⟩
     rw[hp] at hp1
     obtain⟨k1,q1,a1,n1,z1,w1,s1,aa1,an1,ac1,oa1,on1,oc1,ex⟩:=qAN x
     obtain⟨k2,q2,a2,n2,z2,w2,s2,aa2,an2,ac2,oa2,on2,oc2,ey⟩:=qAN p
     unfold valCs strV at ex ey
     generalize (⟨s1.toArray⟩:ByteArray)=sb1 at ex
     generalize (⟨s2.toArray⟩:ByteArray)=sb2 at ey
     obtain⟨c0,c1,c2,c3,c4,c5,c6⟩:=hH.out.cells hx1 ex
     obtain⟨d0,d1,d2,d3,d4,d5,d6⟩:=hH.out.cells hp1 ey
     have f1:=hH.out.frozen (i:=(J+1)) (by rw[hlT];omega)
     have f2:=hH.out.frozen (i:=J) (by rw[hlT];omega)
     have e1:=hid (hH.out.swap7 hx1 hp1 hsw ex ey)
     have u0:=f1 0 (by omega)
     have u1:=f1 1 (by omega)
     have u2:=f1 2 (by omega)
     have u3:=f1 3 (by omega)
     have u4:=f1 4 (by omega)
     have u5:=f1 5 (by omega)
     have u6:=f1 6 (by omega)
     have v0:=f2 0 (by omega)
     have v1:=f2 1 (by omega)
     have v2:=f2 2 (by omega)
     have v3:=f2 3 (by omega)
     have v4:=f2 4 (by omega)
     have v5:=f2 5 (by omega)
     have v6:=f2 6 (by omega)
     rw[Nat.add_zero] at u0 v0
     have hK2:Hid (J=a+s):=hKt
     have hsr:ri≤s:=by have:=hi.out;omega
     have hiJ:i≤J:=by omega
     clear f1 f2 hx1 hp1 hp ex ey hH hsw hKt hM hlT hze2 hP
     have mixed:Tryz.prog.follows .mixedOrders=true:=by kernel_rfl
     go_wp2_with fail
     go_big_region_o
     all_goals
      go_wp2_with fail
      go_roundw
      case rel=>exact⟨s,J,hsr,by omega,hK2,hiJ,by omega,by go_num,e1⟩
      case measure=>first | (simp[intOf];done) | (simp[intOf];omega)
    ·obtain rfl:K=i:=by omega
     have hlt4:¬ (K:Int)<(K:Int):=by omega
     obtain rfl:t=ri:=by have:=hK.out;have:=hi.out;omega
     have hF:=hid (hze2.out _ hH.out)
     clear hze2 hH
     go_wp2_with fail
     refine bodyPost_ret (results_none rfl _ _ _) rfl ?_
     exact⟨rfl,Q,hP.out.1,hP.out.2,hF.out⟩
open Go.RowKit Go.Sort
def SymC (w0:World) (g:Nat) (N:Nat):Prop:=∀(gb off cap:Nat) (X A B Y:List (VT w0)) (a m b L:Nat) (w:World),A.length+B.length≤N→0<A.length→0<B.length→X.length=a→m=a+A.length→b=m+B.length→(X ++ (A ++ B) ++ Y).length=L→L≤1048576 →
 Stab veC A→Stab veC B→(∀p ∈ A,∀q ∈ B,p.2<q.2)→HoldV gb off (X ++ (A ++ B) ++ Y) w →
 Calls Tryz.prog 135 #[.slice (some ⟨gb,off,none⟩) L cap,.int .i64 a,.int .i64 m,.int .i64 b,.func (.func g) #[] #[]] w fun e w'=>e=.returned (.tuple #[])∧∃S':List (VT w0),S'.Perm (A ++ B)∧Stab veC S'∧HoldV gb off (X ++ S' ++ Y) w'
set_option maxRecDepth 100000 in
set_option maxHeartbeats 12000000 in
theorem qN5 {w0:World}(g:Nat)(eg:∀args w,(callFunc g args).run Tryz.prog w=.ok (.enter g args) w)(hC:CmpC w0 g)(gb off cap:Nat)(N:Nat)(IH:SymC w0 g N)(X A B Y:List (VT w0))(a m b L:Nat)(w:World)(hN:A.length+B.length≤N+1)(hA1:1<A.length)(hB1:1<B.length)(ha:X.length=a)(hm:m=a+A.length)(hb:b=m+B.length)(hL:(X ++ (A ++ B) ++ Y).length=L)(hLs:L≤1048576)
  (hSA:Stab veC A)(hSB:Stab veC B)(ht:∀p ∈ A,∀q ∈ B,p.2<q.2)(h:HoldV gb off (X ++ (A ++ B) ++ Y) w) :
  Calls Tryz.prog 135 #[.slice (some ⟨gb,off,none⟩) L cap,.int .i64 a,.int .i64 m,.int .i64 b,.func (.func g) #[] #[]] w fun e w'=>e=.returned (.tuple #[])∧∃S':List (VT w0),S'.Perm (A ++ B)∧Stab veC S'∧HoldV gb off (X ++ S' ++ Y) w':=by
 obtain⟨G,hG⟩:∃G:List (VT w0)→World→Prop,G=fun S' W=>HoldV gb off (X ++ S' ++ Y) W:=⟨_,rfl⟩
 show Calls _ _ _ w fun e w'=>e=.returned (.tuple #[])∧∃S':List (VT w0),S'.Perm (A ++ B)∧Stab veC S'∧(fun S' W=>HoldV gb off (X ++ S' ++ Y) W) S' w'
 rw[←hG]
 have hfin:=hid (fun wr (S':List (VT w0)) (h:HoldV gb off (X ++ S' ++ Y) wr)=>(by rw[hG];exact h:G S' wr))
 clear hG
 obtain⟨T0,hT0⟩:∃T0,T0=X ++ (A ++ B) ++ Y:=⟨_,rfl⟩
 have hlen:X.length+(A.length+B.length)+Y.length=L:=by rw[←hL];simp;omega
 have hrA:=hid (show ∀(t:Nat) (p:VT w0),A[t]? = some p→T0[a+t]? = some p by
  intro t p hp
  have hlt:=(List.getElem?_eq_some_iff.1 hp).1
  rw[hT0,show X ++ (A ++ B) ++ Y=X ++ (A ++ (B ++ Y)) by simp,List.getElem?_append_right (by omega),show a+t-X.length=t by omega,List.getElem?_append_left hlt]
  exact hp)
 have hrB:=hid (show ∀(t:Nat) (p:VT w0),B[t]? = some p→T0[m+t]? = some p by
  intro t p hp
  have hlt:=(List.getElem?_eq_some_iff.1 hp).1
  rw[hT0,show X ++ (A ++ B) ++ Y=(X ++ A) ++ (B ++ Y) by simp,List.getElem?_append_right (by simp;omega),show m+t-(X ++ A).length=t by simp;omega,List.getElem?_append_left hlt]
  exact hp)
 rw[←hT0] at h
 replace hC:=hid hC
 have h0:=hid h
 have hbL:b≤L:=by omega
 obtain⟨n1,hn1⟩:∃n,n=A.length:=⟨_,rfl⟩
 obtain⟨n2,hn2⟩:∃n,n=B.length:=⟨_,rfl⟩
 have hn1H:=hid hn1
 have hn2H:=hid hn2
 rw[←hn1] at hm hA1 hN
 rw[←hn2] at hb hB1 hN
 obtain⟨M,hMd⟩:∃M,M=(a+b) / 2:=⟨_,rfl⟩
 have haM:a<M:=by omega
 have hMb:M<b:=by omega
 have hMb2:M-a≤b-M:=by omega
 obtain⟨NN,hNN⟩:∃NN,NN=M+m:=⟨_,rfl⟩
 obtain⟨P1,hP1⟩:∃P1,P1=NN-1:=⟨_,rfl⟩
 have hw1:IntKind.i64.wrap ((m:Int)-(a:Int))=(n1:Int):=by rw[IntWalk.i64_in _ (by omega)];omega
 have hw2:((n1:Int) == 1)=false:=by rw[beq_eq_false_iff_ne];omega
 have hw3:IntKind.i64.wrap ((b:Int)-(m:Int))=(n2:Int):=by rw[IntWalk.i64_in _ (by omega)];omega
 have hw4:((n2:Int) == 1)=false:=by rw[beq_eq_false_iff_ne];omega
 have hw5:IntKind.i64.wrap ((M:Int)+(m:Int))=(NN:Int):=by rw[IntWalk.i64_in _ (by omega)];omega
 have hw6:IntKind.i64.wrap ((NN:Int)-1)=(P1:Int):=by rw[IntWalk.i64_in _ (by omega)];omega
 have hSRCH:=hid (show ∃s0 r0:Nat,a≤s0∧s0≤r0∧r0≤M∧r0≤m∧M-s0≤n2∧(M<m→IntKind.i64.wrap ((NN:Int)-(b:Int))=(s0:Int)∧r0=M)∧(¬ M<m→s0=a∧r0=m) ∧
   (∀p ∈ (A.take (s0-a)).getLast?,∀q ∈ (B.drop (M-s0)).head?,0≤veC q.1 p.1)∧(∀p ∈ (B.take (M-r0)).getLast?,∀q ∈ (A.drop (r0-a)).head?,veC p.1 q.1<0) by
  by_cases hMm:M<m
  ·refine⟨NN-b,M,by omega,by omega,Nat.le_refl _,by omega,by omega,fun _=>⟨by rw[IntWalk.i64_in _ (by omega)];omega,rfl⟩,fun h=>absurd hMm h,fun p hp q hq=>?_,fun p hp q hq=>?_⟩
   ·rw[List.drop_of_length_le (by omega)] at hq
    cases hq
   ·rw[show M-M=0 by omega] at hp
    simp at hp
  ·refine⟨a,m,Nat.le_refl _,by omega,by omega,Nat.le_refl _,by omega,fun h=>absurd h hMm,fun _=>⟨rfl,rfl⟩,fun p hp q hq=>?_,fun p hp q hq=>?_⟩
   ·rw[show a-a=0 by omega] at hp
    simp at hp
   ·rw[List.drop_of_length_le (by omega)] at hq
    cases hq)
 have hLen:=hid (show T0.length=L by rw[hT0];exact hL)
 have hTeq:=hid (show ∀s,X ++ (A.take s ++ A.drop s ++ B) ++ Y=T0 by intro s;rw[hT0,List.take_append_drop])
 have hjoin:=hid (show ∀(s e:Nat) (P Q:List (VT w0)),(∀p ∈ (A.take s).getLast?,∀q ∈ (B.drop e).head?,0≤veC q.1 p.1)→(∀p ∈ (B.take e).getLast?,∀q ∈ (A.drop s).head?,veC p.1 q.1<0) →
   P.Perm (A.take s ++ B.take e)→Stab veC P→Q.Perm (A.drop s ++ B.drop e)→Stab veC Q→(P ++ Q).Perm (A ++ B)∧Stab veC (P ++ Q) by
  intro s e P Q k2 k1 pP sP pQ sQ
  refine⟨?_,?_⟩
  ·have e1:(A.take s ++ B.take e ++ (A.drop s ++ B.drop e)).Perm (A.take s ++ A.drop s ++ (B.take e ++ B.drop e)):=by
    rw[List.append_assoc,List.append_assoc]
    refine List.Perm.append_left _ ?_
    rw[←List.append_assoc,←List.append_assoc]
    exact (List.perm_append_comm).append_right _
   rw[List.take_append_drop,List.take_append_drop] at e1
   exact (pP.append pQ).trans e1
  ·refine qHE sP sQ pP pQ (qJA qFd (fun _ _=>trivial) (by rw[List.take_append_drop];exact hSA) (by rw[List.take_append_drop];exact hSB) (by rw[List.take_append_drop,List.take_append_drop];exact ht) (fun p hp q hq=>k1 p hp q hq) (fun p hp q hq=>Int.not_lt.2 (k2 p hp q hq))))
 have hsub:=hid (show ∀s e,Stab veC (A.take s)∧Stab veC (A.drop s)∧Stab veC (B.take e)∧Stab veC (B.drop e)∧(∀p ∈ A.take s,∀q ∈ B.take e,p.2<q.2)∧(∀p ∈ A.drop s,∀q ∈ B.drop e,p.2<q.2) from
  fun s e=>⟨hSA.sublist (List.take_sublist _ _),hSA.sublist (List.drop_sublist _ _),hSB.sublist (List.take_sublist _ _),hSB.sublist (List.drop_sublist _ _),fun p hp q hq=>ht p (List.mem_of_mem_take hp) q (List.mem_of_mem_take hq),fun p hp q hq=>ht p (List.mem_of_mem_drop hp) q (List.mem_of_mem_drop hq)⟩)
 have hmB:=hid hm
 have hbB:=hid hb
 have hNB:=hid hNN
 have hPB:=hid (show P1+1=NN by omega)
 have hNsz:=hid hN
 have haX:=hid ha
 have hMdd:=hid hMd
 have hMab:(M:Int)=((a:Int)+(b:Int)) / 2:=by omega
 have hMabB:=hid hMab
 have hamb:a<m∧m<b:=by omega
 have hmb1:=hamb.1
 have hmb2:=hamb.2
 have hLX:=hid hL
 have hTX:=hid hT0
 replace IH:=hid IH
 clear h hL hSA hSB ht ha hT0 hlen hn1 hn2 hm hb hMd hNN hP1 hN hMab hamb
 go_enter Tryz.func135,Tryz.ntmps135
 go_upto_region 24 with fail
 go_cut [18] from 25 to 134 (fun v18 w'=>v18=.int .i64 M∧Hid (HoldV gb off T0 w'))
 case first =>
  go_wp2_with fail
  go_meet
  case rel=>exact⟨by rw[hMabB.out],h0⟩
 case rest =>
 obtain⟨rfl,h1⟩:=hcut
 clear h0 hw1 hw2 hw3 hw4
 obtain⟨s0,r0,q1,q2,q3,q4,q5,q6,q7,q8,q9⟩:=hSRCH.out
 have q6H:=hid q6
 have q7H:=hid q7
 have q8H:=hid q8
 have q9H:=hid q9
 clear q6 q7 q8 q9 hSRCH
 go_upto_if 140 with fail
 go_cut [20,21] from 138 to 146 (fun v20 v21 w'=>v20=.int .i64 s0∧v21=.int .i64 r0∧Hid (HoldV gb off T0 w'))
 case first =>
  by_cases hMm:M<m
  ·have hMm2:(M:Int)<(m:Int):=by omega
   obtain⟨k1,k2⟩:=q6H.out hMm
   have k2H:=hid k2
   clear q6H q7H k2
   go_wp2_with fail
   go_meet
   case rel=>exact⟨rfl,by rw[k2H.out],h1⟩
  ·have hMm2:¬ (M:Int)<(m:Int):=by omega
   have k2H:=hid (q7H.out hMm)
   clear q6H q7H
   go_wp2_with fail
   go_meet
   case rel=>exact⟨by rw[k2H.out.1],by rw[k2H.out.2],h1⟩
 case rest =>
 clear h1 q6H q7H
 obtain⟨rfl,rfl,h1⟩:=hcut
 go_upto_block 8 with fail
 go_cut [20,21] from 149 to 174 (fun v20 v21 w'=>∃s:Nat,a≤s∧s≤M∧s≤m∧M-s≤n2∧v20=.int .i64 s∧Hid (∀p ∈ (A.take (s-a)).getLast?,∀q ∈ (B.drop (M-s)).head?,0≤veC q.1 p.1)∧Hid (∀p ∈ (B.take (M-s)).getLast?,∀q ∈ (A.drop (s-a)).head?,veC p.1 q.1<0)∧Hid (HoldV gb off T0 w'))
 case first =>
  clear hjoin hsub hTeq IH hfin
  go_wp2_with fail
  go_loopw [20,21] (fun v20 v21 wr=>∃s r:Nat,s0≤s∧s≤r∧r≤r0∧v20=.int .i64 s∧v21=.int .i64 r∧Hid (∀p ∈ (A.take (s-a)).getLast?,∀q ∈ (B.drop (M-s)).head?,0≤veC q.1 p.1)∧Hid (∀p ∈ (B.take (M-r)).getLast?,∀q ∈ (A.drop (r-a)).head?,veC p.1 q.1<0)∧Hid (HoldV gb off T0 wr)) (fun v20 v21 _=>(intOf v21-intOf v20).toNat)
  case atStart=>exact⟨s0,r0,Nat.le_refl _,q2,Nat.le_refl _,rfl,rfl,q8H,q9H,h1⟩
  case round =>
   clear h1 q8H q9H
   obtain⟨s,r,hs,hsr,hr,rfl,rfl,hA,hB,hH⟩:=hrel
   by_cases hlt:s<r
   ·have hlt2:(s:Int)<(r:Int):=by omega
    go_upto_region 34 with fail
    go_cut [23] from 149 to 174 (fun v23 w'=>∃h:Nat,v23=.int .i64 h∧s≤h∧h<r∧Hid (HoldV gb off T0 w'))
    case first =>
     go_wp2_with fail
     go_meet
     case rel=>exact⟨(s+r) / 2,by go_num,by omega,by omega,hH⟩
    case rest =>
    clear hH
    obtain⟨h,rfl,hih,hhj,hH⟩:=hcut
    obtain⟨rh,hrh⟩:∃rh,rh=h-a:=⟨_,rfl⟩
    obtain⟨rk,hrk⟩:∃rk,rk=M-1-h:=⟨_,rfl⟩
    obtain⟨e1,he1⟩:∃e1,e1=m+rk:=⟨_,rfl⟩
    have hmm:=hmB.out
    have hbb:=hbB.out
    have hpp:=hPB.out
    have hnn:=hNB.out
    have hl1:rh<A.length:=by have:=hn1H.out;omega
    have hl2:rk<B.length:=by have:=hn2H.out;omega
    have hhm:h=a+rh:=by omega
    have hw7:IntKind.i64.wrap ((P1:Int)-(h:Int))=(e1:Int):=by rw[IntWalk.i64_in _ (by omega)];omega
    obtain⟨p,hp⟩:∃p,A[rh]? = some p:=⟨_,List.getElem?_eq_getElem hl1⟩
    obtain⟨q,hq⟩:∃q,B[rk]? = some q:=⟨_,List.getElem?_eq_getElem hl2⟩
    have hp1:=hrA.out rh p hp
    have hq1:=hrB.out rk q hq
    rw[←hhm] at hp1
    rw[←he1] at hq1
    have hhL:h<L:=by omega
    have hhL2:(h:Int)<(L:Int):=by omega
    have heL:e1<L:=by omega
    have heL2:(e1:Int)<(L:Int):=by omega
    have hlastA:=hid (show (A.take (h+1-a)).getLast? = some p by rw[show h+1-a=rh+1 by omega];exact qBE hp)
    have hheadA:=hid (show (A.drop (h-a)).head? = some p by rw[←hrh];exact qCV hp)
    have hlastB:=hid (show (B.take (M-h)).getLast? = some q by rw[show M-h=rk+1 by omega];exact qBE hq)
    have hheadB:=hid (show (B.drop (M-(h+1))).head? = some q by rw[show M-(h+1)=rk by omega];exact qCV hq)
    have hC0:=hid (fun W' (hb:Below wc.heap.size wc W')=>hC.out q p W' (qAa hH.out.2.1 hb))
    obtain⟨d,hd⟩:∃d,d=veC q.1 p.1:=⟨_,rfl⟩
    rw[←hd] at hC0
    obtain⟨k1,q1,a1,n1,z1,w1,s1,aa1,an1,ac1,oa1,on1,oc1,ex⟩:=qAN q
    obtain⟨k2,q2,a2,n2,z2,w2,s2,aa2,an2,ac2,oa2,on2,oc2,ey⟩:=qAN p
    unfold valCs strV at ex ey
    generalize (⟨s1.toArray⟩:ByteArray)=sb1 at ex
    generalize (⟨s2.toArray⟩:ByteArray)=sb2 at ey
    rw[ex,ey] at hC0
    obtain⟨c0,c1,c2,c3,c4,c5,c6⟩:=hH.out.cells hq1 ex
    obtain⟨d0,d1,d2,d3,d4,d5,d6⟩:=hH.out.cells hp1 ey
    have hstay:=hid (fun W' (hb:Below wc.heap.size wc W')=>hH.out.stay hb)
    have hDD:=hid hd
    clear hp1 hq1 hp hq hd ex ey hH hrh hrk he1 hhm hmm hbb hpp hnn hrA hrB hl1 hl2 hw5 hw6 hMdd
    by_cases hneg:d<0
    ·have hd1:decide (d<0)=true:=decide_eq_true hneg
     have hB2:Hid (∀p ∈ (B.take (M-h)).getLast?,∀q ∈ (A.drop (h-a)).head?,veC p.1 q.1<0):=by
      intro p' hp' q' hq'
      rw[hlastB.out] at hp'
      rw[hheadA.out] at hq'
      injection hp' with hp'
      injection hq' with hq'
      rw[←hp',←hq',←hDD.out]
      exact hneg
     clear hB hlastA hlastB hheadA hheadB hDD
     go_wp2_with fail
     go_region_held3 (fun W'=>W'.cell? ⟨gb,off+e1 * 7,none⟩=some (.int .i64 k1)∧W'.cell? ⟨gb,off+e1 * 7+1,none⟩=some (.bool q1)∧W'.cell? ⟨gb,off+e1 * 7+2,none⟩=some (.slice a1 n1 z1)∧W'.cell? ⟨gb,off+e1 * 7+3,none⟩=some (.int .i64 w1)∧W'.cell? ⟨gb,off+e1 * 7+4,none⟩=some (.string sb1)∧W'.cell? ⟨gb,off+e1 * 7+5,none⟩=some (.slice aa1 an1 ac1)∧W'.cell? ⟨gb,off+e1 * 7+6,none⟩=some (.slice oa1 on1 oc1)∧W'.cell? ⟨gb,off+h * 7,none⟩=some (.int .i64 k2)∧W'.cell? ⟨gb,off+h * 7+1,none⟩=some (.bool q2)∧W'.cell? ⟨gb,off+h * 7+2,none⟩=some (.slice a2 n2 z2)∧W'.cell? ⟨gb,off+h * 7+3,none⟩=some (.int .i64 w2)∧W'.cell? ⟨gb,off+h * 7+4,none⟩=some (.string sb2)∧W'.cell? ⟨gb,off+h * 7+5,none⟩=some (.slice aa2 an2 ac2)∧W'.cell? ⟨gb,off+h * 7+6,none⟩=some (.slice oa2 on2 oc2)∧Below wc.heap.size wc W') (first | (exact⟨c0,c1,c2,c3,c4,c5,c6,d0,d1,d2,d3,d4,d5,d6,(Below.refl _ _).drew⟩) | (exact qDt (by assumption) (by assumption)) | assumption) ((go_at_fn g;(with_reducible refine (hC0.out _ ?_).mono ?_);(simp only[*]);rintro e3 w3 ⟨rfl,hb3⟩))
     all_goals
      rename_i hHeld
      have hb3:=hid (hHeld.2.2.2.2.2.2.2.2.2.2.2.2.2.2)
      clear hHeld c0 c1 c2 c3 c4 c5 c6 d0 d1 d2 d3 d4 d5 d6
      have hH3:=hid (hstay.out _ hb3.out)
      go_wp2_with fail
      go_roundw
      case rel=>exact⟨s,h,hs,by omega,by omega,rfl,by go_num,hA,hB2,hH3⟩
      case measure=>simp[intOf];omega
    ·have hd1:decide (d<0)=false:=decide_eq_false hneg
     have hA2:Hid (∀p ∈ (A.take (h+1-a)).getLast?,∀q ∈ (B.drop (M-(h+1))).head?,0≤veC q.1 p.1):=by
      intro p' hp' q' hq'
      rw[hlastA.out] at hp'
      rw[hheadB.out] at hq'
      injection hp' with hp'
      injection hq' with hq'
      rw[←hp',←hq',←hDD.out]
      exact Int.not_lt.1 hneg
     clear hA hlastA hlastB hheadA hheadB hDD
     go_wp2_with fail
     go_region_held3 (fun W'=>W'.cell? ⟨gb,off+e1 * 7,none⟩=some (.int .i64 k1)∧W'.cell? ⟨gb,off+e1 * 7+1,none⟩=some (.bool q1)∧W'.cell? ⟨gb,off+e1 * 7+2,none⟩=some (.slice a1 n1 z1)∧W'.cell? ⟨gb,off+e1 * 7+3,none⟩=some (.int .i64 w1)∧W'.cell? ⟨gb,off+e1 * 7+4,none⟩=some (.string sb1)∧W'.cell? ⟨gb,off+e1 * 7+5,none⟩=some (.slice aa1 an1 ac1)∧W'.cell? ⟨gb,off+e1 * 7+6,none⟩=some (.slice oa1 on1 oc1)∧W'.cell? ⟨gb,off+h * 7,none⟩=some (.int .i64 k2)∧W'.cell? ⟨gb,off+h * 7+1,none⟩=some (.bool q2)∧W'.cell? ⟨gb,off+h * 7+2,none⟩=some (.slice a2 n2 z2)∧W'.cell? ⟨gb,off+h * 7+3,none⟩=some (.int .i64 w2)∧W'.cell? ⟨gb,off+h * 7+4,none⟩=some (.string sb2)∧W'.cell? ⟨gb,off+h * 7+5,none⟩=some (.slice aa2 an2 ac2)∧W'.cell? ⟨gb,off+h * 7+6,none⟩=some (.slice oa2 on2 oc2)∧Below wc.heap.size wc W') (first | (exact⟨c0,c1,c2,c3,c4,c5,c6,d0,d1,d2,d3,d4,d5,d6,(Below.refl _ _).drew⟩) | (exact qDt (by assumption) (by assumption)) | assumption) ((go_at_fn g;(with_reducible refine (hC0.out _ ?_).mono ?_);(simp only[*]);rintro e3 w3 ⟨rfl,hb3⟩))
     all_goals
      rename_i hHeld
      have hb3:=hid (hHeld.2.2.2.2.2.2.2.2.2.2.2.2.2.2)
      clear hHeld c0 c1 c2 c3 c4 c5 c6 d0 d1 d2 d3 d4 d5 d6
      have hH3:=hid (hstay.out _ hb3.out)
      go_wp2_with fail
      go_roundw
      case rel=>exact⟨h+1,r,by omega,by omega,hr,by go_num,rfl,hA2,hB,hH3⟩
      case measure=>simp[intOf];omega
   ·obtain rfl:s=r:=by omega
    have hlt2:¬ (s:Int)<(s:Int):=by omega
    go_wp2_with fail
    go_meet
    case rel=>exact⟨s,by omega,by omega,by omega,by omega,rfl,hA,hB,hH⟩
 case rest =>
 clear h1 q8H q9H hrA hrB
 obtain⟨s,hsa,hsM,hsm,hs2,rfl,hA,hB,hH⟩:=hcut
 obtain⟨E,hE⟩:∃E,E=m+(M-s):=⟨_,rfl⟩
 have hw7:IntKind.i64.wrap ((NN:Int)-(s:Int))=(E:Int):=by have:=hNB.out;rw[IntWalk.i64_in _ (by omega)];omega
 obtain⟨u,hu⟩:∃u,u=s-a:=⟨_,rfl⟩
 obtain⟨e,he⟩:∃e,e=M-s:=⟨_,rfl⟩
 rw[←hu,←he] at hA hB
 have hJN:=hid (fun P Q=>hjoin.out u e P Q hA.out hB.out)
 have hSU:=hid (hsub.out u e)
 have hTE:=hid (hTeq.out u)
 clear hjoin hsub hTeq hA hB
 have hlA1:Hid ((A.take u).length=u):=by have:=hn1H.out;have:=hmB.out;show _=_;rw[List.length_take];omega
 have hlA2:Hid ((A.drop u).length=m-s):=by have:=hn1H.out;have:=hmB.out;show _=_;rw[List.length_drop];omega
 have hlB1:Hid ((B.take e).length=e):=by have:=hn2H.out;show _=_;rw[List.length_take];omega
 have hlB2:Hid ((B.drop e).length=b-E):=by have:=hn2H.out;have:=hbB.out;show _=_;rw[List.length_drop];omega
 have hBe:=hid (show B=B.take e ++ B.drop e from (List.take_append_drop e B).symm)
 have hT1:Hid (T0=X ++ (A.take u ++ A.drop u ++ (B.take e ++ B.drop e)) ++ Y):=by
  show _=_
  rw[←hTE.out,List.take_append_drop e B]
 have hEb:E≤b:=by have:=hbB.out;omega
 have huB:=hid hu
 have heB:=hid he
 have hEB:=hid hE
 have hsumA:=hid (show u+(m-s)=n1 by have:=hmB.out;omega)
 have hsumB:=hid (show e+(b-E)=n2 by have:=hbB.out;omega)
 clear hTE hw5 hw6 hu he hE
 generalize A.take u=A1 at *
 generalize A.drop u=A2 at *
 generalize B.take e=B1 at *
 generalize B.drop e=B2 at *
 go_upto_region 39 with fail
 go_cut [185] from 178 to 185 (fun vt w'=>∃t:Bool,vt=.bool t∧Hid (t=decide (s<m∧m<E))∧Hid (HoldV gb off T0 w'))
 case first =>
  clear hJN hSU IH hfin
  by_cases l1:s<m
  ·have l1':(s:Int)<(m:Int):=by omega
   by_cases l2:m<E
   ·have l2':(m:Int)<(E:Int):=by omega
    go_wp2_with fail
    go_meet
    case rel=>exact⟨true,rfl,hid (by symm;rw[decide_eq_true_eq];omega),hH⟩
   ·have l2':¬ (m:Int)<(E:Int):=by omega
    go_wp2_with fail
    go_meet
    case rel=>exact⟨false,rfl,hid (by symm;rw[decide_eq_false_iff_not];omega),hH⟩
  ·have l1':¬ (s:Int)<(m:Int):=by omega
   go_wp2_with fail
   go_meet
   case rel=>exact⟨false,rfl,hid (by symm;rw[decide_eq_false_iff_not];omega),hH⟩
 case rest =>
 clear hH
 obtain⟨t,rfl,hiff,hH⟩:=hcut
 obtain⟨T2,hT2⟩:∃T2,T2=X ++ (A1 ++ B1) ++ (A2 ++ B2) ++ Y:=⟨_,rfl⟩
 have hT2H:=hid hT2
 clear hT2
 go_upto_if 185 with fail
 go_cut [] from 186 to 191 (fun w'=>Hid (HoldV gb off T2 w'))
 case first =>
  cases t with
  | true =>
   obtain⟨l1,l2⟩:s<m∧m<E:=of_decide_eq_true hiff.out.symm
   have C:=hid (by
    have h1:=hH.out
    rw[hT1.out] at h1
    have hX1:=haX.out
    have hLx:=hLen.out
    rw[hT1.out] at hLx
    have q1:=hlA1.out
    have q2:=hlA2.out
    have q3:=hlB1.out
    have q4:=huB.out
    have q5:=hEB.out
    have q6:=heB.out
    have:=qHH gb off cap (X ++ A1) A2 B1 (B2 ++ Y) s m E L (.func (.func g) #[] #[]) wc (by simp;omega) (by omega) (by omega) (by omega) (by omega) (by rw[←hLx];simp) hLs (by simpa using h1)
    refine this.mono ?_
    rintro en w1 ⟨h2,h3⟩
    rw[hT2H.out]
    exact⟨h2,by simpa using h3⟩:Calls Tryz.prog 171 #[.slice (some ⟨gb,off,none⟩) L cap,.int .i64 s,.int .i64 m,.int .i64 E,.func (.func g) #[] #[]] wc fun en w'=>en=.returned (.tuple #[])∧HoldV gb off T2 w')
   clear hH hT1 hJN hSU hiff hLen haX hlA1 hlA2 hlB1 hlB2
   go_wp2_with fail
   refine C.out.mono ?_
   rintro en w1 ⟨rfl,h3⟩
   have hF:=hid h3
   clear h3
   go_wp2_with fail
   go_meet
   case rel=>exact hF
  | false =>
   have hF:Hid (HoldV gb off T2 wc):=by
    have h1:=hH.out
    rw[hT1.out] at h1
    have q2:=hlA2.out
    have q3:=hlB1.out
    have q5:=hEB.out
    have q6:=heB.out
    have hno:¬ (s<m∧m<E):=of_decide_eq_false hiff.out.symm
    show HoldV gb off T2 wc
    rw[hT2H.out]
    by_cases l1:s<m
    ·have hz:B1=[]:=List.length_eq_zero_iff.1 (by omega)
     subst hz
     simpa using h1
    ·have hz:A2=[]:=List.length_eq_zero_iff.1 (by omega)
     subst hz
     simpa using h1
   clear hH hT1 hJN hSU hiff hLen haX hlA1 hlA2 hlB1 hlB2
   go_wp2_with fail
   go_meet
   case rel=>exact hF
 case rest =>
 clear hH hiff
 rename_i hcut
 have hH:=hid hcut.out
 clear hcut
 go_upto_region 41 with fail
 go_cut [199] from 192 to 199 (fun vt w'=>∃t:Bool,vt=.bool t∧Hid (t=decide (a<s∧s<M))∧Hid (HoldV gb off T2 w'))
 case first =>
  clear hJN hSU IH hfin
  by_cases l1:a<s
  ·have l1':(a:Int)<(s:Int):=by omega
   by_cases l2:s<M
   ·have l2':(s:Int)<(M:Int):=by omega
    go_wp2_with fail
    go_meet
    case rel=>exact⟨true,rfl,hid (by symm;rw[decide_eq_true_eq];omega),hH⟩
   ·have l2':¬ (s:Int)<(M:Int):=by omega
    go_wp2_with fail
    go_meet
    case rel=>exact⟨false,rfl,hid (by symm;rw[decide_eq_false_iff_not];omega),hH⟩
  ·have l1':¬ (a:Int)<(s:Int):=by omega
   go_wp2_with fail
   go_meet
   case rel=>exact⟨false,rfl,hid (by symm;rw[decide_eq_false_iff_not];omega),hH⟩
 case rest =>
 clear hH
 obtain⟨t,rfl,hiff,hH⟩:=hcut
 have hLT2:Hid (T2.length=L):=by
  show _=_
  rw[hT2H.out,←hLen.out,hT1.out]
  simp only[List.length_append]
  omega
 go_upto_if 199 with fail
 go_cut [] from 200 to 205 (fun w'=>∃P T3:List (VT w0),Hid (P.Perm (A1 ++ B1))∧Hid (Stab veC P)∧Hid (T3=X ++ P ++ (A2 ++ B2) ++ Y)∧Hid (HoldV gb off T3 w'))
 case first =>
  cases t with
  | true =>
   obtain⟨l1,l2⟩:a<s∧s<M:=of_decide_eq_true hiff.out.symm
   have C:=hid (by
    have h1:=hH.out
    rw[hT2H.out] at h1
    have hLx:=hLT2.out
    rw[hT2H.out] at hLx
    have q1:=hlA1.out
    have q3:=hlB1.out
    have q4:=huB.out
    have q6:=heB.out
    have hq:=hNsz.out
    have hqa:=hsumA.out
    have hqb:=hsumB.out
    have hqe:=hEB.out
    have:=IH.out gb off cap X A1 B1 (A2 ++ B2 ++ Y) a s M L wc (by omega) (by omega) (by omega) haX.out (by omega) (by omega) (by rw[←hLx];simp) hLs hSU.out.1 hSU.out.2.2.1 hSU.out.2.2.2.2.1 (by simpa using h1)
    refine this.mono ?_
    rintro en w1 ⟨h2,S',h3,h4,h5⟩
    exact⟨h2,S',X ++ S' ++ (A2 ++ B2) ++ Y,hid h3,hid h4,hid rfl,hid (by simpa using h5)⟩:Calls Tryz.prog 135 #[.slice (some ⟨gb,off,none⟩) L cap,.int .i64 a,.int .i64 s,.int .i64 M,.func (.func g) #[] #[]] wc fun en w'=>en=.returned (.tuple #[])∧∃P T3:List (VT w0),Hid (P.Perm (A1 ++ B1))∧Hid (Stab veC P)∧Hid (T3=X ++ P ++ (A2 ++ B2) ++ Y)∧Hid (HoldV gb off T3 w'))
   clear hH hT1 hJN hSU hiff hLen haX hlA1 hlA2 hlB1 hlB2 IH hfin
   go_wp2_with fail
   refine C.out.mono ?_
   rintro en w1 ⟨rfl,P,T3,g1,g2,g3,g4⟩
   go_wp2_with fail
   go_meet
   case rel=>exact⟨P,T3,g1,g2,g3,g4⟩
  | false =>
   have g2:Hid (Stab veC (A1 ++ B1)):=by
    have q1:=hlA1.out
    have q3:=hlB1.out
    have q4:=huB.out
    have q6:=heB.out
    have hno:¬ (a<s∧s<M):=of_decide_eq_false hiff.out.symm
    show Stab veC (A1 ++ B1)
    by_cases l1:a<s
    ·have hz:B1=[]:=List.length_eq_zero_iff.1 (by omega)
     subst hz
     rw[List.append_nil]
     exact hSU.out.1
    ·have hz:A1=[]:=List.length_eq_zero_iff.1 (by omega)
     subst hz
     exact hSU.out.2.2.1
   clear hT1 hJN hSU hiff hLen haX hlA1 hlA2 hlB1 hlB2 IH hfin
   go_wp2_with fail
   go_meet
   case rel=>exact⟨A1 ++ B1,T2,hid (List.Perm.refl _),g2,hT2H,hH⟩
 case rest =>
 clear hH hiff
 obtain⟨P,T3,hPp,hPs,hT3,hH⟩:=hcut
 have hLT3:Hid (T3.length=L):=by
  show _=_
  rw[hT3.out,←hLT2.out,hT2H.out]
  have:=hPp.out.length_eq
  simp only[List.length_append] at this ⊢
  omega
 have hlP:Hid (P.length=M-a):=by
  have:=hPp.out.length_eq
  have q1:=hlA1.out
  have q3:=hlB1.out
  have q4:=huB.out
  have q6:=heB.out
  rw[List.length_append] at this
  show _=_
  omega
 go_upto_region 43 with fail
 go_cut [213] from 206 to 213 (fun vt w'=>∃t:Bool,vt=.bool t∧Hid (t=decide (M<E∧E<b))∧Hid (HoldV gb off T3 w'))
 case first =>
  clear hJN hSU IH hfin
  by_cases l1:M<E
  ·have l1':(M:Int)<(E:Int):=by omega
   by_cases l2:E<b
   ·have l2':(E:Int)<(b:Int):=by omega
    go_wp2_with fail
    go_meet
    case rel=>exact⟨true,rfl,hid (by symm;rw[decide_eq_true_eq];omega),hH⟩
   ·have l2':¬ (E:Int)<(b:Int):=by omega
    go_wp2_with fail
    go_meet
    case rel=>exact⟨false,rfl,hid (by symm;rw[decide_eq_false_iff_not];omega),hH⟩
  ·have l1':¬ (M:Int)<(E:Int):=by omega
   go_wp2_with fail
   go_meet
   case rel=>exact⟨false,rfl,hid (by symm;rw[decide_eq_false_iff_not];omega),hH⟩
 case rest =>
 clear hH
 obtain⟨t,rfl,hiff,hH⟩:=hcut
 cases t with
 | true =>
  obtain⟨l1,l2⟩:M<E∧E<b:=of_decide_eq_true hiff.out.symm
  have C:=hid (by
   have h1:=hH.out
   rw[hT3.out] at h1
   have hLx:=hLT3.out
   rw[hT3.out] at hLx
   have q1:=hlA2.out
   have q3:=hlB2.out
   have q4:=huB.out
   have q6:=heB.out
   have hq:=hNsz.out
   have hqa:=hsumA.out
   have hqb:=hsumB.out
   have hqe:=hEB.out
   have hqp:=hlP.out
   have hqx:=haX.out
   have:=IH.out gb off cap (X ++ P) A2 B2 Y M E b L wc (by omega) (by omega) (by omega) (by rw[List.length_append];omega) (by omega) (by omega) hLx hLs hSU.out.2.1 hSU.out.2.2.2.1 hSU.out.2.2.2.2.2 (by simpa using h1)
   refine this.mono ?_
   rintro en w1 ⟨h2,S',h3,h4,h5⟩
   exact⟨h2,S',hid h3,hid h4,hid (hfin.out _ _ (by simpa using h5))⟩:Calls Tryz.prog 135 #[.slice (some ⟨gb,off,none⟩) L cap,.int .i64 M,.int .i64 E,.int .i64 b,.func (.func g) #[] #[]] wc fun en w'=>en=.returned (.tuple #[])∧∃Q:List (VT w0),Hid (Q.Perm (A2 ++ B2))∧Hid (Stab veC Q)∧Hid (G (P ++ Q) w'))
  clear hH hT1 hSU hiff hLen haX hlA1 hlA2 hlB1 hlB2 IH hfin
  go_wp2_with fail
  refine C.out.mono ?_
  rintro en w1 ⟨rfl,Q,g1,g2,g3⟩
  have hF:=hid (hJN.out P Q hPp.out hPs.out g1.out g2.out)
  clear hJN
  go_wp2_with fail
  go_end0
  exact⟨rfl,P ++ Q,hF.out.1,hF.out.2,g3.out⟩
 | false =>
  have g2:Hid (Stab veC (A2 ++ B2)):=by
   have q1:=hlA2.out
   have q3:=hlB2.out
   have q5:=hEB.out
   have q6:=heB.out
   have hno:¬ (M<E∧E<b):=of_decide_eq_false hiff.out.symm
   show Stab veC (A2 ++ B2)
   by_cases l1:M<E
   ·have hz:B2=[]:=List.length_eq_zero_iff.1 (by omega)
    subst hz
    rw[List.append_nil]
    exact hSU.out.2.1
   ·have hz:A2=[]:=List.length_eq_zero_iff.1 (by omega)
    subst hz
    exact hSU.out.2.2.2.1
  have g3:Hid (G (P ++ (A2 ++ B2)) wc):=by
   have h1:=hH.out
   rw[hT3.out] at h1
   exact hfin.out _ _ (by simpa using h1)
  have hF:=hid (hJN.out P (A2 ++ B2) hPp.out hPs.out (List.Perm.refl _) g2.out)
  clear hT1 hJN hSU hiff hLen haX hlA1 hlA2 hlB1 hlB2 IH hfin
  generalize hQ:P ++ (A2 ++ B2)=Q at *
  clear hQ
  go_wp2_with fail
  go_end0
  exact⟨rfl,Q,hF.out.1,hF.out.2,g3.out⟩
theorem qCW {w0:World}(g:Nat)(eg:∀args w,(callFunc g args).run Tryz.prog w=.ok (.enter g args) w)(hC:CmpC w0 g):∀N,SymC w0 g N
 | 0=>fun gb off cap X A B Y a m b L w hN hA hB _ _ _ _ _ _ _ _ _=>by omega
 | N+1=>fun gb off cap X A B Y a m b L w hN hA hB ha hm hb hL hLs hSA hSB ht h=>by
  by_cases h1:A.length=1
  ·obtain⟨x,rfl⟩:=List.length_eq_one_iff.1 h1
   exact qM7 g eg hC gb off cap X B Y x a m b L w ha (by simpa using hm) hb (by simpa using hL) hLs hSB (fun p hp=>ht x (by simp) p hp) (by simpa using h)
  ·by_cases h2:B.length=1
   ·obtain⟨x,rfl⟩:=List.length_eq_one_iff.1 h2
    exact qLs g eg hC gb off cap X A Y x a m b L w ha hm (by omega) (by simpa using hb) hL hLs hSA (fun p hp=>ht p hp x (by simp)) h
   ·exact qN5 g eg hC gb off cap N (qCW g eg hC N) X A B Y a m b L w hN (by omega) (by omega) ha hm hb hL hLs hSA hSB ht h
open Go.RowKit Go.Sort
set_option maxRecDepth 100000 in
set_option maxHeartbeats 12000000 in
theorem qHF {w0:World}(g:Nat)(eg:∀args w,(callFunc g args).run Tryz.prog w=.ok (.enter g args) w)(hC:CmpC w0 g)(gb off cap:Nat)(S:List (VT w0))(L:Nat)(w:World)(hL:S.length=L)(hLs:L≤1048576)(htag:(S.map (·.2)).Pairwise (·<·))(h:HoldV gb off S w) :
  Calls Tryz.prog 94 #[.slice (some ⟨gb,off,none⟩) L cap,.int .i64 L,.func (.func g) #[] #[]] w fun e w'=>e=.returned (.tuple #[])∧∃T:List (VT w0),T.Perm S∧Stab veC T∧HoldV gb off T w':=by
 have hIns:=hid (fun (A B:Nat) (D:List (VT w0)) (W:World) (hA:D.length=A) (hB:A≤B∧B≤L) (hH:HoldV gb off (D ++ S.drop A) W)=>show Calls Tryz.prog 134 #[.slice (some ⟨gb,off,none⟩) L cap,.int .i64 A,.int .i64 B,.func (.func g) #[] #[]] W fun e w'=>e=.returned (.tuple #[])∧∃P:List (VT w0),P.Perm ((S.drop A).take (B-A))∧Stab veC P∧HoldV gb off (D ++ P ++ S.drop B) w' from by
  have e1:S.drop A=(S.drop A).take (B-A) ++ S.drop B:=by
   have:=List.take_append_drop (B-A) (S.drop A)
   rw[List.drop_drop,show A+(B-A)=B by omega] at this
   exact this.symm
  exact qEF g eg hC gb off cap D ((S.drop A).take (B-A)) (S.drop B) A B L W hA (by rw[List.length_take,List.length_drop];omega) (by simp only[List.length_append,List.length_take,List.length_drop];omega) hLs (htag.sublist (List.Sublist.map _ ((List.take_sublist _ _).trans (List.drop_sublist _ _)))) (by rw[List.append_assoc,←e1];exact hH))
 have hSym:=hid (fun (X A B Y:List (VT w0)) (a m b:Nat) (W:World) (h1:0<A.length) (h2:0<B.length) (h3:X.length=a) (h4:m=a+A.length) (h5:b=m+B.length) (h6:(X ++ (A ++ B) ++ Y).length=L) (h7:Stab veC A) (h8:Stab veC B) (h9:∀p ∈ A,∀q ∈ B,p.2<q.2) (h10:HoldV gb off (X ++ (A ++ B) ++ Y) W) =>
  qCW g eg hC (A.length+B.length) gb off cap X A B Y a m b L W (Nat.le_refl _) h1 h2 h3 h4 h5 h6 hLs h7 h8 h9 h10)
 have hst:Hid (∃D:List (VT w0),D.length=0∧Ch veC 20 D (S.take 0)∧HoldV gb off (D ++ S.drop 0) w):=⟨[],rfl,Ch.nil,by simpa using h⟩
 have hLB:=hid hL
 replace htag:=hid htag
 clear h hL hC eg
 go_enter Tryz.func94,Tryz.ntmps94
 go_upto_region 2 with fail
 go_loopw [7,8] (fun v7 v8 wr=>∃A B:Nat,A≤L∧v7=.int .i64 A∧v8=.int .i64 B∧Hid (B=A+20)∧B≤L+20∧Hid (∃D:List (VT w0),D.length=A∧Ch veC 20 D (S.take A)∧HoldV gb off (D ++ S.drop A) wr)) (fun _ v8 _=>L+21-(intOf v8).toNat)
 case atStart=>exact⟨0,20,Nat.zero_le _,rfl,rfl,hid rfl,by omega,hst⟩
 case round =>
  clear hst
  obtain⟨A,B,hAL,rfl,rfl,hAB,hBL,hD⟩:=hrel
  by_cases hlt:B≤L
  ·have hlt2:(B:Int)≤(L:Int):=by omega
   have C:=hid (by
    obtain⟨D,h1,h2,h3⟩:=hD.out
    have hb:=hAB.out
    refine (hIns.out A B D wr h1 ⟨by omega,hlt⟩ h3).mono ?_
    rintro en w1 ⟨k1,P,k2,k3,k4⟩
    have hl:=k2.length_eq
    rw[List.length_take,List.length_drop,hLB.out] at hl
    refine⟨k1,D ++ P,by rw[List.length_append];omega,?_,k4⟩
    have e:=h2.snoc (s:=P) (s0:=(S.drop A).take (B-A)) (by omega) k3 k2
    rw[show S.take A ++ (S.drop A).take (B-A)=S.take B by rw[show B=A+(B-A) by omega,List.take_add];simp] at e
    exact e:Calls Tryz.prog 134 #[.slice (some ⟨gb,off,none⟩) L cap,.int .i64 A,.int .i64 B,.func (.func g) #[] #[]] wr fun e w'=>e=.returned (.tuple #[])∧∃D:List (VT w0),D.length=B∧Ch veC 20 D (S.take B)∧HoldV gb off (D ++ S.drop B) w')
   have hw1:IntKind.i64.wrap ((B:Int)+20)=((B+20:Nat):Int):=by rw[IntWalk.i64_in _ (by omega)];omega
   clear hD hAB
   go_wp2_with fail
   refine C.out.mono ?_
   rintro en w1 ⟨rfl,hD⟩
   have hD2:=hid hD
   clear hD
   go_wp2_with fail
   go_roundw
   case rel=>exact⟨B,B+20,hlt,rfl,by first | rfl | go_num,hid rfl,by omega,hD2⟩
   case measure=>simp[intOf];omega
  ·have hlt2:¬ (B:Int)≤(L:Int):=by omega
   have C:=hid (by
    obtain⟨D,h1,h2,h3⟩:=hD.out
    have hb:=hAB.out
    refine (hIns.out A L D wr h1 ⟨hAL,Nat.le_refl _⟩ h3).mono ?_
    rintro en w1 ⟨k1,P,k2,k3,k4⟩
    have hl:=k2.length_eq
    rw[List.length_take,List.length_drop,hLB.out] at hl
    rw[List.take_of_length_le (by rw[List.length_drop,hLB.out];exact Nat.le_refl _)] at k2
    rw[List.drop_of_length_le (by rw[hLB.out];exact Nat.le_refl _),List.append_nil] at k4
    exact⟨k1,D ++ P,qJE h2 k2 k3 (by omega),k4⟩:Calls Tryz.prog 134 #[.slice (some ⟨gb,off,none⟩) L cap,.int .i64 A,.int .i64 L,.func (.func g) #[] #[]] wr fun e w'=>e=.returned (.tuple #[])∧∃T:List (VT w0),Runs veC 20 T S∧HoldV gb off T w')
   clear hD hAB hIns
   go_wp2_with fail
   refine C.out.mono ?_
   rintro en w1 ⟨rfl,hT⟩
   have hT0:=hid hT
   clear hT C
   go_upto_region 7 with fail
   go_loopw [6,7,8,9] (fun v6 _ _ _ wr=>∃bs:Nat,20≤bs∧bs≤4194304∧v6=.int .i64 bs∧Hid (∃T:List (VT w0),Runs veC bs T S∧HoldV gb off T wr)) (fun v6 _ _ _ _=>L-(intOf v6).toNat)
   case atStart=>exact⟨20,Nat.le_refl _,by omega,rfl,hT0⟩
   case round =>
    clear hT0
    obtain⟨bs,hb1,hb2,rfl,hT⟩:=hrel
    by_cases hbL:bs<L
    ·have hbL2:(bs:Int)<(L:Int):=by omega
     obtain⟨b2,hb2d⟩:∃b2,b2=2 * bs:=⟨_,rfl⟩
     have hw2:IntKind.i64.wrap (2 * (bs:Int))=(b2:Int):=by rw[IntWalk.i64_in _ (by omega)];omega
     have hw3:IntKind.i64.wrap ((bs:Int) * 2)=(b2:Int):=by rw[IntWalk.i64_in _ (by omega)];omega
     have hb2H:=hid hb2d
     have hb2g:bs<b2∧b2≤2097152:=by omega
     have hb2a:=hb2g.1
     have hb2b:=hb2g.2
     clear hb2d hb2g
     have hT2:Hid (∃T:List (VT w0),Run2 veC bs 0 T S∧HoldV gb off T wr):=by
      obtain⟨T,k1,k2⟩:=hT.out
      exact⟨T,qJC k1,k2⟩
     clear hT
     go_upto_region 9 with fail
     go_loopw [7,8] (fun v7 v8 wr=>∃A B:Nat,A≤L∧v7=.int .i64 A∧v8=.int .i64 B∧Hid (B=A+b2)∧B≤L+b2∧Hid (∃T:List (VT w0),Run2 veC bs A T S∧HoldV gb off T wr)) (fun _ v8 _=>L+1+b2-(intOf v8).toNat)
     case atStart=>exact⟨0,b2,Nat.zero_le _,rfl,by first | rfl | go_num,hid (by show _=_;omega),by omega,hT2⟩
     case round =>
      clear hT2
      obtain⟨A,B,hAL,rfl,rfl,hAB,hBL,hT⟩:=hrel
      obtain⟨m,hm⟩:∃m,m=A+bs:=⟨_,rfl⟩
      have hw4:IntKind.i64.wrap ((A:Int)+(bs:Int))=(m:Int):=by rw[IntWalk.i64_in _ (by omega)];omega
      have hmH:=hid hm
      have hm1:m≤L+4194304:=by omega
      clear hm
      by_cases hlt5:B≤L
      ·have hlt6:(B:Int)≤(L:Int):=by omega
       have C:=hid (by
        obtain⟨T,k1,k2⟩:=hT.out
        have hlT:T.length=L:=by rw[k1.perm.length_eq];exact hLB.out
        have hx:=hAB.out
        have hy:=hb2H.out
        have hz:=hmH.out
        obtain⟨X,s1,s2,Y,rfl,j1,j2,j3,j4,j5,j6,j7⟩:=qJD k1 (by omega) (by omega) htag.out
        refine (hSym.out X s1 s2 Y A m B wr (by omega) (by omega) j1 (by omega) (by omega) hlT j4 j5 j6 k2).mono ?_
        rintro en w2 ⟨i1,M,i2,i3,i4⟩
        have:=j7 M i2 i3
        rw[show A+2 * bs=B by omega] at this
        exact⟨i1,X ++ M ++ Y,this,i4⟩:Calls Tryz.prog 135 #[.slice (some ⟨gb,off,none⟩) L cap,.int .i64 A,.int .i64 m,.int .i64 B,.func (.func g) #[] #[]] wr fun e w'=>e=.returned (.tuple #[])∧∃T:List (VT w0),Run2 veC bs B T S∧HoldV gb off T w')
       have hw5:IntKind.i64.wrap ((B:Int)+(b2:Int))=((B+b2:Nat):Int):=by rw[IntWalk.i64_in _ (by omega)];omega
       clear hT hAB hmH
       go_wp2_with fail
       refine C.out.mono ?_
       rintro en w2 ⟨rfl,hT⟩
       have hT3:=hid hT
       clear hT C
       go_wp2_with fail
       go_roundw
       case rel=>exact⟨B,B+b2,hlt5,rfl,by first | rfl | go_num,hid rfl,by omega,hT3⟩
       case measure=>simp[intOf];omega
      ·have hlt6:¬ (B:Int)≤(L:Int):=by omega
       have hmeas:L-b2<L-bs:=by omega
       by_cases hmL:m<L
       ·have hmL2:(m:Int)<(L:Int):=by omega
        have C:=hid (by
         obtain⟨T,k1,k2⟩:=hT.out
         have hlT:T.length=L:=by rw[k1.perm.length_eq];exact hLB.out
         have hx:=hAB.out
         have hy:=hb2H.out
         have hz:=hmH.out
         obtain⟨X,s1,s2,rfl,j1,j2,j3,j4,j5,j6,j7⟩:=qLl k1 (by omega) (by omega) (by omega) htag.out
         rw[hlT] at j3
         refine (hSym.out X s1 s2 [] A m L wr (by omega) (by omega) j1 (by omega) (by omega) hlT j4 j5 j6 k2).mono ?_
         rintro en w2 ⟨i1,M,i2,i3,i4⟩
         have:=j7 M i2 i3
         rw[←hy] at this
         exact⟨i1,X ++ M ++ [],this,i4⟩:Calls Tryz.prog 135 #[.slice (some ⟨gb,off,none⟩) L cap,.int .i64 A,.int .i64 m,.int .i64 L,.func (.func g) #[] #[]] wr fun e w'=>e=.returned (.tuple #[])∧∃T:List (VT w0),Runs veC b2 T S∧HoldV gb off T w')
        clear hT hAB hmH
        go_wp2_with fail
        refine C.out.mono ?_
        rintro en w2 ⟨rfl,hT⟩
        have hT3:=hid hT
        clear hT C
        go_wp2_with fail
        go_roundw
        case rel=>exact⟨b2,by omega,by omega,by first | rfl | go_num,hT3⟩
        case measure=>first | (simp[intOf];omega) | simpa[intOf] using hmeas
       ·have hmL2:¬ (m:Int)<(L:Int):=by omega
        have hT3:Hid (∃T:List (VT w0),Runs veC b2 T S∧HoldV gb off T wr):=by
         obtain⟨T,k1,k2⟩:=hT.out
         have hlT:T.length=L:=by rw[k1.perm.length_eq];exact hLB.out
         have hy:=hb2H.out
         have hz:=hmH.out
         have:=qLm k1 (by omega) (by omega)
         rw[←hy] at this
         exact⟨T,this,k2⟩
        clear hT hAB hmH
        go_wp2_with fail
        go_roundw
        case rel=>exact⟨b2,by omega,by omega,by first | rfl | go_num,hT3⟩
        case measure=>first | (simp[intOf];omega) | simpa[intOf] using hmeas
    ·have hbL2:¬ (bs:Int)<(L:Int):=by omega
     have hF:=hid (by
      obtain⟨T,k1,k2⟩:=hT.out
      have hlT:T.length=L:=by rw[k1.perm.length_eq];exact hLB.out
      exact⟨T,k1.perm,qM4 k1 (by omega),k2⟩:∃T:List (VT w0),T.Perm S∧Stab veC T∧HoldV gb off T wr)
     clear hT
     go_wp2_with fail
     go_end0
     exact⟨rfl,hF.out⟩
end Go.Proofs.YtcgbmmalfbpjaaaGreatDoor
