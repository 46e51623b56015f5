/-  -/
import Derived.Test.YtcgbmmalfbpjaaaGreatDoorMy
import Derived.Test.YtcgbmmalfbpjaaaGreatDoorPb
import Derived.Test.YtcgbmmalfbpjaaaGreatDoorPf
import Derived.Test.YtcgbmmalfbpjaaaGreatDoorMm
import Derived.Test.YtcgbmmalfbpjaaaGreatDoorPc
import Derived.Test.YtcgbmmalfbpjaaaGreatDoorMp
import Derived.Test.YtcgbmmalfbpjaaaGreatDoorPe
import Derived.Test.YtcgbmmalfbpjaaaGreatDoorMc
set_option maxRecDepth 100000
set_option maxHeartbeats 16000000
namespace Go.Proofs.YtcgbmmalfbpjaaaGreatDoor
open Go.RowKit Go.Sort
section
variable {w0:World}
end
def OutSoX (A:Nat→Prop) (w:World) (r:List JV × Nat) (e:Ending) (w':World):Prop:=∃(a:Option Addr) (c:Nat),e=.returned (.tuple #[.slice a r.1.length c,.int .i64 r.2])∧RdA (hideW A w') a r.1∧r.1.length≤c∧c≤9223372036854775807∧Below w.heap.size w w'
theorem uY (A:Nat→Prop)(l:List JV)(a:Option Addr)(c:Nat)(w:World)(hlX:RdA (hideW A w) a l)(hn:l.length≤1048576)(hT:Tabs w)
  (hC0:∀W,Below w.heap.size w W→(∀x ∈ l,mayJ 200 x=true)→Calls Tryz.prog 43 #[.slice a l.length c] W fun e w'=>∃(q:Option Addr) (c':Nat),e=.returned (.slice q l.length c')∧l.length≤c'∧c'≤9223372036854775807∧Below w.heap.size w w' ∧
   Calls Tryz.prog 61 #[.slice q l.length c',.func (.func 62) #[] #[]] w' fun e w2=>e=.returned (.tuple #[])∧RdA (hideW A w2) q (sortS (orderJ 201) l)∧Below w.heap.size w w2) :
  Calls Tryz.prog 35 #[.slice a l.length c] w (OutSoX A w (sortR l)):=by
 have hl:=hlX.sub (aC A w)
 have hM:=hid fun (x:JV) (cs:List Value) (W:World) (hb:Below w.heap.size w W) (r:RdV W cs x)=>bQ x cs W r (hT.below hb)
 have hCl:=hid hC0
 clear hC0
 obtain⟨n,hnd⟩:∃n,n=l.length:=⟨_,rfl⟩
 have hnB:=hid hnd
 rw[←hnd] at hCl hn ⊢
 have hLd:=hid hl
 obtain⟨Q,hQ⟩:∃Q:Ending→World→Prop,Q=OutSoX A w (sortR l):=⟨_,rfl⟩
 have hno:=hid (show (¬ ∀x ∈ l,mayJ 200 x=true)→∀w',Below w.heap.size w w'→Q (.returned (.tuple #[.slice none 0 0,.int .i64 1])) w' from fun h w' hb=>by
  rw[hQ,DR h]
  exact⟨none,0,rfl,fun i x hx=>by simp at hx,Nat.le_refl _,by omega,hb⟩)
 have hyes:=hid (show (∀x ∈ l,mayJ 200 x=true)→∀(q:Option Addr) (c':Nat) w',n≤c'→c'≤9223372036854775807→RdA (hideW A w') q (sortS (orderJ 201) l)→Below w.heap.size w w'→Q (.returned (.tuple #[.slice q n c',.int .i64 0])) w' from fun h q c' w' h1 h2 h3 h4=>by
  rw[hQ,pg h]
  have e:(sortS (orderJ 201) l).length=n:=by rw[(fP l).length_eq,hnd]
  exact⟨q,c',by rw[show (sortS (orderJ 201) l,0).1.length=n from e];rfl,h3,by rw[show (sortS (orderJ 201) l,0).1.length=n from e];exact h1,h2,h4⟩)
 rw[←hQ]
 clear hQ hl hlX hT hnd
 go_enter Tryz.func35,Tryz.ntmps35
 go_upto_region 2 with fail
 go_loopw [5,9] (fun _ v9 wr=>∃k:Nat,k≤n∧v9=.int .i64 k∧Hid (∀x ∈ l.take k,mayJ 200 x=true)∧Hid (Below w.heap.size w wr)) (fun _ v9 _=>n-(intOf v9).toNat)
 case atStart=>exact⟨0,Nat.zero_le _,rfl,hid (by simp),hid (Below.refl _ _)⟩
 case round =>
  obtain⟨k,hk,rfl,hA,hb⟩:=hrel
  by_cases hlt:k<n
  ·have hlt2:(k:Int)<(n:Int):=by omega
   have hk1:k<l.length:=by have:=hnB.out;omega
   obtain⟨b,off,a1,c1,aa1,ac1,oa1,oc1,rfl,P1,C1⟩:=(hLd.out.below hb.out).at hk1
   have rd:=P1.rd
   clear P1
   unfold Cells7 strV at C1
   obtain⟨x,hx⟩:∃x,x=l[k]:=⟨_,rfl⟩
   rw[←hx] at C1 rd
   have hM2:=hid (fun W' (hb':Below wr.heap.size wr W')=>hM.out x _ W' (ae hb.out hb') (rd.stay hb'))
   unfold valCs strV at hM2
   obtain⟨C10,C11,C12,C13,C14,C15,C16⟩:=C1
   generalize (⟨x.s.toArray⟩:ByteArray)=sb at hM2 C14
   have hl1:=ax C10
   obtain⟨d,hd⟩:∃d,d=mayJ 200 x:=⟨_,rfl⟩
   rw[←hd] at hM2
   have hxd:=hid (And.intro hx hd)
   have hst:=hid (show l.take (k+1)=l.take k ++ [x] by rw[List.take_succ_eq_append_getElem hk1,hx])
   clear hx hd rd
   cases d with
   | true =>
    have hA2:Hid (∀y ∈ l.take (k+1),mayJ 200 y=true):=by
     intro y hy
     rw[hst.out] at hy
     rcases List.mem_append.1 hy with h | h
     ·exact hA.out y h
     ·rw[List.mem_singleton.1 h];exact hxd.out.2.symm
    clear hA hst hxd hno hyes hCl
    go_wp2_with fail
    refine (hM2.out _ ((Below.refl _ _).alloc (Nat.le_refl _) _)).mono ?_
    rintro en w1 ⟨rfl,hb1⟩
    have hb2:=hid (ae hb.out (ae ((Below.refl _ _).alloc (Nat.le_refl _) _) hb1))
    clear hb1 C10 C11 C12 C13 C14 C15 C16
    go_wp2_with fail
    go_roundw
    case rel=>exact⟨k+1,by omega,by go_num,hA2,hb2⟩
    case measure=>simp[intOf];omega
   | false =>
    have hnot:¬ ∀y ∈ l,mayJ 200 y=true:=by
     intro h
     have:=h x (by rw[hxd.out.1];exact List.getElem_mem hk1)
     rw[←hxd.out.2] at this
     cases this
    have hR:=hid (hno.out hnot)
    clear hA hst hxd hno hyes hCl hnot
    go_wp2_with fail
    refine (hM2.out _ ((Below.refl _ _).alloc (Nat.le_refl _) _)).mono ?_
    rintro en w1 ⟨rfl,hb1⟩
    have hb2:=hid (ae hb.out (ae ((Below.refl _ _).alloc (Nat.le_refl _) _) hb1))
    clear hb1 C10 C11 C12 C13 C14 C15 C16
    go_wp2_with fail
    exact hR.out _ hb2.out
  ·obtain rfl:k=n:=by omega
   have hlt2:¬ (k:Int)<(k:Int):=by omega
   have hall:∀x ∈ l,mayJ 200 x=true:=by
    have:=hA.out
    rw[List.take_of_length_le (by have:=hnB.out;omega)] at this
    exact this
   have C:=hid (hCl.out wr hb.out hall)
   have hY:=hid (hyes.out hall)
   clear hA hall hCl hyes hno hM hLd
   go_wp2_with fail
   refine C.out.mono ?_
   rintro en w1 ⟨q,c',rfl,h1,h2,_,h4⟩
   have hC4:=hid h4
   have h12:=hid (And.intro h1 h2)
   clear h1 h2 h4 C
   go_wp2_with fail
   refine hC4.out.mono ?_
   rintro en w2 ⟨rfl,h5,h6⟩
   have hF:=hid (hY.out q c' w2 h12.out.1 h12.out.2 h5 h6)
   clear h5 h6
   go_wp2_with fail
   exact hF.out
end Go.Proofs.YtcgbmmalfbpjaaaGreatDoor

namespace Go.Proofs.YtcgbmmalfbpjaaaGreatDoor
open Go.RowKit
def RdP (w:World) (pa:Option Addr) (ps:List (List JV)):Prop:=∀(i:Nat) (p:List JV),ps[i]? = some p→∃(pb po:Nat) (a:Option Addr) (c:Nat),pa=some ⟨pb,po,none⟩∧w.cell? ⟨pb,po+i,none⟩=some (.slice a p.length c)∧RdA w a p∧p.length≤c∧c≤9223372036854775807
theorem sN {W:World}{yk:Int}{yg:Bool}{ya:Option Addr}{yl yc:Nat}{ye:Int}{ys:ByteArray}{yaa:Option Addr}{yan yac:Nat}{yoa:Option Addr}{yon yoc:Nat}{t:JV}(h:RdV W [.int .i64 yk,.bool yg,.slice ya yl yc,.int .i64 ye,.string ys,.slice yaa yan yac,.slice yoa yon yoc] t):RdA W yaa t.arr∧yan=t.arr.length∧yan≤yac∧yac≤9223372036854775807:=by
 obtain⟨a,c,aa,ac,oa,oc,P⟩:=h.parts
 have e:=P.cells
 unfold valCs at e
 simp only[List.cons.injEq,Value.slice.injEq] at e
 obtain⟨_,_,_,_,_,⟨rfl,rfl,rfl⟩,_⟩:=e
 exact⟨P.arr,rfl,P.ac.1,P.ac.2⟩
theorem zt (SL:List JV)(u:JV){k:Nat}(hk:k<SL.length):delJ u SL[k+1]? ((SL.take (k+1)).reverse) =
  (if (∃x,SL[k+1]? = some x∧orderJ 201 SL[k] x=0) then delJ u SL[k]? ((SL.take k).reverse) else if (goneJ u (SL[k]).arr).2≠0 then (.null,(goneJ u (SL[k]).arr).2) else delJ (goneJ u (SL[k]).arr).1 SL[k]? ((SL.take k).reverse)):=by
 rw[List.take_succ_eq_append_getElem hk,List.reverse_append,List.reverse_singleton,List.singleton_append,List.getElem?_eq_getElem hk,delJ]
theorem vV {w:World}{q:Option Addr}{n c:Nat}{l:List JV}(hl:n=l.length)(h:RdA w q l)(hc:n≤c∧c≤9223372036854775807) :
  RdV w [.int .i64 5,.bool false,.slice none 0 0,.int .i64 0,.string ⟨#[]⟩,.slice q n c,.slice none 0 0] (arrJ l):=by
 subst hl
 exact PartsV.rd (v:=arrJ l) (a:=none) (c:=0) (aa:=q) (ac:=c) (oa:=none) (oc:=0) ⟨rfl,by unfold I64;simp[arrJ,JV.kind],by unfold I64;simp[arrJ,JV.e],by simp[arrJ,JV.s],hc,by simp[arrJ,JV.obj],by simp[arrJ,JV.ls],⟨Row.nil _ _,fun x hx=>by cases hx⟩,h,fun i x hx=>by simp[arrJ,JV.obj] at hx⟩
theorem vW {W:World}{b:Nat}{T:TypeId}{x0 x1 x2 x3 x4 x5 x6:Value}(h:W.heap[b]? = some (.cells #[x0,x1,x2,x3,x4,x5,x6] T (0,0))):∀(j:Nat) (u:Value),[x0,x1,x2,x3,x4,x5,x6][j]? = some u→∃ad,(some ⟨b,0,none⟩:Option Addr)=some ad∧W.cell? (ad.add j)=some u:=by
 intro j u hj
 refine⟨_,rfl,?_⟩
 rw[Addr.add_lit,Nat.zero_add]
 simp only[World.cell?,h]
 simpa using hj
theorem DZ {q:Option Addr}{n c:Nat}:∀u ∈ [Value.int .i64 5,.bool false,.slice none 0 0,.int .i64 0,.string ⟨#[]⟩,.slice q n c,.slice none 0 0],u.oneCell'=true:=by
 intro u hu
 simp only[List.mem_cons,List.not_mem_nil,or_false] at hu
 rcases hu with rfl | rfl | rfl | rfl | rfl | rfl | rfl<;>rfl
open Classical in
theorem sO (A:Nat→Prop)(xk:Int)(xg:Bool)(xa:Option Addr)(xl xc:Nat)(xe:Int)(xs:ByteArray)(xaa:Option Addr)(xan xac:Nat)(xoa:Option Addr)(xon xoc:Nat)(pa:Option Addr)(n pc:Nat)(v:JV)(ps:List (List JV))(r:JV)(er:Nat)(w:World)(hIn:In A w)(hn:n=ps.length)(hnB:n≤1048576)(rv:RdX A w [.int .i64 xk,.bool xg,.slice xa xl xc,.int .i64 xe,.string xs,.slice xaa xan xac,.slice xoa xon xoc] v)(sv:SmallV v)(rp:RdP w pa ps)(hps:∀p ∈ ps,p.length≤1048576∧∀x ∈ p,SmallV x)(hT:Tabs w)
  (SORT:∀(l:List JV) (a:Option Addr) (c:Nat) (w2:World) (A2:Nat→Prop),l.length=n→In A2 w2→RdA (hideW A2 w2) a l→(∀x ∈ l,SmallV x)→Tabs w2→Calls Tryz.prog 35 #[.slice a l.length c] w2 (OutSoX A2 w2 (sortR l)))
  (CMP:2≤n→∀(y y2:JV) (cy c2:List Value) (W:World),mayJ 200 y=true→mayJ 200 y2=true→SmallV y→SmallV y2→RdV W cy y→RdV W c2 y2→Tabs W→Calls Tryz.prog 36 #[.agg cy.toArray,.agg c2.toArray] W fun en w'=>en=.returned (.tuple #[.int .i64 (orderJ 201 y y2),.int .i64 0])∧Below W.heap.size W w')
  (hbad:¬ ((∀p ∈ ps,∀x ∈ p,mayJ 200 x=true)∧mayJ 200 v=true∧(∀p ∈ ps,mayJ 200 (arrJ p)=true))→r=.null∧er=1)
  (hok:(∀p ∈ ps,∀x ∈ p,mayJ 200 x=true)→mayJ 200 v=true→(∀p ∈ ps,mayJ 200 (arrJ p)=true)→delJ v none (sortS (orderJ 201) (ps.map arrJ)).reverse=(r,er)) :
  Calls Tryz.prog 18 #[.agg #[.int .i64 xk,.bool xg,.slice xa xl xc,.int .i64 xe,.string xs,.slice xaa xan xac,.slice xoa xon xoc],.slice pa n pc] w (OutX A w r er):=by
 obtain⟨W,hW⟩:∃W,W=(w.alloc (.cells #[.int .i64 xk,.bool xg,.slice xa xl xc,.int .i64 xe,.string xs,.slice xaa xan xac,.slice xoa xon xoc] 28)).alloc (.cells #[.int .i64 0,.bool false,.slice none 0 0,.int .i64 0,.string ⟨#[]⟩,.slice none 0 0,.slice none 0 0] 28):=⟨_,rfl⟩
 obtain⟨b0,b1,b2⟩:=bG w #[.int .i64 xk,.bool xg,.slice xa xl xc,.int .i64 xe,.string xs,.slice xaa xan xac,.slice xoa xon xoc] #[.int .i64 0,.bool false,.slice none 0 0,.int .i64 0,.string ⟨#[]⟩,.slice none 0 0,.slice none 0 0] 28 28
 rw[←hW] at b0 b1 b2
 have HI:=hid (show In (And1 (And1 A w.heap.size) (w.heap.size+1)) W from fun k hk=>by
  have:=aA b2
  rcases hk with (hk | hk) | hk
  ·exact hIn.next b0 k hk
  ·omega
  ·omega)
 have hrv:=hid (show RdX (And1 (And1 A w.heap.size) (w.heap.size+1)) W [.int .i64 xk,.bool xg,.slice xa xl xc,.int .i64 xe,.string xs,.slice xaa xan xac,.slice xoa xon xoc] v from RdV.sub rv (az (A':=And1 (And1 A w.heap.size) (w.heap.size+1)) (fun n hn h=>by rcases h with (h | h) | h;exact h;omega;omega) b0))
 have HB:=hid b0
 have HX:=hid b1
 have HZ:=hid b2
 replace hW:=hid hW.symm
 clear b0 b1 b2 hIn rv
 have HT:=hid hT
 replace rp:=hid rp
 replace hps:=hid hps
 replace hok:=hid hok
 replace SORT:=hid SORT
 replace CMP:=hid CMP
 replace hbad:=hid hbad
 have hnn:=hid hn
 have sv2:=hid sv
 have hwN:Hid (w.heap.size≤w.heap.size+1):=by show w.heap.size≤_;omega
 obtain⟨Q,hQ⟩:∃Q,Q=OutX A w r er:=⟨_,rfl⟩
 have hput:=hid (show ∀t et W' z0 z1 z2 z3 z4 z5 z6,t=r→et=er→RdX (And1 (And1 A w.heap.size) (w.heap.size+1)) W' [z0,z1,z2,z3,z4,z5,z6] t→Below w.heap.size w W'→Q (.returned (.tuple #[.agg #[z0,z1,z2,z3,z4,z5,z6],.int .i64 et])) (W'.setCells (w.heap.size+1) 0 [z0,z1,z2,z3,z4,z5,z6]) from fun t et W' z0 z1 z2 z3 z4 z5 z6 e1 e2 h1 h2=>by
  subst e1 e2
  rw[hQ];exact aZ (RdX.less h1 fun k hk=>hk.elim (fun h=>Or.inl (Or.inl h)) Or.inr) h2 hwN.out)
 have hnone:=hid (show ∀et:Nat,r=.null→et=er→∀W',Below w.heap.size w W'→Q (.returned (.tuple #[.agg #[.int .i64 0,.bool false,.slice none 0 0,.int .i64 0,.string ⟨#[]⟩,.slice none 0 0,.slice none 0 0],.int .i64 et])) (W'.setCells (w.heap.size+1) 0 [.int .i64 0,.bool false,.slice none 0 0,.int .i64 0,.string ⟨#[]⟩,.slice none 0 0,.slice none 0 0]) from fun et h1 h2 W' hb=>by
  subst h1 h2
  rw[hQ]
  exact aO hb hwN.out)
 rw[←hQ]
 clear hQ sv hT hn
 obtain⟨i0,i1,i2,i3,z,i4,i5⟩:=eG
 replace i1:=hid i1
 replace i2:=hid i2
 replace i3:=hid i3
 replace i4:=hid i4
 replace i5:=hid i5
 replace hnB:=hid hnB
 go_enter Tryz.func18,Tryz.ntmps18
 go_upto_region 1 with fail
 rw[hW.out]
 go_upto_region 3 with fail
 go_loopw [6,8,15] (fun v6 _ v15 wr=>∃i:Nat,∃E:List (ZE w),i≤n∧v15=.int .i64 i∧Hid (wr.ownsRow W.heap.size 28 7 v6 i (E.flatMap ZE.cs))∧Hid (E.map ZE.v=(ps.take i).map arrJ)∧Hid (∀p ∈ ps.take i,∀x ∈ p,mayJ 200 x=true)∧Hid (Below W.heap.size W wr)) (fun _ _ v15 _=>n-(intOf v15).toNat)
 case atStart=>exact⟨0,[],Nat.zero_le _,rfl,hid (World.ownsRow_nil _ _ _ _),hid rfl,hid (by simp),hid (Below.refl _ _)⟩
 case round =>
  obtain⟨i,E,hi,rfl,hO,hE,hM,hB⟩:=hrel
  have hnB3:n≤1048576:=hnB.out
  have z1:=hid (af HZ.out hB.out)
  have q1:=hid (ae HB.out hB.out)
  by_cases hlt:i<n
  ·have hlt2:(i:Int)<(n:Int):=by omega
   have hi1:i<ps.length:=by rw[←hnn.out];exact hlt
   obtain⟨p,hp⟩:∃p,p=ps[i]:=⟨_,rfl⟩
   have hpm:p ∈ ps:=by rw[hp];exact List.getElem_mem hi1
   have hst:=hid (show ps.take (i+1)=ps.take i ++ [p] by rw[List.take_succ_eq_append_getElem hi1,hp])
   obtain⟨pb,po,a,c,rfl,u0,ra,hc1,hc2⟩:=rp.out i p (by rw[hp];exact List.getElem?_eq_getElem hi1)
   have hsp:=hps.out p hpm
   replace u0:=SubW.below q1.out _ _ u0
   have hlu:=ax u0
   have CM:=bP p a c wr (ra.below q1.out) (by omega) (HT.out.below q1.out)
   obtain⟨d,hd⟩:∃d,d=decide (∀x ∈ p,mayJ 200 x=true):=⟨_,rfl⟩
   rw[←hd] at CM
   replace hd:=hid hd
   replace hpm:=hid hpm
   replace CM:=hid CM
   have hcc:=hid (And.intro hc1 hc2)
   replace ra:=hid ra
   replace hsp:=hid hsp
   obtain⟨pl,hpl⟩:∃pl,pl=p.length:=⟨_,rfl⟩
   rw[←hpl] at u0 CM hcc
   replace hpl:=hid hpl
   clear hc1 hc2 hp hi1
   go_wp2_with fail
   refine CM.out.mono ?_
   rintro en w1 ⟨rfl,hb⟩
   have q2:=hid (ae q1.out hb)
   have B2:=hid (ae hB.out hb)
   have z2:=hid (af z1.out hb)
   have O2:=hid (aH hO.out hb)
   clear hb CM u0 z1 hlu
   cases d with
   | false =>
    have hnot:¬ ∀x ∈ p,mayJ 200 x=true:=by
     have:=hd.out
     exact of_decide_eq_false this.symm
    obtain⟨e1,e2⟩:=hbad.out (fun h=>hnot (h.1 p hpm.out))
    have hq:=hid (hnone.out 1 e1 e2.symm _ q2.out)
    obtain⟨⟨r0,r1,r2,r3,r4,r5,r6⟩,s0,s1,s2,s3,s4,s5,s6⟩:=ag z2.out
    clear hnone hput hbad hok hnot e1 e2 hd
    go_wp2_with fail
    refine bodyPost_ret (v:=.tuple #[.agg #[.int .i64 0,.bool false,.slice none 0 0,.int .i64 0,.string ⟨#[]⟩,.slice none 0 0,.slice none 0 0],.int .i64 1]) (by simp[results,Tryz.results18,go_sem,r0,r1,r2,r3,r4,r5,r6]) rfl ?_
    exact hq.out
   | true =>
    have hyes:=hid (show ∀x ∈ p,mayJ 200 x=true from of_decide_eq_true hd.out.symm)
    clear hd z2
    go_wp2_with fail
    refine (bz a pl c w1).mono ?_
    rintro en w2 ⟨rfl,hb⟩
    have B3:=hid (ae B2.out hb)
    have O3:=hid (aH O2.out hb)
    clear hb B2 O2 q2 q1
    have hbA:=(Below.refl w2.heap.size w2).alloc (Nat.le_refl _) (.cells #[.int .i64 5,.bool false,.slice none 0 0,.int .i64 0,.string ⟨#[]⟩,.slice a pl c,.slice none 0 0] 28)
    have hnw:=hid (vW (aj w2 (.cells #[.int .i64 5,.bool false,.slice none 0 0,.int .i64 0,.string ⟨#[]⟩,.slice a pl c,.slice none 0 0] 28)))
    have B4:=hid (ae B3.out hbA)
    have O4:=hid (aH O3.out hbA)
    clear hbA B3 O3
    go_wp2_with (at_builtin;refine dX rfl _ _ _ rfl W.heap.size _ i0 z 7 112 Tryz.underlying25 i1.out i4.out i2.out i3.out i5.out (by decide) _ i _ rfl O4.out (some ⟨w2.heap.size,0,none⟩) 1 1 _ rfl rfl hnw.out DZ (by unfold maxLen;have:=hnB.out;omega) (by have:=hnB.out;omega) B4.out.size ?_;intro v' w' hown' hb')
    replace hown':=hid hown'
    have B5:=hid (B4.out.trans hb')
    clear hb' B4 O4 hnw
    go_wp2_with fail
    go_roundw
    case rel=>exact⟨i+1,E ++ [⟨_,arrJ p,vV hpl.out ra.out hcc.out⟩],by omega,by go_num,hid (by rw[List.flatMap_append];simpa using hown'.out),hid (by rw[hst.out,List.map_append,List.map_append,hE.out];rfl),hid (fun p' hp'=>by rw[hst.out] at hp';rcases List.mem_append.1 hp' with h | h;exact hM.out p' h;rw[List.mem_singleton.1 h];exact hyes.out),B5⟩
    case measure=>simp[intOf];omega
  ·obtain rfl:i=n:=by omega
   have hlt2:¬ ((i:Nat):Int)<(i:Int):=by omega
   have hE2:=hE.out
   rw[List.take_of_length_le (by rw[←hnn.out];exact Nat.le_refl _)] at hE2
   have hMa:=hM.out
   rw[List.take_of_length_le (by rw[←hnn.out];exact Nat.le_refl _)] at hMa
   have hEl:i=E.length:=by have:=congrArg List.length hE2;simpa[hnn.out] using this.symm
   have hO2:=hO.out
   rw[hEl] at hO2
   obtain⟨q,qn,qc,hv6⟩:∃q qn qc,u6=.slice q qn qc:=by
    obtain⟨_,⟨h,_⟩ | ⟨g,c2,cur,h,_⟩⟩:=hO2
    ·exact⟨_,_,_,h⟩
    ·exact⟨_,_,_,h⟩
   subst hv6
   have hwW:=aA HX.out
   have hfin:=lQ (A:=fun k=>k=w.heap.size) (E:=E) (fun k h=>by rw[h];exact hwW) (fun a u hu=>aI.2 ⟨fun h=>by have:=World.block_lt_of_cell? w a hu;omega,SubW.below q1.out a u hu⟩) hO2
   rw[hE2] at hfin
   obtain⟨g1,gn,g2,g3⟩:=hfin
   obtain rfl:qn=i:=by rw[gn,hEl]
   have hL0:=hid (show (ps.map arrJ).length=qn by rw[List.length_map,hnn.out])
   have gq:=hid (And.intro g2 g3)
   have gR:=hid g1
   have hMa2:=hid hMa
   clear hO2 hE hO hM g1 gn g2 g3 hMa hE2 hEl i1 i2 i3 i4 i5 hlt
   have x1:=hid (af HX.out hB.out)
   have i1':=hid (HI.out.next hB.out)
   have r1':=hid (hrv.out.stay hB.out)
   obtain⟨⟨p0,p1,p2,p3,p4,p5,p6⟩,_⟩:=ag x1.out
   have hbA:=(Below.refl wr.heap.size wr).alloc (Nat.le_refl _) (.cells #[.int .i64 xk,.bool xg,.slice xa xl xc,.int .i64 xe,.string xs,.slice xaa xan xac,.slice xoa xon xoc] 28)
   have hnw:=aj wr (.cells #[.int .i64 xk,.bool xg,.slice xa xl xc,.int .i64 xe,.string xs,.slice xaa xan xac,.slice xoa xon xoc] 28)
   have CM1:=bP [v] (some ⟨wr.heap.size,0,none⟩) 1 _ (rda1 xk xg xa xl xc xe xs xaa xan xac xoa xon xoc hnw ((RdX.rd r1'.out).stay hbA)) (by simp) (HT.out.below (ae q1.out hbA))
   obtain⟨d1,hd1⟩:∃d,d=decide (∀x ∈ [v],mayJ 200 x=true):=⟨_,rfl⟩
   rw[←hd1] at CM1
   replace hd1:=hid hd1
   replace CM1:=hid CM1
   have q2:=hid (ae q1.out hbA)
   have b2:=hid hbA
   clear hnw hbA
   go_wp2_with fail
   refine CM1.out.mono ?_
   rintro en w1 ⟨rfl,hb⟩
   have q3:=hid (ae q2.out hb)
   have b3:=hid (ae b2.out hb)
   clear hb CM1 q2 b2 p0 p1 p2 p3 p4 p5 p6
   cases d1 with
   | false =>
    have hnot:¬ mayJ 200 v=true:=fun h=>of_decide_eq_false hd1.out.symm (by simpa using h)
    obtain⟨e1,e2⟩:=hbad.out (fun h=>hnot h.2.1)
    have hq:=hid (hnone.out 1 e1 e2.symm _ q3.out)
    obtain⟨⟨r0,r1,r2,r3,r4,r5,r6⟩,s0,s1,s2,s3,s4,s5,s6⟩:=ag (af z1.out b3.out)
    clear hnone hput hbad hok hnot e1 e2 hd1
    go_wp2_with fail
    refine bodyPost_ret (v:=.tuple #[.agg #[.int .i64 0,.bool false,.slice none 0 0,.int .i64 0,.string ⟨#[]⟩,.slice none 0 0,.slice none 0 0],.int .i64 1]) (by simp[results,Tryz.results18,go_sem,r0,r1,r2,r3,r4,r5,r6]) rfl ?_
    exact hq.out
   | true =>
    have hmv:mayJ 200 v=true:=by have:=of_decide_eq_true hd1.out.symm;simpa using this
    have gR2:=hid (gR.out.sub (az (A:=fun k=>k=w.heap.size) (A':=fun k=>k=w.heap.size) (fun _ _ h=>h) b3.out))
    have CM2:=bP (ps.map arrJ) q qc w1 (gR2.out.sub (aC _ _)) (by rw[hL0.out];omega) (HT.out.below q3.out)
    obtain⟨d2,hd2⟩:∃d,d=decide (∀x ∈ ps.map arrJ,mayJ 200 x=true):=⟨_,rfl⟩
    rw[←hd2,hL0.out] at CM2
    replace hd2:=hid hd2
    replace CM2:=hid CM2
    have hmv2:=hid hmv
    clear hd1 hmv gR
    go_wp2_with fail
    refine CM2.out.mono ?_
    rintro en w2 ⟨rfl,hb⟩
    have q4:=hid (ae q3.out hb)
    have b4:=hid (ae b3.out hb)
    have gR3:=hid (gR2.out.sub (az (A:=fun k=>k=w.heap.size) (A':=fun k=>k=w.heap.size) (fun _ _ h=>h) hb))
    clear hb CM2 q3 b3 gR2
    cases d2 with
    | false =>
     have hnot:¬ ∀p ∈ ps,mayJ 200 (arrJ p)=true:=fun h=>of_decide_eq_false hd2.out.symm (fun y hy=>by
      obtain⟨p,hp,rfl⟩:=List.mem_map.1 hy
      exact h p hp)
     obtain⟨e1,e2⟩:=hbad.out (fun h=>hnot h.2.2)
     have hq:=hid (hnone.out 1 e1 e2.symm _ q4.out)
     obtain⟨⟨r0,r1,r2,r3,r4,r5,r6⟩,s0,s1,s2,s3,s4,s5,s6⟩:=ag (af z1.out b4.out)
     clear hnone hput hbad hok hnot e1 e2 hd2
     go_wp2_with fail
     refine bodyPost_ret (v:=.tuple #[.agg #[.int .i64 0,.bool false,.slice none 0 0,.int .i64 0,.string ⟨#[]⟩,.slice none 0 0,.slice none 0 0],.int .i64 1]) (by simp[results,Tryz.results18,go_sem,r0,r1,r2,r3,r4,r5,r6]) rfl ?_
     exact hq.out
    | true =>
     have hma:∀y ∈ ps.map arrJ,mayJ 200 y=true:=of_decide_eq_true hd2.out.symm
     have hsa:∀y ∈ ps.map arrJ,SmallV y:=fun y hy=>by
      obtain⟨p,hp,rfl⟩:=List.mem_map.1 hy
      exact fA (hps.out p hp).1 (hps.out p hp).2
     have hd:=hid (hok.out hMa2.out hmv2.out (fun p hp=>hma _ (List.mem_map_of_mem hp)))
     have CSo:=SORT.out (ps.map arrJ) q qc w2 (fun k=>k=w.heap.size) hL0.out (fun k h=>by rw[h];exact Nat.lt_of_lt_of_le hwW (Nat.le_trans hB.out.size b4.out.size)) gR3.out hsa (HT.out.below q4.out)
     rw[pg hma,hL0.out] at CSo
     have hSL:=hid (show ∀y ∈ sortS (orderJ 201) (ps.map arrJ),mayJ 200 y=true∧SmallV y from fun y hy=>⟨hma y ((fP _).mem_iff.1 hy),hsa y ((fP _).mem_iff.1 hy)⟩)
     have hSn:=hid (show (sortS (orderJ 201) (ps.map arrJ)).length=qn by rw[(fP _).length_eq,hL0.out])
     generalize sortS (orderJ 201) (ps.map arrJ)=SL at *
     unfold OutSoX at CSo
     dsimp only at CSo
     rw[hSn.out] at CSo
     replace CSo:=hid CSo
     clear hma hsa hd2 hMa2 hok hbad gR3 hps rp
     go_wp2_with fail
     refine CSo.out.mono ?_
     rintro en w3 ⟨a2,c2,rfl,hRS,hc2a,hc2b,hb⟩
     have q5:=hid (ae q4.out hb)
     have b5:=hid (ae b4.out hb)
     replace hRS:=hid hRS
     have x5:=hid (af x1.out b5.out)
     have z5:=hid (af z1.out b5.out)
     have i5:=hid (i1'.out.next b5.out)
     have r5':=hid (r1'.out.stay b5.out)
     clear hb CSo q4 b4 x1 z1 i1' r1' HX HZ HI hrv HB hB q1 b5 hW
     go_upto_region 13 with fail
     go_loopw [9,10,11,12] (fun v9 _ _ _ wr=>∃(j:Nat) (u:JV),∃ck cg ca cl cc ce cs caa can cac coa con coc,j≤qn∧v9=.int .i64 ((j:Int)-1)∧Hid (delJ u SL[j]? ((SL.take j).reverse)=(r,er))∧Hid (mayJ 200 u=true)∧Hid (SmallV u)∧Hid (RdX (And1 (And1 A w.heap.size) (w.heap.size+1)) wr [.int .i64 ck,.bool cg,.slice ca cl cc,.int .i64 ce,.string cs,.slice caa can cac,.slice coa con coc] u) ∧
      Hid (wr.heap[w.heap.size]? = some (.cells #[.int .i64 ck,.bool cg,.slice ca cl cc,.int .i64 ce,.string cs,.slice caa can cac,.slice coa con coc] 28))∧Hid (wr.heap[w.heap.size+1]? = some (.cells #[.int .i64 0,.bool false,.slice none 0 0,.int .i64 0,.string ⟨#[]⟩,.slice none 0 0,.slice none 0 0] 28))∧Hid (Below w.heap.size w wr)∧Hid (In (And1 (And1 A w.heap.size) (w.heap.size+1)) wr)∧Hid (RdA (hideW (fun k=>k=w.heap.size) wr) a2 SL)) (fun v9 _ _ _ _=>(intOf v9+1).toNat)
     case atStart=>exact⟨qn,v,xk,xg,xa,xl,xc,xe,xs,xaa,xan,xac,xoa,xon,xoc,Nat.le_refl _,by go_num,hid (by rw[List.getElem?_eq_none (by rw[hSn.out];exact Nat.le_refl _),List.take_of_length_le (by rw[hSn.out];exact Nat.le_refl _)];exact hd.out),hmv2,sv2,r5',x5,z5,q5,i5,hRS⟩
     case round =>
      obtain⟨j,u,ck,cg,ca,cl,cc,ce,cs,caa,can,cac,coa,con,coc,hj,rfl,hg,hmu,hsu,hru,hx,hz,hB,hI,hR⟩:=hrel
      clear x5 z5 q5 i5 r5' hd hmv2 sv2 hRS
      obtain⟨⟨p0,p1,p2,p3,p4,p5,p6⟩,f0,f1,f2,f3,f4,f5,f6⟩:=ag hx.out
      cases j with
      | zero =>
       have hg2:=hg.out
       rw[List.take_zero,List.reverse_nil,delJ] at hg2
       have e1:u=r:=congrArg Prod.fst hg2
       have e2:0=er:=congrArg Prod.snd hg2
       have hF:=hid (hput.out u 0 wr _ _ _ _ _ _ _ e1 e2 hru.out hB.out)
       obtain⟨⟨r0,r1,r2,r3,r4,r5,r6⟩,s0,s1,s2,s3,s4,s5,s6⟩:=ag hz.out
       have h1:¬ (((0:Nat):Int)-1 ≥ 0):=by omega
       clear hg hg2 e1 e2 hput hnone hR
       go_wp2_with fail
       refine bodyPost_ret (v:=.tuple #[.agg #[.int .i64 ck,.bool cg,.slice ca cl cc,.int .i64 ce,.string cs,.slice caa can cac,.slice coa con coc],.int .i64 0]) (by simp[results,Tryz.results18,go_sem,r0,r1,r2,r3,r4,r5,r6]) rfl ?_
       exact hF.out
      | succ k =>
       rw[show (((k+1:Nat):Int)-1)=(k:Int) by omega]
       have hk1:k<SL.length:=by rw[hSn.out];exact hj
       have hg2:=hg.out
       rw[zt SL u hk1] at hg2
       obtain⟨y,hy⟩:∃y,y=SL[k]:=⟨_,rfl⟩
       rw[←hy] at hg2
       have hyS:SL[k]? = some y:=by rw[hy];exact List.getElem?_eq_getElem hk1
       have hsy:=hid (hSL.out y (by rw[hy];exact List.getElem_mem hk1))
       obtain⟨cy,⟨bS,oS,rfl,hcyH⟩,rdyH⟩:=hR.out k y hyS
       have rdy:=rdyH.sub (aC _ _)
       obtain⟨yk,yg,ya,yl,yc,ye,ys,yaa,yan,yac,yoa,yon,yoc,rfl⟩:=rdy.sevenB
       have hbne:=hid (aI.1 (hcyH 0 _ rfl)).1
       have hcy:=hid (fun j u h=>aC _ _ _ _ (hcyH j u h))
       have hbS:=hid (World.block_lt_of_cell? wr _ (hcy.out 0 _ rfl))
       obtain⟨hyA,hyn,hya⟩:=sN rdy
       replace hyA:=hid hyA
       replace hya:=hid (show y.arr.length≤yac∧yac≤9223372036854775807 by rw[←hyn];exact hya)
       replace hyn:=hid hyn.symm
       have rdy':=hid rdy
       clear rdy rdyH hcyH
       have hkn:(k:Int) ≥ 0:=by omega
       by_cases hlast:k+1<qn
       ·have hlt4:(k:Int)+1<(qn:Int):=by omega
        have hlt5:(k:Int)<(qn:Int):=by omega
        have hlt6:k<qn:=by omega
        have hwr:IntKind.i64.wrap ((k:Int)+1)=(k:Int)+1:=IntWalk.i64_in _ (by have:=hnB.out;omega)
        have hge6:(0:Int)≤(k:Int)+1:=by omega
        have hge7:¬ ((k:Int)+1<0):=by omega
        have hk2:k+1<SL.length:=by rw[hSn.out];exact hlast
        obtain⟨y2,hy2⟩:∃y2,y2=SL[k+1]:=⟨_,rfl⟩
        have hyS2:SL[k+1]? = some y2:=by rw[hy2];exact List.getElem?_eq_getElem hk2
        have hsy2:=hSL.out y2 (by rw[hy2];exact List.getElem_mem hk2)
        obtain⟨ct,⟨bS',oS',e3,hctH⟩,rdtH⟩:=hR.out (k+1) y2 hyS2
        obtain⟨rfl,rfl⟩:bS=bS'∧oS=oS':=by simpa using e3
        have rdt:=rdtH.sub (aC _ _)
        obtain⟨tk,tg,ta,tl,tc,te,ts,taa,tan,tac,toa,ton,toc,rfl⟩:=rdt.sevenB
        rw[hyS2] at hg2
        have CC:=hid (show ∀W',Below wr.heap.size wr W'→Calls Tryz.prog 36 #[.agg #[.int .i64 yk,.bool yg,.slice ya yl yc,.int .i64 ye,.string ys,.slice yaa yan yac,.slice yoa yon yoc],.agg #[.int .i64 tk,.bool tg,.slice ta tl tc,.int .i64 te,.string ts,.slice taa tan tac,.slice toa ton toc]] W' fun en w'=>en=.returned (.tuple #[.int .i64 (orderJ 201 y y2),.int .i64 0])∧Below W'.heap.size W' w' from fun W' hb=>by
         exact CMP.out (by have:=hSn.out;omega) y y2 _ _ W' hsy.out.1 hsy2.1 hsy.out.2 hsy2.2 (rdy'.out.stay hb) (rdt.stay hb) (HT.out.below (ae hB.out hb)))
        have t0:=aC _ _ _ _ (hctH 0 _ rfl)
        have t1:=aC _ _ _ _ (hctH 1 _ rfl)
        have t2:=aC _ _ _ _ (hctH 2 _ rfl)
        have t3:=aC _ _ _ _ (hctH 3 _ rfl)
        have t4:=aC _ _ _ _ (hctH 4 _ rfl)
        have t5:=aC _ _ _ _ (hctH 5 _ rfl)
        have t6:=aC _ _ _ _ (hctH 6 _ rfl)
        have v0:=hcy.out 0 _ rfl
        have v1:=hcy.out 1 _ rfl
        have v2:=hcy.out 2 _ rfl
        have v3:=hcy.out 3 _ rfl
        have v4:=hcy.out 4 _ rfl
        have v5:=hcy.out 5 _ rfl
        have v6:=hcy.out 6 _ rfl
        rw[Nat.add_zero] at t0 v0
        have hbS2:bS<wr.heap.size:=hbS.out
        generalize hcv:orderJ 201 y y2=cv at CC
        have hcv2:=hid hcv
        replace hg2:=hid hg2
        clear rdtH rdt hctH hyS2 hy2 hsy2 hcv hg
        go_upto_region 16 with fail
        go_region_held3 (fun W'=>(∀b o,b<wr.heap.size→W'.cell? ⟨b,o,none⟩=wr.cell? ⟨b,o,none⟩)∧(∀b o,b<wr.heap.size→W'.frozen? ⟨b,o,none⟩=wr.frozen? ⟨b,o,none⟩)∧Below wr.heap.size wr W') (with_reducible first | exact bH _ | exact bI (by assumption) (by assumption) | exact bg (by assumption) _ | exact bJ (by assumption) _ | exact bn _ | exact bu (by assumption) _ | exact au (by assumption) (Nat.le_refl _) | exact au (by assumption) (dC (by assumption)) | exact au (by assumption) (by assumption) | exact au (by assumption) (Nat.le_succ_of_le (by assumption)) | exact au (by assumption) (Nat.le_succ_of_le (Nat.le_succ_of_le (by assumption))) | assumption) ((go_at_call 36;(with_reducible refine (CC.out _ ?_).mono ?_);(simp only[*]);rintro e4 w4 ⟨rfl,hb4⟩))
        all_goals
         rename_i hHeld
         have hbW:=hHeld.2.2
         have qW:=hid (ae hB.out hbW)
         have xW:=hid (af hx.out hbW)
         have zW:=hid (af hz.out hbW)
         have iW:=hid (hI.out.next hbW)
         have ruW:=hid (RdX.stay hru.out hbW)
         have RW:=hid (hR.out.sub (az (A:=fun k=>k=w.heap.size) (A':=fun k=>k=w.heap.size) (fun _ _ h=>h) hbW))
         have hW6b:=hid hbW
         clear hHeld hbW hB hx hz hI hru hR p0 p1 p2 p3 p4 p5 p6 f0 f1 f2 f3 f4 f5 f6 v0 v1 v2 v3 v4 v5 v6 t0 t1 t2 t3 t4 t5 t6 CC
         obtain⟨⟨p0,p1,p2,p3,p4,p5,p6⟩,f0,f1,f2,f3,f4,f5,f6⟩:=ag xW.out
         by_cases hc0:cv=0
         ·have hg3:=hg2.out
          rw[if_pos ⟨y2,rfl,by rw[hcv2.out];exact hc0⟩] at hg3
          subst hc0
          replace hg3:=hid hg3
          clear hg2 hput hnone
          go_wp2_with fail
          go_roundw
          case rel=>exact⟨k,u,ck,cg,ca,cl,cc,ce,cs,caa,can,cac,coa,con,coc,by omega,by first | rfl | go_num,hg3,hmu,hsu,ruW,xW,zW,qW,iW,RW⟩
          case measure=>simp[intOf]
         ·have hg3:=hg2.out
          rw[if_neg (by rintro ⟨z9,h1,h2⟩;obtain rfl:=Option.some.inj h1;exact hc0 (by rw[←hcv2.out];exact h2))] at hg3
          replace hg3:=hid hg3
          have gc:(cv == 0)=false:=by rw[beq_eq_false_iff_ne];exact hc0
          clear hg2 hc0
          have hN:=hid (fun w5 (h:Below w4.drew.heap.size w4.drew w5)=>ag (af (show w4.drew.heap[w.heap.size]? = _ from xW.out) h))
          have hx1:bS<w4.heap.size:=Nat.lt_of_lt_of_le hbS.out (by first | exact Nat.le_refl _ | exact hW6b.out.size)
          have hx2:bS≠w.heap.size:=hbne.out
          have v5:=SubW.below hW6b.out _ _ (hcy.out 5 _ rfl)
          have CG:=jh y.arr (And1 (And1 A w.heap.size) (w.heap.size+1)) u [.int .i64 ck,.bool cg,.slice ca cl cc,.int .i64 ce,.string cs,.slice caa can cac,.slice coa con coc] yaa yac w4.drew (iW.out.next ((Below.refl w4.heap.size w4).drew)) hmu.out (fun k' hk'=>⟨jC hsy.out.1 k' hk',hsy.out.2.arr k' hk'⟩) hsu.out hya.out.1 hya.out.2 (RdX.stay ruW.out ((Below.refl w4.heap.size w4).drew)) ((hyA.out.below hW6b.out).below ((Below.refl w4.heap.size w4).drew)) (HT.out.below (qW.out.drew))
          rw[hyn.out] at CG
          have hmt:=hid (mG (p:=y.arr) hmu.out)
          have hst:=hid (fQ hmu.out hsu.out (fun k' hk'=>hsy.out.2.arr k' hk')).1
          have hg4:=hg3.out
          clear hg3
          generalize goneJ u y.arr=tk at hg4 CG hmt hst
          obtain⟨t1,et⟩:=tk
          dsimp only at hg4 CG hmt hst
          replace hg4:=hid hg4
          replace CG:=hid CG
          clear hmu hsu ruW
          go_upto_region 19 with fail
          go_region_with ((go_at_call 37;(with_reducible refine CG.out.mono ?_);rintro e5 w5 ⟨cs5,rfl,hr5,hb5⟩;obtain⟨vk,vg,va,vl,vc,ve,vs,vaa,van,vac,voa,von,voc,rfl⟩:=RdV.sevenB hr5;have mm:=hN.out _ hb5;obtain⟨⟨m0,m1,m2,m3,m4,m5,m6⟩,g0,g1,g2,g3,g4,g5,g6⟩:=mm))
          all_goals
           obtain⟨W6,hW6⟩:∃W6,W6=w5.setCells w.heap.size 0 [.int .i64 vk,.bool vg,.slice va vl vc,.int .i64 ve,.string vs,.slice vaa van vac,.slice voa von voc]:=⟨_,rfl⟩
           have hN6:=hid (show (((((((w5.setCell ⟨w.heap.size,0,none⟩ (.int .i64 vk)).setCell ⟨w.heap.size,1,none⟩ (.bool vg)).setCell ⟨w.heap.size,2,none⟩ (.slice va vl vc)).setCell ⟨w.heap.size,3,none⟩ (.int .i64 ve)).setCell ⟨w.heap.size,4,none⟩ (.string vs)).setCell ⟨w.heap.size,5,none⟩ (.slice vaa van vac)).setCell ⟨w.heap.size,6,none⟩ (.slice voa von voc))=W6 by rw[hW6];rfl)
           have hb55:=ae ((Below.refl w4.heap.size w4).drew) hb5
           have x6:=hid (gV (d0:=.int .i64 vk) (d1:=.bool vg) (d2:=.slice va vl vc) (d3:=.int .i64 ve) (d4:=.string vs) (d5:=.slice vaa van vac) (d6:=.slice voa von voc) (af xW.out hb55))
           have z6:=hid ((jD [.int .i64 vk,.bool vg,.slice va vl vc,.int .i64 ve,.string vs,.slice vaa van vac,.slice voa von voc] 0 w5 (w.heap.size+1) (show w.heap.size+1≠w.heap.size by omega)).trans (af zW.out hb55))
           have q6:=hid (aF w.heap.size (Nat.le_refl _) [.int .i64 vk,.bool vg,.slice va vl vc,.int .i64 ve,.string vs,.slice vaa van vac,.slice voa von voc] 0 w5 (ae qW.out hb55))
           have r6':=hid (RdX.keep (r:=w.heap.size) (o:=0) (zs:=[.int .i64 vk,.bool vg,.slice va vl vc,.int .i64 ve,.string vs,.slice vaa van vac,.slice voa von voc]) hr5 (Or.inl (Or.inr rfl)))
           have i6:=hid (show In (And1 (And1 A w.heap.size) (w.heap.size+1)) (w5.setCells w.heap.size 0 [.int .i64 vk,.bool vg,.slice va vl vc,.int .i64 ve,.string vs,.slice vaa van vac,.slice voa von voc]) from fun k' hk'=>by rw[bU];exact (iW.out.next hb55) k' hk')
           have R6:=hid ((RW.out.sub (az (A:=fun k=>k=w.heap.size) (A':=fun k=>k=w.heap.size) (fun _ _ h=>h) hb55)).sub (gW (A:=fun k=>k=w.heap.size) (r:=w.heap.size) (o:=0) (zs:=[.int .i64 vk,.bool vg,.slice va vl vc,.int .i64 ve,.string vs,.slice vaa van vac,.slice voa von voc]) rfl))
           rw[←hW6] at x6 z6 q6 r6' i6 R6
           clear hW6 hb55 hb5 hr5 hN CG m0 m1 m2 m3 m4 m5 m6 g0 g1 g2 g3 g4 g5 g6 qW xW zW iW RW
           go_upto_region 20 with fail
           rw[hN6.out]
           clear hN6
           by_cases he:et=0
           ·have hg5:=hg4.out
            rw[if_neg (by omega)] at hg5
            subst he
            replace hg5:=hid hg5
            clear hg4 hput hnone
            go_wp2_with fail
            go_roundw
            case rel=>exact⟨k,t1,vk,vg,va,vl,vc,ve,vs,vaa,van,vac,voa,von,voc,by omega,by first | rfl | go_num,hg5,hmt,hst,r6',x6,z6,q6,i6,R6⟩
            case measure=>simp[intOf]
           ·have hg5:=hg4.out
            rw[if_pos he] at hg5
            have hq:=hid (hnone.out et (congrArg Prod.fst hg5).symm (congrArg Prod.snd hg5) _ q6.out)
            have hne:((et:Int) != 0)=true:=by rw[bne_iff_ne];omega
            obtain⟨⟨r0,r1,r2,r3,r4,r5,r6⟩,s0,s1,s2,s3,s4,s5,s6⟩:=ag z6.out
            clear hg5 hg4 hput hnone he x6 q6 r6' i6 R6
            go_wp2_with fail
            refine bodyPost_ret (v:=.tuple #[.agg #[.int .i64 0,.bool false,.slice none 0 0,.int .i64 0,.string ⟨#[]⟩,.slice none 0 0,.slice none 0 0],.int .i64 et]) (by simp[results,Tryz.results18,go_sem,r0,r1,r2,r3,r4,r5,r6]) rfl ?_
            exact hq.out
       ·have hlt4:¬ (k:Int)+1<(qn:Int):=by omega
        have hg3:=hg2
        rw[if_neg (by rintro ⟨z9,h1,_⟩;rw[List.getElem?_eq_none (by rw[hSn.out];omega)] at h1;cases h1)] at hg3
        replace hg3:=hid hg3
        have qW:=hB
        have xW:=hx
        have zW:=hz
        have iW:=hI
        have ruW:=hru
        have RW:=hR
        have hW6b:=hid (Below.refl wr.heap.size wr)
        clear hg2 hg hB hx hz hI hru hR
        have hN:=hid (fun w5 (h:Below wr.drew.heap.size wr.drew w5)=>ag (af (show wr.drew.heap[w.heap.size]? = _ from xW.out) h))
        have hx1:bS<wr.heap.size:=Nat.lt_of_lt_of_le hbS.out (by first | exact Nat.le_refl _ | exact hW6b.out.size)
        have hx2:bS≠w.heap.size:=hbne.out
        have v5:=SubW.below hW6b.out _ _ (hcy.out 5 _ rfl)
        have CG:=jh y.arr (And1 (And1 A w.heap.size) (w.heap.size+1)) u [.int .i64 ck,.bool cg,.slice ca cl cc,.int .i64 ce,.string cs,.slice caa can cac,.slice coa con coc] yaa yac wr.drew (iW.out.next ((Below.refl wr.heap.size wr).drew)) hmu.out (fun k' hk'=>⟨jC hsy.out.1 k' hk',hsy.out.2.arr k' hk'⟩) hsu.out hya.out.1 hya.out.2 (RdX.stay ruW.out ((Below.refl wr.heap.size wr).drew)) ((hyA.out.below hW6b.out).below ((Below.refl wr.heap.size wr).drew)) (HT.out.below (qW.out.drew))
        rw[hyn.out] at CG
        have hmt:=hid (mG (p:=y.arr) hmu.out)
        have hst:=hid (fQ hmu.out hsu.out (fun k' hk'=>hsy.out.2.arr k' hk')).1
        have hg4:=hg3.out
        clear hg3
        generalize goneJ u y.arr=tk at hg4 CG hmt hst
        obtain⟨t1,et⟩:=tk
        dsimp only at hg4 CG hmt hst
        replace hg4:=hid hg4
        replace CG:=hid CG
        clear hmu hsu ruW
        go_upto_region 19 with fail
        go_region_with ((go_at_call 37;(with_reducible refine CG.out.mono ?_);rintro e5 w5 ⟨cs5,rfl,hr5,hb5⟩;obtain⟨vk,vg,va,vl,vc,ve,vs,vaa,van,vac,voa,von,voc,rfl⟩:=RdV.sevenB hr5;have mm:=hN.out _ hb5;obtain⟨⟨m0,m1,m2,m3,m4,m5,m6⟩,g0,g1,g2,g3,g4,g5,g6⟩:=mm))
        all_goals
         obtain⟨W6,hW6⟩:∃W6,W6=w5.setCells w.heap.size 0 [.int .i64 vk,.bool vg,.slice va vl vc,.int .i64 ve,.string vs,.slice vaa van vac,.slice voa von voc]:=⟨_,rfl⟩
         have hN6:=hid (show (((((((w5.setCell ⟨w.heap.size,0,none⟩ (.int .i64 vk)).setCell ⟨w.heap.size,1,none⟩ (.bool vg)).setCell ⟨w.heap.size,2,none⟩ (.slice va vl vc)).setCell ⟨w.heap.size,3,none⟩ (.int .i64 ve)).setCell ⟨w.heap.size,4,none⟩ (.string vs)).setCell ⟨w.heap.size,5,none⟩ (.slice vaa van vac)).setCell ⟨w.heap.size,6,none⟩ (.slice voa von voc))=W6 by rw[hW6];rfl)
         have hb55:=ae ((Below.refl wr.heap.size wr).drew) hb5
         have x6:=hid (gV (d0:=.int .i64 vk) (d1:=.bool vg) (d2:=.slice va vl vc) (d3:=.int .i64 ve) (d4:=.string vs) (d5:=.slice vaa van vac) (d6:=.slice voa von voc) (af xW.out hb55))
         have z6:=hid ((jD [.int .i64 vk,.bool vg,.slice va vl vc,.int .i64 ve,.string vs,.slice vaa van vac,.slice voa von voc] 0 w5 (w.heap.size+1) (show w.heap.size+1≠w.heap.size by omega)).trans (af zW.out hb55))
         have q6:=hid (aF w.heap.size (Nat.le_refl _) [.int .i64 vk,.bool vg,.slice va vl vc,.int .i64 ve,.string vs,.slice vaa van vac,.slice voa von voc] 0 w5 (ae qW.out hb55))
         have r6':=hid (RdX.keep (r:=w.heap.size) (o:=0) (zs:=[.int .i64 vk,.bool vg,.slice va vl vc,.int .i64 ve,.string vs,.slice vaa van vac,.slice voa von voc]) hr5 (Or.inl (Or.inr rfl)))
         have i6:=hid (show In (And1 (And1 A w.heap.size) (w.heap.size+1)) (w5.setCells w.heap.size 0 [.int .i64 vk,.bool vg,.slice va vl vc,.int .i64 ve,.string vs,.slice vaa van vac,.slice voa von voc]) from fun k' hk'=>by rw[bU];exact (iW.out.next hb55) k' hk')
         have R6:=hid ((RW.out.sub (az (A:=fun k=>k=w.heap.size) (A':=fun k=>k=w.heap.size) (fun _ _ h=>h) hb55)).sub (gW (A:=fun k=>k=w.heap.size) (r:=w.heap.size) (o:=0) (zs:=[.int .i64 vk,.bool vg,.slice va vl vc,.int .i64 ve,.string vs,.slice vaa van vac,.slice voa von voc]) rfl))
         rw[←hW6] at x6 z6 q6 r6' i6 R6
         clear hW6 hb55 hb5 hr5 hN CG m0 m1 m2 m3 m4 m5 m6 g0 g1 g2 g3 g4 g5 g6 qW xW zW iW RW
         go_upto_region 20 with fail
         rw[hN6.out]
         clear hN6
         by_cases he:et=0
         ·have hg5:=hg4.out
          rw[if_neg (by omega)] at hg5
          subst he
          replace hg5:=hid hg5
          clear hg4 hput hnone
          go_wp2_with fail
          go_roundw
          case rel=>exact⟨k,t1,vk,vg,va,vl,vc,ve,vs,vaa,van,vac,voa,von,voc,by omega,by first | rfl | go_num,hg5,hmt,hst,r6',x6,z6,q6,i6,R6⟩
          case measure=>simp[intOf]
         ·have hg5:=hg4.out
          rw[if_pos he] at hg5
          have hq:=hid (hnone.out et (congrArg Prod.fst hg5).symm (congrArg Prod.snd hg5) _ q6.out)
          have hne:((et:Int) != 0)=true:=by rw[bne_iff_ne];omega
          obtain⟨⟨r0,r1,r2,r3,r4,r5,r6⟩,s0,s1,s2,s3,s4,s5,s6⟩:=ag z6.out
          clear hg5 hg4 hput hnone he x6 q6 r6' i6 R6
          go_wp2_with fail
          refine bodyPost_ret (v:=.tuple #[.agg #[.int .i64 0,.bool false,.slice none 0 0,.int .i64 0,.string ⟨#[]⟩,.slice none 0 0,.slice none 0 0],.int .i64 et]) (by simp[results,Tryz.results18,go_sem,r0,r1,r2,r3,r4,r5,r6]) rfl ?_
          exact hq.out
end Go.Proofs.YtcgbmmalfbpjaaaGreatDoor

namespace Go.Proofs.YtcgbmmalfbpjaaaGreatDoor
open Go.RowKit Go.Sort
theorem xE (q:Option Addr)(n c:Nat)(hn:n≤1)(f:Value)(w:World):Calls Tryz.prog 61 #[.slice q n c,f] w fun e w'=>e=.returned (.tuple #[])∧w'=w:=by
 have n1:¬ (1:Int)<(n:Int):=by omega
 have n2:¬ (20:Int)≤(n:Int):=by omega
 have n3:¬ (20:Int)<(n:Int):=by omega
 clear hn
 have hI:=hid (fun (W:World)=>show Calls Tryz.prog 134 #[.slice q n c,.int .i64 0,.int .i64 n,f] W fun e w'=>e=.returned (.tuple #[])∧w'=W from by
  go_enter Tryz.func134,Tryz.ntmps134
  go_upto_region 1 with fail
  go_loopw [8] (fun v8 wr=>v8=.int .i64 1∧wr=W) (fun _ _=>0)
  case atStart=>exact⟨rfl,rfl⟩
  case round =>
   obtain⟨rfl,rfl⟩:=hrel
   go_wp2_with fail
   go_end0
   exact⟨rfl,rfl⟩)
 have hS:=hid (fun (W:World)=>show Calls Tryz.prog 94 #[.slice q n c,.int .i64 n,f] W fun e w'=>e=.returned (.tuple #[])∧w'=W from by
  go_enter Tryz.func94,Tryz.ntmps94
  go_upto_region 2 with fail
  go_loopw [7,8] (fun v7 v8 wr=>v7=.int .i64 0∧v8=.int .i64 20∧wr=W) (fun _ _ _=>0)
  case atStart=>exact⟨rfl,rfl,rfl⟩
  case round =>
   obtain⟨rfl,rfl,rfl⟩:=hrel
   go_wp2_with fail
   refine (hI.out _).mono ?_
   rintro en w1 ⟨rfl,hw1⟩
   rw[hw1]
   clear hw1 w1
   go_upto_region 7 with fail
   go_loopw [6,7,8,9] (fun v6 _ _ _ w2=>v6=.int .i64 20∧w2=wr) (fun _ _ _ _ _=>0)
   case atStart=>exact⟨rfl,rfl⟩
   case round =>
    obtain⟨rfl,rfl⟩:=hrel
    go_wp2_with fail
    go_end0
    exact⟨rfl,rfl⟩)
 go_enter Tryz.func61,Tryz.ntmps61
 go_wp2_with fail
 refine (hS.out _).mono ?_
 rintro en w1 ⟨rfl,hw1⟩
 rw[hw1]
 clear hw1 w1
 go_wp2_with fail
 go_end0
 exact⟨rfl,rfl⟩
theorem AU {l:List JV}(h:l.length≤1):sortS (orderJ 201) l=l:=by
 match l,h with
 | [],_=>simp[sortS,sortI,withI]
 | [x],_=>rfl
 | _ :: _ :: _,h=>simp at h
theorem xG (A:Nat→Prop)(l:List JV)(a:Option Addr)(c:Nat)(w W:World)(hA:In A w)(hl:RdA (hideW A w) a l)(hn:l.length≤1)(hm:∀x ∈ l,mayJ 200 x=true)(sm:∀x ∈ l,SmallV x)(hb:Below w.heap.size w W) :
  Calls Tryz.prog 43 #[.slice a l.length c] W fun e w'=>∃(q:Option Addr) (c':Nat),e=.returned (.slice q l.length c')∧l.length≤c'∧c'≤9223372036854775807∧Below w.heap.size w w' ∧
   Calls Tryz.prog 61 #[.slice q l.length c',.func (.func 62) #[] #[]] w' fun e w2=>e=.returned (.tuple #[])∧RdA (hideW A w2) q (sortS (orderJ 201) l)∧Below w.heap.size w w2:=by
 refine (xZ A l a c w W hl hm sm (by omega) hb (hA.next hb)).mono ?_
 rintro e w' ⟨q,c',rfl,h1,h2,h3⟩
 refine⟨q,c',rfl,h2.1,h2.2,ae hb h3,?_⟩
 refine (xE q l.length c' hn _ w').mono ?_
 rintro e w2 ⟨rfl,rfl⟩
 exact⟨rfl,by rw[AU hn];exact h1,ae hb h3⟩
theorem sQ (A:Nat→Prop)(l:List JV)(a:Option Addr)(c:Nat)(w:World)(hA:In A w)(hlX:RdA (hideW A w) a l)(hn:l.length≤1)(sm:∀x ∈ l,SmallV x)(hT:Tabs w) :
  Calls Tryz.prog 35 #[.slice a l.length c] w (OutSoX A w (sortR l)) :=
 uY A l a c w hlX (by omega) hT fun W hb hm=>xG A l a c w W hA hlX hn hm sm hb
end Go.Proofs.YtcgbmmalfbpjaaaGreatDoor

namespace Go.Proofs.YtcgbmmalfbpjaaaGreatDoor
open Go.RowKit
def BoxJ (W:World) (b:Nat) (x:JV):Prop:=∃(k:Int) (g:Bool) (a:Option Addr) (l c:Nat) (e:Int) (s:List UInt8) (aa:Option Addr) (an ac:Nat) (oa:Option Addr) (on oc:Nat),BoxV W b k g a l c e ⟨s.toArray⟩ aa an ac oa on oc∧RdV W (valCs k g a l c e s aa an ac oa on oc) x
theorem BoxJ.stay {W W':World}{b:Nat}{x:JV}(h:BoxJ W b x)(hb:Below W.heap.size W W'):BoxJ W' b x:=by
 obtain⟨k,g,a,l,c,e,s,aa,an,ac,oa,on,oc,h1,h2⟩:=h
 exact⟨k,g,a,l,c,e,s,aa,an,ac,oa,on,oc,h1.stay hb,h2.stay hb⟩
theorem DF {W:World}{k:Int}{g:Bool}{a:Option Addr}{l c:Nat}{e:Int}{s:List UInt8}{aa:Option Addr}{an ac:Nat}{oa:Option Addr}{on oc:Nat}{x:JV}(h:RdV W (valCs k g a l c e s aa an ac oa on oc) x):k=x.kind:=by
 obtain⟨a',c',aa',ac',oa',oc',P⟩:=h.parts
 have:=P.cells
 unfold valCs at this
 simp only[List.cons.injEq,Value.int.injEq,true_and] at this
 exact this.1
def St (w W:World) (l:List (Nat × JV)):Prop:=Below w.heap.size w W∧∀p ∈ l,BoxJ W p.1 p.2
theorem St.add {w W W':World}{l:List (Nat × JV)}{x:JV}{k:Int}{g:Bool}{a:Option Addr}{ln c:Nat}{e:Int}{s:List UInt8}{aa:Option Addr}{an ac:Nat}{oa:Option Addr}{on oc:Nat}(h:St w W l)(hb:Below W.heap.size W W')(r:RdV W' (valCs k g a ln c e s aa an ac oa on oc) x) :
  St w (W'.alloc (.cells #[.int .i64 k,.bool g,.slice a ln c,.int .i64 e,.string ⟨s.toArray⟩,.slice aa an ac,.slice oa on oc] 28)) ((W'.heap.size,x) :: l):=by
 have hb2:=(Below.refl W'.heap.size W').alloc (Nat.le_refl _) (.cells #[.int .i64 k,.bool g,.slice a ln c,.int .i64 e,.string ⟨s.toArray⟩,.slice aa an ac,.slice oa on oc] 28)
 refine⟨ae (ae h.1 hb) hb2,fun p hp=>?_⟩
 rcases List.mem_cons.1 hp with rfl | hp
 ·exact⟨k,g,a,ln,c,e,s,aa,an,ac,oa,on,oc,(ag (aj W' _)).1,r.stay hb2⟩
 ·exact ((h.2 p hp).stay hb).stay hb2
def NewJ (w W:World) (v e:Value) (x:JV) (err:Nat) (l:List (Nat × JV)):Prop:=∃b,v=.pointer (some ⟨b,0,none⟩)∧e=.int .i64 err∧St w W ((b,x) :: l)
theorem wB (v u:JV)(cs ct:List Value)(w:World)(rv:RdV w cs v)(ru:RdV w ct u):Calls Tryz.prog 13 #[.agg cs.toArray,.agg ct.toArray] w fun en w'=>en=.returned (.bool (eqB v u))∧Below w.heap.size w w':=by
 have C:=fun W (hb:Below w.heap.size w W)=>xB v u cs ct W (rv.stay hb) (ru.stay hb)
 obtain⟨k,g,a,ln,c,e,s,aa,an,ac,oa,on,oc,rfl⟩:=rv.seven
 obtain⟨k',g',a',ln',c',e',s',aa',an',ac',oa',on',oc',rfl⟩:=ru.seven
 clear rv ru
 generalize eqB v u=R at *
 unfold valCs strV at *
 generalize (⟨s.toArray⟩:ByteArray)=sb at *
 generalize (⟨s'.toArray⟩:ByteArray)=sb' at *
 replace C:=hid C
 go_enter Tryz.func13,Tryz.ntmps13
 go_wp2_with fail
 refine (C.out _ (aW _ _ _)).mono ?_
 rintro en w1 ⟨rfl,hb⟩
 have q:=hid (ae (aW _ _ _) hb)
 clear hb
 go_wp2
 go_ret
 exact⟨rfl,q.out⟩
def NoA:Nat→Prop:=fun _=>False
theorem BX {w:World}:In NoA w:=fun _ h=>h.elim
theorem qZ {w:World}{cs:List Value}{v:JV}(h:RdV w cs v):RdX NoA w cs v:=zD h (fun _ h=>h) (Below.refl _ _)
theorem oL (A:Nat→Prop)(v:JV)(ps:List (List JV))(cs:List Value)(pa:Option Addr)(pc:Nat)(w:World)(hIn:In A w)(hnB:ps.length≤1)(rv:RdX A w cs v)(sv:SmallV v)(rp:RdP w pa ps)(hps:∀p ∈ ps,p.length≤1048576∧∀x ∈ p,SmallV x)(hT:Tabs w) :
  Calls Tryz.prog 18 #[.agg cs.toArray,.slice pa ps.length pc] w (OutX A w (deleteJ v ps).1 (deleteJ v ps).2):=by
 have rv0:=rv
 obtain⟨xk,xg,xa,xl,xc,xe,xs,xaa,xan,xac,xoa,xon,xoc,rfl⟩:=RdV.sevenB rv
 refine sO A xk xg xa xl xc xe xs xaa xan xac xoa xon xoc pa ps.length pc v ps _ _ w hIn rfl (by omega) rv0 sv rp hps hT (fun l a c w2 A2 hl h1 h2 h3 h4=>sQ A2 l a c w2 h1 h2 (by omega) h3 h4) (fun h=>by omega) ?_ ?_
 ·intro h
  unfold deleteJ
  rw[if_pos h]
  exact⟨rfl,rfl⟩
 ·intro h1 h2 h3
  unfold deleteJ
  rw[if_neg (fun h=>h ⟨h1,h2,h3⟩)]
def aJ:JV:=textJ2 [97]
def numJ (d:D):JV:=.mk 3 d.neg (Num.limbs d.m) d.e [] [] []
def tJ:JV:=.mk 2 false [] 0 [] [] []
def p1:List JV:=[aJ,numJ (plainD false 1 0)]
def p2:List JV:=[aJ,numJ (plainD true 1 0)]
def p3:List JV:=[aJ,numJ (plainD false 0 0)]
def V1:JV:=objV [([97],arrJ [.null,tJ])]
def V2:JV:=objV [([97],arrJ [tJ])]
theorem BJ:setPJ .null p1 tJ=(V1,0):=by kernel_rfl
theorem BK:getPJ V1 p2=(tJ,0):=by kernel_rfl
theorem zu:stepJ V2 aJ=(arrJ [tJ],0):=by kernel_rfl
theorem mJ:mayJ 200 V1=true∧mayJ 200 (arrJ p3)=true∧∀x ∈ p3,mayJ 200 x=true:=by decide +kernel
theorem zx:delJ V1 none (sortS (orderJ 201) ([p3].map arrJ)).reverse=(V2,0):=by kernel_rfl
theorem BL:deleteJ V1 [p3]=(V2,0):=by
 unfold deleteJ
 rw[if_neg (fun h=>h ⟨fun p hp=>by rw[List.mem_singleton.1 hp];exact mJ.2.2,mJ.1,fun p hp=>by rw[List.mem_singleton.1 hp];exact mJ.2.1⟩)]
 exact zx
theorem gm (w:World):Calls Tryz.prog 24 #[.string ⟨#[97]⟩] w fun e w'=>e=.returned (.agg #[.int .i64 4,.bool false,.slice none 0 0,.int .i64 0,.string ⟨#[97]⟩,.slice none 0 0,.slice none 0 0])∧Below w.heap.size w w':=by
 go_enter Tryz.func24,Tryz.ntmps24
 go_wp2
 refine bodyPost_ret (v:=.agg #[.int .i64 4,.bool false,.slice none 0 0,.int .i64 0,.string ⟨#[97]⟩,.slice none 0 0,.slice none 0 0]) (by simp[results,Tryz.results24,go_sem]) rfl ?_
 exact⟨rfl,(Below.refl _ _).alloc (Nat.le_refl _) _⟩
theorem yw (W:World):RdV W [.int .i64 4,.bool false,.slice none 0 0,.int .i64 0,.string ⟨#[97]⟩,.slice none 0 0,.slice none 0 0] aJ:=RdX.rd (A:=NoA) (sZ (s:=[97]) (by decide))
theorem FD (W:World):RdV W [.int .i64 2,.bool false,.slice none 0 0,.int .i64 0,.string ⟨#[]⟩,.slice none 0 0,.slice none 0 0] tJ :=
 PartsV.rd (v:=tJ) (a:=none) (c:=0) (aa:=none) (ac:=0) (oa:=none) (oc:=0) ⟨rfl,by unfold I64;decide,by unfold I64;decide,by decide,by decide,by decide,by decide,⟨Row.nil _ _,fun x hx=>by cases hx⟩,fun i x hx=>by simp[tJ,JV.arr] at hx,fun i x hx=>by simp[tJ,JV.obj] at hx⟩
theorem Ec {W:World}{d:D}{a:Option Addr}{c:Nat}(h:U32 W a (Num.limbs d.m))(hc:(Num.limbs d.m).length≤c∧c≤9223372036854775807)(he:I64 d.e):RdV W [.int .i64 3,.bool d.neg,.slice a (Num.limbs d.m).length c,.int .i64 d.e,.string ⟨#[]⟩,.slice none 0 0,.slice none 0 0] (numJ d) :=
 PartsV.rd (v:=numJ d) (a:=a) (c:=c) (aa:=none) (ac:=0) (oa:=none) (oc:=0) ⟨rfl,by unfold I64;simp[numJ,JV.kind],he,by simp[numJ,JV.s],by simp[numJ,JV.arr],by simp[numJ,JV.obj],hc,h,fun i x hx=>by simp[numJ,JV.arr] at hx,fun i x hx=>by simp[numJ,JV.obj] at hx⟩
def OutN12 (w:World) (d:D) (e:Ending) (w':World):Prop:=∃(a:Option Addr) (c:Nat),e=.returned (.agg #[.int .i64 3,.bool d.neg,.slice a (Num.limbs d.m).length c,.int .i64 d.e,.string ⟨#[]⟩,.slice none 0 0,.slice none 0 0])∧RdV w' [.int .i64 3,.bool d.neg,.slice a (Num.limbs d.m).length c,.int .i64 d.e,.string ⟨#[]⟩,.slice none 0 0,.slice none 0 0] (numJ d)∧Below w.heap.size w w'
theorem kF (n:Int)(d:D)(w:World)(he:I64 d.e)(hO:∀W,Below w.heap.size w W→Calls Tryz.prog 44 #[.int .i64 n] W (OutD W d)) :
  Calls Tryz.prog 25 #[.int .i64 n] w (OutN12 w d):=by
 have CO:=hid (hO _ ((Below.refl w.heap.size w).alloc (Nat.le_refl _) (.cells #[.int .i64 0,.bool false,.slice none 0 0,.int .i64 0,.string ⟨#[]⟩,.slice none 0 0,.slice none 0 0] 28)))
 have hz:=hid (aj w (.cells #[.int .i64 0,.bool false,.slice none 0 0,.int .i64 0,.string ⟨#[]⟩,.slice none 0 0,.slice none 0 0] 28))
 have hb0:=hid ((Below.refl w.heap.size w).alloc (Nat.le_refl _) (.cells #[.int .i64 0,.bool false,.slice none 0 0,.int .i64 0,.string ⟨#[]⟩,.slice none 0 0,.slice none 0 0] 28))
 obtain⟨W,hW⟩:∃W,W=w.alloc (.cells #[.int .i64 0,.bool false,.slice none 0 0,.int .i64 0,.string ⟨#[]⟩,.slice none 0 0,.slice none 0 0] 28):=⟨_,rfl⟩
 rw[←hW] at CO hz hb0
 replace hW:=hid hW.symm
 clear hO
 go_enter Tryz.func25,Tryz.ntmps25
 go_upto_region 1 with fail
 rw[hW.out]
 go_wp2_with fail
 refine CO.out.mono ?_
 rintro en w1 ⟨a,c,rfl,hb,hu⟩
 obtain⟨_,hh⟩:=id hu
 have hcap:(Num.limbs d.m).length≤c∧c≤9223372036854775807:=by
  rcases hh with ⟨hv,h0⟩ | ⟨g,cap,cur,hv,_,_,hnc,hcm,_⟩
  ·injection hv with _ e2 e3
   omega
  ·injection hv with _ e2 e3
   subst e3
   exact⟨hnc,by unfold maxLen at hcm;exact hcm⟩
 have hne:∀b off,a=some ⟨b,off,none⟩→b≠w.heap.size:=fun b off e=>by
  have:=(hu.lt b (by rw[e];rfl)).1
  have:=aA hz.out
  omega
 have hF:=hid (show OutN12 w d (.returned (.agg #[.int .i64 3,.bool d.neg,.slice a (Num.limbs d.m).length c,.int .i64 d.e,.string ⟨#[]⟩,.slice none 0 0,.slice none 0 0])) (w1.setCells w.heap.size 0 [.int .i64 3,.bool d.neg,.slice a (Num.limbs d.m).length c,.int .i64 d.e,.string ⟨#[]⟩,.slice none 0 0,.slice none 0 0]) from
  ⟨a,c,rfl,Ec ⟨fun j x hx=>by
   obtain⟨b,off,e,hc⟩:=(aS hu).row j x hx
   exact⟨b,off,e,(bT _ 0 w1 ⟨b,off+j,none⟩ (hne b off e)).trans hc⟩,(aS hu).lt⟩ hcap he,aF _ (Nat.le_refl _) _ _ _ (ae hb0.out hb)⟩)
 obtain⟨⟨r0,r1,r2,r3,r4,r5,r6⟩,s0,s1,s2,s3,s4,s5,s6⟩:=ag (af hz.out hb)
 clear hb hu hh hcap hne hz hb0 hW CO he
 unfold decV
 generalize (Num.limbs d.m).length=ln at *
 go_wp2_with fail
 refine bodyPost_ret (v:=.agg #[.int .i64 3,.bool d.neg,.slice a ln c,.int .i64 d.e,.string ⟨#[]⟩,.slice none 0 0,.slice none 0 0]) (by simp[results,Tryz.results25,go_sem,r0,r1,r2,r3,r4,r5,r6]) rfl ?_
 exact hF.out
def NewA (W0 W':World):Nat→Prop:=fun k=>W0.heap.size≤k∧k<W'.heap.size
theorem qJ {W0 W':World}:In (NewA W0 W') W':=fun _ h=>h.2
theorem mQ {W0 W':World}{cs:List Value}{v:JV}(h:RdV W0 cs v)(hb:Below W0.heap.size W0 W'):RdX (NewA W0 W') W' cs v :=
 RdV.sub h fun a u hu=>aI.2 ⟨fun hh=>by have:=World.block_lt_of_cell? W0 a hu;have:=hh.1;omega,SubW.below hb a u hu⟩
theorem yx {W:World}{b:Nat}{vk:Int}{vg:Bool}{va:Option Addr}{vl vc:Nat}{ve:Int}{vs:ByteArray}{vaa:Option Addr}{van vac:Nat}{voa:Option Addr}{von voc:Nat}{x:JV}(h:W.heap[b]? = some (.cells #[.int .i64 vk,.bool vg,.slice va vl vc,.int .i64 ve,.string vs,.slice vaa van vac,.slice voa von voc] 28 (0,0)))(hr:RdV W [.int .i64 vk,.bool vg,.slice va vl vc,.int .i64 ve,.string vs,.slice vaa van vac,.slice voa von voc] x):BoxJ W b x:=by
 obtain⟨k,g,a,ln,c,e,s,aa,an,ac,oa,on,oc,hh⟩:=hr.seven
 simp only[valCs,List.cons.injEq,and_true] at hh
 obtain⟨h0,h1,h2,h3,h4,h5,h6⟩:=hh
 rw[h0,h1,h2,h3,h4,h5,h6] at h hr
 exact⟨k,g,a,ln,c,e,s,aa,an,ac,oa,on,oc,(ag h).1,hr⟩
theorem kG {w wc w4:World}{A:Nat→Prop}{l:List (Nat × JV)}{vk:Int}{vg:Bool}{va:Option Addr}{vl vc:Nat}{ve:Int}{vs:ByteArray}{vaa:Option Addr}{van vac:Nat}{voa:Option Addr}{von voc:Nat}{x:JV}{err:Nat}{vE:Value}(hst:St w wc l)(hbc:Below wc.heap.size wc w4)(hr:RdX A w4 [.int .i64 vk,.bool vg,.slice va vl vc,.int .i64 ve,.string vs,.slice vaa van vac,.slice voa von voc] x)(hve:vE=.int .i64 err) :
  NewJ w (w4.alloc (.cells #[.int .i64 vk,.bool vg,.slice va vl vc,.int .i64 ve,.string vs,.slice vaa van vac,.slice voa von voc] 28)) (.pointer (some ⟨w4.heap.size,0,none⟩)) vE x err l:=by
 have hb2:=(Below.refl w4.heap.size w4).alloc (Nat.le_refl _) (.cells #[.int .i64 vk,.bool vg,.slice va vl vc,.int .i64 ve,.string vs,.slice vaa van vac,.slice voa von voc] 28)
 refine⟨_,rfl,hve,ae (ae hst.1 hbc) hb2,fun p hp=>?_⟩
 rcases List.mem_cons.1 hp with rfl | hp
 ·exact yx (aj w4 _) ((RdX.rd hr).stay hb2)
 ·exact ((hst.2 p hp).stay hbc).stay hb2
theorem jm {w wc w4 W':World}{N:Nat}{l:List (Nat × JV)}{vk:Int}{vg:Bool}{va:Option Addr}{vl vc:Nat}{ve:Int}{vs:ByteArray}{vaa:Option Addr}{van vac:Nat}{voa:Option Addr}{von voc:Nat}{z0 z1 z2 z3 z4 z5 z6:Value}{x:JV}{err:Nat}{vE:Value}(hst:St w wc l)(hbc:Below wc.heap.size wc w4)(hr:RdX (NewA wc W') w4 [.int .i64 vk,.bool vg,.slice va vl vc,.int .i64 ve,.string vs,.slice vaa van vac,.slice voa von voc] x)(hve:vE=.int .i64 err)(hN1:wc.heap.size≤N)(hN2:N<W'.heap.size)(bx:w4.heap[N]? = some (.cells #[z0,z1,z2,z3,z4,z5,z6] 28 (0,0))) :
  NewJ w (((((((w4.setCell ⟨N,0,none⟩ (.int .i64 vk)).setCell ⟨N,1,none⟩ (.bool vg)).setCell ⟨N,2,none⟩ (.slice va vl vc)).setCell ⟨N,3,none⟩ (.int .i64 ve)).setCell ⟨N,4,none⟩ (.string vs)).setCell ⟨N,5,none⟩ (.slice vaa van vac)).setCell ⟨N,6,none⟩ (.slice voa von voc)) (.pointer (some ⟨N,0,none⟩)) vE x err l:=by
 have hbs:Below wc.heap.size wc (w4.setCells N 0 [.int .i64 vk,.bool vg,.slice va vl vc,.int .i64 ve,.string vs,.slice vaa van vac,.slice voa von voc]):=aF N hN1 [.int .i64 vk,.bool vg,.slice va vl vc,.int .i64 ve,.string vs,.slice vaa van vac,.slice voa von voc] 0 w4 hbc
 refine⟨N,rfl,hve,ae hst.1 hbs,fun p hp=>?_⟩
 rcases List.mem_cons.1 hp with rfl | hp
 ·exact yx (gV (d0:=.int .i64 vk) (d1:=.bool vg) (d2:=.slice va vl vc) (d3:=.int .i64 ve) (d4:=.string vs) (d5:=.slice vaa van vac) (d6:=.slice voa von voc) bx) (RdX.rd (RdX.keep (r:=N) (o:=0) (zs:=[.int .i64 vk,.bool vg,.slice va vl vc,.int .i64 ve,.string vs,.slice vaa van vac,.slice voa von voc]) hr ⟨hN1,hN2⟩))
 ·exact (hst.2 p hp).stay hbs
theorem bM (w:World)(x:Obj):(w.alloc x).heap.size=w.heap.size+1:=by simp
theorem dM (w:World)(a b c:Obj):(((w.alloc a).alloc b).alloc c).heap[w.heap.size+1+1]? = some c:=by
 have:=aj ((w.alloc a).alloc b) c
 simpa[Nat.add_assoc] using this
theorem dS (w:World):w.drew.heap.size=w.heap.size:=rfl
theorem uX:SmallV V1:=iK (by decide) (fun p hp=>by
 simp only[List.mem_singleton] at hp
 subst hp
 exact⟨by decide,fA (by decide) (fun x hx=>by
  simp only[List.mem_cons,List.not_mem_nil,or_false] at hx
  rcases hx with rfl | rfl
  ·exact aK
  ·exact .mk _ (by decide) (by decide) (by decide) (fun x hx=>by cases hx) (fun x hx=>by cases hx) (fun x hx=>by cases hx))⟩)
theorem DD:SmallV V2:=iK (by decide) (fun p hp=>by
 simp only[List.mem_singleton] at hp
 subst hp
 exact⟨by decide,fA (by decide) (fun x hx=>by
  simp only[List.mem_singleton] at hx
  subst hx
  exact .mk _ (by decide) (by decide) (by decide) (fun x hx=>by cases hx) (fun x hx=>by cases hx) (fun x hx=>by cases hx))⟩)
theorem tu (w:World)(hT:Tabs w):Calls Tryz.prog 10 #[] w fun en w'=>en=.returned (.bool true)∧Below w.heap.size w w':=by
 have HT:=hid hT
 have hst:=hid (show St w w [] from ⟨Below.refl _ _,fun p hp=>by cases hp⟩)
 clear hT
 go_enter Tryz.func10,Tryz.ntmps10
 go_upto_region 1 with fail
 go_cut [1,2] from 9 to 17 (fun v1 v2 w'=>NewJ w w' v1 v2 V1 0 [])
 case first =>
  go_wp2_with fail
  refine (gm w).mono ?_
  rintro en w1 ⟨rfl,hb⟩
  have CN:=hid (kF 1 (plainD false 1 0) w1 (by unfold I64;decide) (fun W h=>jf 1 W (by decide) (HT.out.below (ae hb h)).2))
  have q1:=hid hb
  clear hb
  go_wp2_with fail
  refine CN.out.mono ?_
  rintro en w2 ⟨na,nc,rfl,rn,hb⟩
  have q2:=hid (ae q1.out hb)
  have hbA:=(Below.refl w2.heap.size w2).alloc (Nat.le_refl _) (.cells #[.int .i64 4,.bool false,.slice none 0 0,.int .i64 0,.string ⟨#[97]⟩,.slice none 0 0,.slice none 0 0,.int .i64 3,.bool (plainD false 1 0).neg,.slice na (Num.limbs (plainD false 1 0).m).length nc,.int .i64 (plainD false 1 0).e,.string ⟨#[]⟩,.slice none 0 0,.slice none 0 0] 28)
  have q3:=hid (ae q2.out hbA)
  have CS:=zZ NoA .null p1 tJ [.int .i64 0,.bool false,.slice none 0 0,.int .i64 0,.string ⟨#[]⟩,.slice none 0 0,.slice none 0 0] [.int .i64 2,.bool false,.slice none 0 0,.int .i64 0,.string ⟨#[]⟩,.slice none 0 0,.slice none 0 0] (some ⟨w2.heap.size,0,none⟩) 2 _ BX aK (by decide) (by decide) ⟨Nat.le_refl _,by decide⟩ (qZ (dZ _)) (qZ (FD _)) (rda2 _ _ _ _ _ _ _ _ _ _ _ _ _ _ _ _ _ _ _ _ _ _ _ _ _ _ (aj w2 (.cells #[.int .i64 4,.bool false,.slice none 0 0,.int .i64 0,.string ⟨#[97]⟩,.slice none 0 0,.slice none 0 0,.int .i64 3,.bool (plainD false 1 0).neg,.slice na (Num.limbs (plainD false 1 0).m).length nc,.int .i64 (plainD false 1 0).e,.string ⟨#[]⟩,.slice none 0 0,.slice none 0 0] 28)) ((yw w2).stay hbA) (rn.stay hbA)) (HT.out.below q3.out)
  rw[BJ] at CS
  replace CS:=hid CS
  clear hb hbA rn CN q1 q2
  go_wp2_with fail
  refine CS.out.mono ?_
  rintro en w4 ⟨cs,rfl,hr,hb4⟩
  obtain⟨k9,g9,a9,l9,c9,e9,s9,aa9,an9,ac9,oa9,on9,oc9,rfl⟩:=RdV.seven (RdX.rd hr)
  have hN:Hid (NewJ w _ (.pointer (some ⟨w4.heap.size,0,none⟩)) (.int .i64 0) V1 0 []):=⟨w4.heap.size,rfl,rfl,hst.out.add (ae q3.out hb4) (RdX.rd hr)⟩
  unfold valCs at hN
  clear hb4 hr CS q3
  unfold valCs strV
  go_wp2_with fail
  go_meet
  case rel=>exact hN.out
 case rest =>
 obtain⟨b1,rfl,rfl,g0⟩:=hcut
 replace hst:=hid g0
 clear g0
 go_upto_region 2 with fail
 go_cut [3,4] from 18 to 25 (fun v1 v2 w'=>NewJ w w' v1 v2 tJ 0 [(b1,V1)])
 case first =>
  obtain⟨k1,g1,a1,l1,c1,e1,s1,aa1,an1,ac1,oa1,on1,oc1,⟨y10,y11,y12,y13,y14,y15,y16⟩,r1⟩:=hst.out.2 (b1,V1) (by simp)
  have CNx:=hid (fun W' (hb:Below wc.heap.size wc W')=>kF (-1) (plainD true 1 0) W' (by unfold I64;decide) (fun W h=>vU 1 W (by decide) (by decide) (HT.out.below (ae (ae hst.out.1 hb) h)).2))
  have CG:=hid (show ∀W' b na nc,Below wc.heap.size wc W'→W'.heap[b]? = some (.cells #[.int .i64 4,.bool false,.slice none 0 0,.int .i64 0,.string ⟨#[97]⟩,.slice none 0 0,.slice none 0 0,.int .i64 3,.bool (plainD true 1 0).neg,.slice na (Num.limbs (plainD true 1 0).m).length nc,.int .i64 (plainD true 1 0).e,.string ⟨#[]⟩,.slice none 0 0,.slice none 0 0] 28 (0,0))→RdV W' [.int .i64 3,.bool (plainD true 1 0).neg,.slice na (Num.limbs (plainD true 1 0).m).length nc,.int .i64 (plainD true 1 0).e,.string ⟨#[]⟩,.slice none 0 0,.slice none 0 0] (numJ (plainD true 1 0))→Calls Tryz.prog 14 #[.agg #[.int .i64 k1,.bool g1,.slice a1 l1 c1,.int .i64 e1,.string ⟨s1.toArray⟩,.slice aa1 an1 ac1,.slice oa1 on1 oc1],.slice (some ⟨b,0,none⟩) 2 2] W' fun e w4=>(∃cs,e=.returned (.tuple #[.agg cs.toArray,.int .i64 0])∧RdX (NewA wc W') w4 cs tJ∧Below W'.heap.size W' w4)∧Below wc.heap.size wc w4 from fun W' b na nc hb hk hr=>by
   have h:=zX (NewA wc W') V1 p2 _ (some ⟨b,0,none⟩) 2 W' qJ uX (by decide) (mQ r1 hb) (rda2 _ _ _ _ _ _ _ _ _ _ _ _ _ _ _ _ _ _ _ _ _ _ _ _ _ _ hk (yw W') hr) (HT.out.below (ae hst.out.1 hb))
   rw[BK] at h
   exact h.mono fun e w4 hh=>⟨hh,by obtain⟨_,_,_,h3⟩:=hh;exact ae hb h3⟩)
  have hb3:b1<wc.heap.size:=ax y10
  clear r1
  go_region_held3 (fun W'=>(∀b o,b<wc.heap.size→W'.cell? ⟨b,o,none⟩=wc.cell? ⟨b,o,none⟩)∧(∀b o,b<wc.heap.size→W'.frozen? ⟨b,o,none⟩=wc.frozen? ⟨b,o,none⟩)∧Below wc.heap.size wc W') (with_reducible first | exact bH _ | exact bI (by assumption) (by assumption) | exact bg (by assumption) _ | exact bJ (by assumption) _ | exact bn _ | exact bu (by assumption) _ | exact au (by assumption) (Nat.le_refl _) | exact au (by assumption) (dC (by assumption)) | exact au (by assumption) (by assumption) | exact au (by assumption) (Nat.le_succ_of_le (by assumption)) | exact au (by assumption) (Nat.le_succ_of_le (Nat.le_succ_of_le (by assumption))) | assumption) (first | (go_at_call 24;(with_reducible refine (gm _).mono ?_);rintro eT wT ⟨rfl,hbT⟩;have hsT:=hbT.size;have hzT:wc.heap.size≤wT.heap.size:=(by have hh:=hbT.size;(try simp only[bM,dS] at hh);omega);(first | (with_reducible have bx:=af bx hbT) | (with_reducible have bx:=af (aX wc (.cells #[.int .i64 0,.bool false,.slice none 0 0,.int .i64 0,.string ⟨#[]⟩,.slice none 0 0,.slice none 0 0] 28)) hbT) | (with_reducible have bx:=af (aj wN (.cells #[.int .i64 0,.bool false,.slice none 0 0,.int .i64 0,.string ⟨#[]⟩,.slice none 0 0,.slice none 0 0] 28)) hbT) | skip);(first | (with_reducible have rn:=RdV.stay rn hbT) | (with_reducible have rn:=RdV.stay (RdV.stay rn (Below.alloc (Below.refl wN.heap.size wN) (Nat.le_refl _) (.cells #[.int .i64 0,.bool false,.slice none 0 0,.int .i64 0,.string ⟨#[]⟩,.slice none 0 0,.slice none 0 0] 28))) hbT) | skip)) | (go_at_call 25;(with_reducible refine (CNx.out _ ?_).mono ?_);(simp only[*]);rintro eN wN ⟨na,nc,rfl,rn,hbN⟩;have hsN:=hbN.size;have hzN:wc.heap.size≤wN.heap.size:=(by have hh:=hbN.size;(try simp only[bM] at hh);omega);(first | (with_reducible have bx:=af bx hbN) | (with_reducible have bx:=af (aX wc (.cells #[.int .i64 0,.bool false,.slice none 0 0,.int .i64 0,.string ⟨#[]⟩,.slice none 0 0,.slice none 0 0] 28)) hbN) | (with_reducible have bx:=af (aj wT (.cells #[.int .i64 0,.bool false,.slice none 0 0,.int .i64 0,.string ⟨#[]⟩,.slice none 0 0,.slice none 0 0] 28)) hbN) | skip)) | (go_at_call 14;(with_reducible refine (CG.out _ _ na nc ?_ ?_ ?_).mono ?_);(simp only[*]);(first | (with_reducible exact aj _ _) | (with_reducible exact aB _ _ _) | (with_reducible exact af (aj _ _) (Below.alloc (Below.refl _ _) (Nat.le_refl _) _)));(first | (with_reducible exact RdV.stay rn (Below.alloc (Below.refl _ _) (Nat.le_refl _) _)) | (with_reducible exact RdV.stay (RdV.stay rn (Below.alloc (Below.refl _ _) (Nat.le_refl _) _)) (Below.alloc (Below.refl _ _) (Nat.le_refl _) _)));rintro e4 w4 ⟨⟨cs4,rfl,hr4,hb4⟩,hbc4⟩;obtain⟨vk,vg,va,vl,vc,ve,vs,vaa,van,vac,voa,von,voc,rfl⟩:=RdV.sevenB hr4;have hs4:=hb4.size;(first | (with_reducible have bx:=af (af bx (Below.alloc (Below.refl _ _) (Nat.le_refl _) _)) hb4) | (with_reducible have bx:=af (af (aj wT (.cells #[.int .i64 0,.bool false,.slice none 0 0,.int .i64 0,.string ⟨#[]⟩,.slice none 0 0,.slice none 0 0] 28)) (Below.alloc (Below.refl _ _) (Nat.le_refl _) _)) hb4) | (with_reducible have bx:=af (af (aj wN (.cells #[.int .i64 0,.bool false,.slice none 0 0,.int .i64 0,.string ⟨#[]⟩,.slice none 0 0,.slice none 0 0] 28)) (Below.alloc (Below.refl _ _) (Nat.le_refl _) _)) hb4) | (with_reducible have bx:=af (aB wT _ (.cells #[.int .i64 0,.bool false,.slice none 0 0,.int .i64 0,.string ⟨#[]⟩,.slice none 0 0,.slice none 0 0] 28)) hb4) | (with_reducible have bx:=af (aB wN _ (.cells #[.int .i64 0,.bool false,.slice none 0 0,.int .i64 0,.string ⟨#[]⟩,.slice none 0 0,.slice none 0 0] 28)) hb4) | skip);(first | (with_reducible have mm:=ag bx;obtain⟨⟨m0,m1,m2,m3,m4,m5,m6⟩,g0,g1,g2,g3,g4,g5,g6⟩:=mm) | skip)))
  all_goals
   go_wp2_with fail
   go_meet
   case rel=>first | with_reducible exact kG hst.out hbc4 hr4 rfl | with_reducible exact jm hst.out hbc4 hr4 rfl (by simp only[bM,dS] at hsT hsN hs4 ⊢;omega) (by simp only[bM,dS] at hsT hsN hs4 ⊢;omega) bx
 case rest =>
 obtain⟨b2,rfl,rfl,g0⟩:=hcut
 replace hst:=hid g0
 clear g0
 go_upto_region 3 with fail
 go_cut [5,6] from 26 to 34 (fun v1 v2 w'=>NewJ w w' v1 v2 V2 0 [(b2,tJ),(b1,V1)])
 case first =>
  obtain⟨k1,g1,a1,l1,c1,e1,s1,aa1,an1,ac1,oa1,on1,oc1,⟨y10,y11,y12,y13,y14,y15,y16⟩,r1⟩:=hst.out.2 (b1,V1) (by simp)
  have CNx:=hid (fun W' (hb:Below wc.heap.size wc W')=>kF 0 (plainD false 0 0) W' (by unfold I64;decide) (fun W h=>jf 0 W (by decide) (HT.out.below (ae (ae hst.out.1 hb) h)).2))
  have CG:=hid (show ∀W' b b2 na nc,Below wc.heap.size wc W'→W'.heap[b]? = some (.cells #[.int .i64 4,.bool false,.slice none 0 0,.int .i64 0,.string ⟨#[97]⟩,.slice none 0 0,.slice none 0 0,.int .i64 3,.bool (plainD false 0 0).neg,.slice na (Num.limbs (plainD false 0 0).m).length nc,.int .i64 (plainD false 0 0).e,.string ⟨#[]⟩,.slice none 0 0,.slice none 0 0] 28 (0,0))→W'.heap[b2]? = some (.cells #[.slice (some ⟨b,0,none⟩) 2 2] 25 (0,0))→RdV W' [.int .i64 3,.bool (plainD false 0 0).neg,.slice na (Num.limbs (plainD false 0 0).m).length nc,.int .i64 (plainD false 0 0).e,.string ⟨#[]⟩,.slice none 0 0,.slice none 0 0] (numJ (plainD false 0 0))→Calls Tryz.prog 18 #[.agg #[.int .i64 k1,.bool g1,.slice a1 l1 c1,.int .i64 e1,.string ⟨s1.toArray⟩,.slice aa1 an1 ac1,.slice oa1 on1 oc1],.slice (some ⟨b2,0,none⟩) 1 1] W' fun e w4=>(∃cs,e=.returned (.tuple #[.agg cs.toArray,.int .i64 0])∧RdX (NewA wc W') w4 cs V2∧Below W'.heap.size W' w4)∧Below wc.heap.size wc w4 from fun W' b b2 na nc hb hk hk2 hr=>by
   have hp:RdP W' (some ⟨b2,0,none⟩) [p3]:=fun i p hp=>by
    have hi:i=0:=by have:=(List.getElem?_eq_some_iff.1 hp).1;simp at this;omega
    subst hi
    obtain rfl:p3=p:=by simpa using hp
    exact⟨b2,0,some ⟨b,0,none⟩,2,rfl,by simp[World.cell?,hk2,p3],rda2 _ _ _ _ _ _ _ _ _ _ _ _ _ _ _ _ _ _ _ _ _ _ _ _ _ _ hk (yw W') hr,Nat.le_refl _,by decide⟩
   have h:=oL (NewA wc W') V1 [p3] _ (some ⟨b2,0,none⟩) 1 W' qJ (by decide) (mQ r1 hb) uX hp (fun p hp=>by
    obtain rfl:=List.mem_singleton.1 hp
    exact⟨by decide,fun x hx=>by
     simp only[p3,List.mem_cons,List.not_mem_nil,or_false] at hx
     rcases hx with rfl | rfl
     ·exact .mk _ (by decide) (by decide) (by decide) (fun x hx=>by cases hx) (fun x hx=>by cases hx) (fun x hx=>by cases hx)
     ·exact .mk _ (by decide) (by decide) (by decide) (fun x hx=>by cases hx) (fun x hx=>by cases hx) (fun x hx=>by cases hx)⟩) (HT.out.below (ae hst.out.1 hb))
   rw[BL] at h
   exact h.mono fun e w4 hh=>⟨hh,by obtain⟨_,_,_,h3⟩:=hh;exact ae hb h3⟩)
  have hb3:b1<wc.heap.size:=ax y10
  clear r1
  go_region_held3 (fun W'=>(∀b o,b<wc.heap.size→W'.cell? ⟨b,o,none⟩=wc.cell? ⟨b,o,none⟩)∧(∀b o,b<wc.heap.size→W'.frozen? ⟨b,o,none⟩=wc.frozen? ⟨b,o,none⟩)∧Below wc.heap.size wc W') (with_reducible first | exact bH _ | exact bI (by assumption) (by assumption) | exact bg (by assumption) _ | exact bJ (by assumption) _ | exact bn _ | exact bu (by assumption) _ | exact au (by assumption) (Nat.le_refl _) | exact au (by assumption) (dC (by assumption)) | exact au (by assumption) (by assumption) | exact au (by assumption) (Nat.le_succ_of_le (by assumption)) | exact au (by assumption) (Nat.le_succ_of_le (Nat.le_succ_of_le (by assumption))) | assumption) (first | (go_at_call 24;(with_reducible refine (gm _).mono ?_);rintro eT wT ⟨rfl,hbT⟩;have hsT:=hbT.size;have hzT:wc.heap.size≤wT.heap.size:=(by have hh:=hbT.size;(try simp only[bM,dS] at hh);omega);(first | (with_reducible have bx:=af bx hbT) | (with_reducible have bx:=af (aX wc (.cells #[.int .i64 0,.bool false,.slice none 0 0,.int .i64 0,.string ⟨#[]⟩,.slice none 0 0,.slice none 0 0] 28)) hbT) | (with_reducible have bx:=af (aj wN (.cells #[.int .i64 0,.bool false,.slice none 0 0,.int .i64 0,.string ⟨#[]⟩,.slice none 0 0,.slice none 0 0] 28)) hbT) | skip);(first | (with_reducible have rn:=RdV.stay rn hbT) | (with_reducible have rn:=RdV.stay (RdV.stay rn (Below.alloc (Below.refl wN.heap.size wN) (Nat.le_refl _) (.cells #[.int .i64 0,.bool false,.slice none 0 0,.int .i64 0,.string ⟨#[]⟩,.slice none 0 0,.slice none 0 0] 28))) hbT) | skip)) | (go_at_call 25;(with_reducible refine (CNx.out _ ?_).mono ?_);(simp only[*]);rintro eN wN ⟨na,nc,rfl,rn,hbN⟩;have hsN:=hbN.size;have hzN:wc.heap.size≤wN.heap.size:=(by have hh:=hbN.size;(try simp only[bM] at hh);omega);(first | (with_reducible have bx:=af bx hbN) | (with_reducible have bx:=af (aX wc (.cells #[.int .i64 0,.bool false,.slice none 0 0,.int .i64 0,.string ⟨#[]⟩,.slice none 0 0,.slice none 0 0] 28)) hbN) | (with_reducible have bx:=af (aj wT (.cells #[.int .i64 0,.bool false,.slice none 0 0,.int .i64 0,.string ⟨#[]⟩,.slice none 0 0,.slice none 0 0] 28)) hbN) | skip)) | (go_at_call 18;(with_reducible refine (CG.out _ (wN.heap.size) _ na nc ?_ ?_ ?_ ?_).mono ?_);(simp only[*]);(first | (with_reducible exact af (aj _ _) (Below.alloc (Below.refl _ _) (Nat.le_refl _) _)) | (with_reducible exact af (aB _ _ _) (Below.alloc (Below.refl _ _) (Nat.le_refl _) _)) | (with_reducible exact af (af (aj _ _) (Below.alloc (Below.refl _ _) (Nat.le_refl _) _)) (Below.alloc (Below.refl _ _) (Nat.le_refl _) _)));(first | (with_reducible exact aB _ _ _) | (with_reducible exact dM _ _ _ _) | (with_reducible exact af (aB _ _ _) (Below.alloc (Below.refl _ _) (Nat.le_refl _) _)));(first | (with_reducible exact RdV.stay (RdV.stay rn (Below.alloc (Below.refl _ _) (Nat.le_refl _) _)) (Below.alloc (Below.refl _ _) (Nat.le_refl _) _)) | (with_reducible exact RdV.stay (RdV.stay (RdV.stay rn (Below.alloc (Below.refl _ _) (Nat.le_refl _) _)) (Below.alloc (Below.refl _ _) (Nat.le_refl _) _)) (Below.alloc (Below.refl _ _) (Nat.le_refl _) _)));rintro e4 w4 ⟨⟨cs4,rfl,hr4,hb4⟩,hbc4⟩;obtain⟨vk,vg,va,vl,vc,ve,vs,vaa,van,vac,voa,von,voc,rfl⟩:=RdV.sevenB hr4;have hs4:=hb4.size;(first | (with_reducible have bx:=af (af (af bx (Below.alloc (Below.refl _ _) (Nat.le_refl _) _)) (Below.alloc (Below.refl _ _) (Nat.le_refl _) _)) hb4) | (with_reducible have bx:=af (af (af (aj wT (.cells #[.int .i64 0,.bool false,.slice none 0 0,.int .i64 0,.string ⟨#[]⟩,.slice none 0 0,.slice none 0 0] 28)) (Below.alloc (Below.refl _ _) (Nat.le_refl _) _)) (Below.alloc (Below.refl _ _) (Nat.le_refl _) _)) hb4) | (with_reducible have bx:=af (af (af (aj wN (.cells #[.int .i64 0,.bool false,.slice none 0 0,.int .i64 0,.string ⟨#[]⟩,.slice none 0 0,.slice none 0 0] 28)) (Below.alloc (Below.refl _ _) (Nat.le_refl _) _)) (Below.alloc (Below.refl _ _) (Nat.le_refl _) _)) hb4) | (with_reducible have bx:=af (af (aB wT _ (.cells #[.int .i64 0,.bool false,.slice none 0 0,.int .i64 0,.string ⟨#[]⟩,.slice none 0 0,.slice none 0 0] 28)) (Below.alloc (Below.refl _ _) (Nat.le_refl _) _)) hb4) | (with_reducible have bx:=af (af (aB wN _ (.cells #[.int .i64 0,.bool false,.slice none 0 0,.int .i64 0,.string ⟨#[]⟩,.slice none 0 0,.slice none 0 0] 28)) (Below.alloc (Below.refl _ _) (Nat.le_refl _) _)) hb4) | (with_reducible have bx:=af (dM wT _ _ (.cells #[.int .i64 0,.bool false,.slice none 0 0,.int .i64 0,.string ⟨#[]⟩,.slice none 0 0,.slice none 0 0] 28)) hb4) | (with_reducible have bx:=af (dM wN _ _ (.cells #[.int .i64 0,.bool false,.slice none 0 0,.int .i64 0,.string ⟨#[]⟩,.slice none 0 0,.slice none 0 0] 28)) hb4) | skip);(first | (with_reducible have mm:=ag bx;obtain⟨⟨m0,m1,m2,m3,m4,m5,m6⟩,g0,g1,g2,g3,g4,g5,g6⟩:=mm) | skip)) | (go_at_call 18;(with_reducible refine (CG.out _ (wT.heap.size) _ na nc ?_ ?_ ?_ ?_).mono ?_);(simp only[*]);(first | (with_reducible exact af (aj _ _) (Below.alloc (Below.refl _ _) (Nat.le_refl _) _)) | (with_reducible exact af (aB _ _ _) (Below.alloc (Below.refl _ _) (Nat.le_refl _) _)) | (with_reducible exact af (af (aj _ _) (Below.alloc (Below.refl _ _) (Nat.le_refl _) _)) (Below.alloc (Below.refl _ _) (Nat.le_refl _) _)));(first | (with_reducible exact aB _ _ _) | (with_reducible exact dM _ _ _ _) | (with_reducible exact af (aB _ _ _) (Below.alloc (Below.refl _ _) (Nat.le_refl _) _)));(first | (with_reducible exact RdV.stay (RdV.stay rn (Below.alloc (Below.refl _ _) (Nat.le_refl _) _)) (Below.alloc (Below.refl _ _) (Nat.le_refl _) _)) | (with_reducible exact RdV.stay (RdV.stay (RdV.stay rn (Below.alloc (Below.refl _ _) (Nat.le_refl _) _)) (Below.alloc (Below.refl _ _) (Nat.le_refl _) _)) (Below.alloc (Below.refl _ _) (Nat.le_refl _) _)));rintro e4 w4 ⟨⟨cs4,rfl,hr4,hb4⟩,hbc4⟩;obtain⟨vk,vg,va,vl,vc,ve,vs,vaa,van,vac,voa,von,voc,rfl⟩:=RdV.sevenB hr4;have hs4:=hb4.size;(first | (with_reducible have bx:=af (af (af bx (Below.alloc (Below.refl _ _) (Nat.le_refl _) _)) (Below.alloc (Below.refl _ _) (Nat.le_refl _) _)) hb4) | (with_reducible have bx:=af (af (af (aj wT (.cells #[.int .i64 0,.bool false,.slice none 0 0,.int .i64 0,.string ⟨#[]⟩,.slice none 0 0,.slice none 0 0] 28)) (Below.alloc (Below.refl _ _) (Nat.le_refl _) _)) (Below.alloc (Below.refl _ _) (Nat.le_refl _) _)) hb4) | (with_reducible have bx:=af (af (af (aj wN (.cells #[.int .i64 0,.bool false,.slice none 0 0,.int .i64 0,.string ⟨#[]⟩,.slice none 0 0,.slice none 0 0] 28)) (Below.alloc (Below.refl _ _) (Nat.le_refl _) _)) (Below.alloc (Below.refl _ _) (Nat.le_refl _) _)) hb4) | (with_reducible have bx:=af (af (aB wT _ (.cells #[.int .i64 0,.bool false,.slice none 0 0,.int .i64 0,.string ⟨#[]⟩,.slice none 0 0,.slice none 0 0] 28)) (Below.alloc (Below.refl _ _) (Nat.le_refl _) _)) hb4) | (with_reducible have bx:=af (af (aB wN _ (.cells #[.int .i64 0,.bool false,.slice none 0 0,.int .i64 0,.string ⟨#[]⟩,.slice none 0 0,.slice none 0 0] 28)) (Below.alloc (Below.refl _ _) (Nat.le_refl _) _)) hb4) | (with_reducible have bx:=af (dM wT _ _ (.cells #[.int .i64 0,.bool false,.slice none 0 0,.int .i64 0,.string ⟨#[]⟩,.slice none 0 0,.slice none 0 0] 28)) hb4) | (with_reducible have bx:=af (dM wN _ _ (.cells #[.int .i64 0,.bool false,.slice none 0 0,.int .i64 0,.string ⟨#[]⟩,.slice none 0 0,.slice none 0 0] 28)) hb4) | skip);(first | (with_reducible have mm:=ag bx;obtain⟨⟨m0,m1,m2,m3,m4,m5,m6⟩,g0,g1,g2,g3,g4,g5,g6⟩:=mm) | skip)) | (go_at_call 18;(with_reducible refine (CG.out _ (wN.heap.size+1) _ na nc ?_ ?_ ?_ ?_).mono ?_);(simp only[*]);(first | (with_reducible exact af (aj _ _) (Below.alloc (Below.refl _ _) (Nat.le_refl _) _)) | (with_reducible exact af (aB _ _ _) (Below.alloc (Below.refl _ _) (Nat.le_refl _) _)) | (with_reducible exact af (af (aj _ _) (Below.alloc (Below.refl _ _) (Nat.le_refl _) _)) (Below.alloc (Below.refl _ _) (Nat.le_refl _) _)));(first | (with_reducible exact aB _ _ _) | (with_reducible exact dM _ _ _ _) | (with_reducible exact af (aB _ _ _) (Below.alloc (Below.refl _ _) (Nat.le_refl _) _)));(first | (with_reducible exact RdV.stay (RdV.stay rn (Below.alloc (Below.refl _ _) (Nat.le_refl _) _)) (Below.alloc (Below.refl _ _) (Nat.le_refl _) _)) | (with_reducible exact RdV.stay (RdV.stay (RdV.stay rn (Below.alloc (Below.refl _ _) (Nat.le_refl _) _)) (Below.alloc (Below.refl _ _) (Nat.le_refl _) _)) (Below.alloc (Below.refl _ _) (Nat.le_refl _) _)));rintro e4 w4 ⟨⟨cs4,rfl,hr4,hb4⟩,hbc4⟩;obtain⟨vk,vg,va,vl,vc,ve,vs,vaa,van,vac,voa,von,voc,rfl⟩:=RdV.sevenB hr4;have hs4:=hb4.size;(first | (with_reducible have bx:=af (af (af bx (Below.alloc (Below.refl _ _) (Nat.le_refl _) _)) (Below.alloc (Below.refl _ _) (Nat.le_refl _) _)) hb4) | (with_reducible have bx:=af (af (af (aj wT (.cells #[.int .i64 0,.bool false,.slice none 0 0,.int .i64 0,.string ⟨#[]⟩,.slice none 0 0,.slice none 0 0] 28)) (Below.alloc (Below.refl _ _) (Nat.le_refl _) _)) (Below.alloc (Below.refl _ _) (Nat.le_refl _) _)) hb4) | (with_reducible have bx:=af (af (af (aj wN (.cells #[.int .i64 0,.bool false,.slice none 0 0,.int .i64 0,.string ⟨#[]⟩,.slice none 0 0,.slice none 0 0] 28)) (Below.alloc (Below.refl _ _) (Nat.le_refl _) _)) (Below.alloc (Below.refl _ _) (Nat.le_refl _) _)) hb4) | (with_reducible have bx:=af (af (aB wT _ (.cells #[.int .i64 0,.bool false,.slice none 0 0,.int .i64 0,.string ⟨#[]⟩,.slice none 0 0,.slice none 0 0] 28)) (Below.alloc (Below.refl _ _) (Nat.le_refl _) _)) hb4) | (with_reducible have bx:=af (af (aB wN _ (.cells #[.int .i64 0,.bool false,.slice none 0 0,.int .i64 0,.string ⟨#[]⟩,.slice none 0 0,.slice none 0 0] 28)) (Below.alloc (Below.refl _ _) (Nat.le_refl _) _)) hb4) | (with_reducible have bx:=af (dM wT _ _ (.cells #[.int .i64 0,.bool false,.slice none 0 0,.int .i64 0,.string ⟨#[]⟩,.slice none 0 0,.slice none 0 0] 28)) hb4) | (with_reducible have bx:=af (dM wN _ _ (.cells #[.int .i64 0,.bool false,.slice none 0 0,.int .i64 0,.string ⟨#[]⟩,.slice none 0 0,.slice none 0 0] 28)) hb4) | skip);(first | (with_reducible have mm:=ag bx;obtain⟨⟨m0,m1,m2,m3,m4,m5,m6⟩,g0,g1,g2,g3,g4,g5,g6⟩:=mm) | skip)) | (go_at_call 18;(with_reducible refine (CG.out _ (wT.heap.size+1) _ na nc ?_ ?_ ?_ ?_).mono ?_);(simp only[*]);(first | (with_reducible exact af (aj _ _) (Below.alloc (Below.refl _ _) (Nat.le_refl _) _)) | (with_reducible exact af (aB _ _ _) (Below.alloc (Below.refl _ _) (Nat.le_refl _) _)) | (with_reducible exact af (af (aj _ _) (Below.alloc (Below.refl _ _) (Nat.le_refl _) _)) (Below.alloc (Below.refl _ _) (Nat.le_refl _) _)));(first | (with_reducible exact aB _ _ _) | (with_reducible exact dM _ _ _ _) | (with_reducible exact af (aB _ _ _) (Below.alloc (Below.refl _ _) (Nat.le_refl _) _)));(first | (with_reducible exact RdV.stay (RdV.stay rn (Below.alloc (Below.refl _ _) (Nat.le_refl _) _)) (Below.alloc (Below.refl _ _) (Nat.le_refl _) _)) | (with_reducible exact RdV.stay (RdV.stay (RdV.stay rn (Below.alloc (Below.refl _ _) (Nat.le_refl _) _)) (Below.alloc (Below.refl _ _) (Nat.le_refl _) _)) (Below.alloc (Below.refl _ _) (Nat.le_refl _) _)));rintro e4 w4 ⟨⟨cs4,rfl,hr4,hb4⟩,hbc4⟩;obtain⟨vk,vg,va,vl,vc,ve,vs,vaa,van,vac,voa,von,voc,rfl⟩:=RdV.sevenB hr4;have hs4:=hb4.size;(first | (with_reducible have bx:=af (af (af bx (Below.alloc (Below.refl _ _) (Nat.le_refl _) _)) (Below.alloc (Below.refl _ _) (Nat.le_refl _) _)) hb4) | (with_reducible have bx:=af (af (af (aj wT (.cells #[.int .i64 0,.bool false,.slice none 0 0,.int .i64 0,.string ⟨#[]⟩,.slice none 0 0,.slice none 0 0] 28)) (Below.alloc (Below.refl _ _) (Nat.le_refl _) _)) (Below.alloc (Below.refl _ _) (Nat.le_refl _) _)) hb4) | (with_reducible have bx:=af (af (af (aj wN (.cells #[.int .i64 0,.bool false,.slice none 0 0,.int .i64 0,.string ⟨#[]⟩,.slice none 0 0,.slice none 0 0] 28)) (Below.alloc (Below.refl _ _) (Nat.le_refl _) _)) (Below.alloc (Below.refl _ _) (Nat.le_refl _) _)) hb4) | (with_reducible have bx:=af (af (aB wT _ (.cells #[.int .i64 0,.bool false,.slice none 0 0,.int .i64 0,.string ⟨#[]⟩,.slice none 0 0,.slice none 0 0] 28)) (Below.alloc (Below.refl _ _) (Nat.le_refl _) _)) hb4) | (with_reducible have bx:=af (af (aB wN _ (.cells #[.int .i64 0,.bool false,.slice none 0 0,.int .i64 0,.string ⟨#[]⟩,.slice none 0 0,.slice none 0 0] 28)) (Below.alloc (Below.refl _ _) (Nat.le_refl _) _)) hb4) | (with_reducible have bx:=af (dM wT _ _ (.cells #[.int .i64 0,.bool false,.slice none 0 0,.int .i64 0,.string ⟨#[]⟩,.slice none 0 0,.slice none 0 0] 28)) hb4) | (with_reducible have bx:=af (dM wN _ _ (.cells #[.int .i64 0,.bool false,.slice none 0 0,.int .i64 0,.string ⟨#[]⟩,.slice none 0 0,.slice none 0 0] 28)) hb4) | skip);(first | (with_reducible have mm:=ag bx;obtain⟨⟨m0,m1,m2,m3,m4,m5,m6⟩,g0,g1,g2,g3,g4,g5,g6⟩:=mm) | skip)))
  all_goals
   go_wp2_with fail
   go_meet
   case rel=>first | with_reducible exact kG hst.out hbc4 hr4 rfl | with_reducible exact jm hst.out hbc4 hr4 rfl (by simp only[bM,dS] at hsT hsN hs4 ⊢;omega) (by simp only[bM,dS] at hsT hsN hs4 ⊢;omega) bx
 case rest =>
 obtain⟨b3,rfl,rfl,g0⟩:=hcut
 replace hst:=hid g0
 clear g0
 go_upto_region 4 with fail
 go_cut [7,8] from 35 to 40 (fun v1 v2 w'=>NewJ w w' v1 v2 (arrJ [tJ]) 0 [(b3,V2),(b2,tJ),(b1,V1)])
 case first =>
  obtain⟨k1,g1,a1,l1,c1,e1,s1,aa1,an1,ac1,oa1,on1,oc1,⟨y10,y11,y12,y13,y14,y15,y16⟩,r1⟩:=hst.out.2 (b3,V2) (by simp)
  have CG:=hid (show ∀W',Below wc.heap.size wc W'→Calls Tryz.prog 11 #[.agg #[.int .i64 k1,.bool g1,.slice a1 l1 c1,.int .i64 e1,.string ⟨s1.toArray⟩,.slice aa1 an1 ac1,.slice oa1 on1 oc1],.agg #[.int .i64 4,.bool false,.slice none 0 0,.int .i64 0,.string ⟨#[97]⟩,.slice none 0 0,.slice none 0 0]] W' fun e w4=>(∃cs,e=.returned (.tuple #[.agg cs.toArray,.int .i64 0])∧RdX (NewA wc W') w4 cs (arrJ [tJ])∧Below W'.heap.size W' w4)∧Below wc.heap.size wc w4 from fun W' hb=>by
   have h:=xC (NewA wc W') V2 aJ _ _ W' qJ DD (mQ r1 hb) (yw W') (HT.out.below (ae hst.out.1 hb))
   rw[zu] at h
   exact h.mono fun e w4 hh=>⟨hh,by obtain⟨_,_,_,h3⟩:=hh;exact ae hb h3⟩)
  have hb3:b3<wc.heap.size:=ax y10
  clear r1
  go_region_held3 (fun W'=>(∀b o,b<wc.heap.size→W'.cell? ⟨b,o,none⟩=wc.cell? ⟨b,o,none⟩)∧(∀b o,b<wc.heap.size→W'.frozen? ⟨b,o,none⟩=wc.frozen? ⟨b,o,none⟩)∧Below wc.heap.size wc W') (with_reducible first | exact bH _ | exact bI (by assumption) (by assumption) | exact bg (by assumption) _ | exact bJ (by assumption) _ | exact bn _ | exact bu (by assumption) _ | exact au (by assumption) (Nat.le_refl _) | exact au (by assumption) (dC (by assumption)) | exact au (by assumption) (by assumption) | exact au (by assumption) (Nat.le_succ_of_le (by assumption)) | exact au (by assumption) (Nat.le_succ_of_le (Nat.le_succ_of_le (by assumption))) | assumption) (first | (go_at_call 24;(with_reducible refine (gm _).mono ?_);rintro eT wT ⟨rfl,hbT⟩;have hsT:=hbT.size;have hzT:wc.heap.size≤wT.heap.size:=(by have hh:=hbT.size;(try simp only[bM,dS] at hh);omega);(first | (with_reducible have bx:=af bx hbT) | (with_reducible have bx:=af (aX wc (.cells #[.int .i64 0,.bool false,.slice none 0 0,.int .i64 0,.string ⟨#[]⟩,.slice none 0 0,.slice none 0 0] 28)) hbT) | (with_reducible have bx:=af (aj wN (.cells #[.int .i64 0,.bool false,.slice none 0 0,.int .i64 0,.string ⟨#[]⟩,.slice none 0 0,.slice none 0 0] 28)) hbT) | skip);(first | (with_reducible have rn:=RdV.stay rn hbT) | (with_reducible have rn:=RdV.stay (RdV.stay rn (Below.alloc (Below.refl wN.heap.size wN) (Nat.le_refl _) (.cells #[.int .i64 0,.bool false,.slice none 0 0,.int .i64 0,.string ⟨#[]⟩,.slice none 0 0,.slice none 0 0] 28))) hbT) | skip)) | (go_at_call 11;(with_reducible refine (CG.out _ ?_).mono ?_);(simp only[*]);rintro e4 w4 ⟨⟨cs4,rfl,hr4,hb4⟩,hbc4⟩;obtain⟨vk,vg,va,vl,vc,ve,vs,vaa,van,vac,voa,von,voc,rfl⟩:=RdV.sevenB hr4;have hs4:=hb4.size;(first | (with_reducible have bx:=af bx hb4) | (with_reducible have bx:=af (aj wT (.cells #[.int .i64 0,.bool false,.slice none 0 0,.int .i64 0,.string ⟨#[]⟩,.slice none 0 0,.slice none 0 0] 28)) hb4) | skip);(first | (with_reducible have mm:=ag bx;obtain⟨⟨m0,m1,m2,m3,m4,m5,m6⟩,g0,g1,g2,g3,g4,g5,g6⟩:=mm) | skip)))
  all_goals
   go_wp2_with fail
   go_meet
   case rel=>first | with_reducible exact kG hst.out hbc4 hr4 rfl | with_reducible exact jm hst.out hbc4 hr4 rfl (by simp only[bM,dS] at hsT hs4 ⊢;omega) (by simp only[bM,dS] at hsT hs4 ⊢;omega) bx
 case rest =>
 obtain⟨b4,rfl,rfl,g0⟩:=hcut
 replace hst:=hid g0
 clear g0
 obtain⟨k1,g1,a1,l1,c1,e1,s1,aa1,an1,ac1,oa1,on1,oc1,⟨y10,y11,y12,y13,y14,y15,y16⟩,r1⟩:=hst.out.2 (b2,tJ) (by simp)
 obtain⟨k2,g2,a2,l2,c2,e2,s2,aa2,an2,ac2,oa2,on2,oc2,⟨y20,y21,y22,y23,y24,y25,y26⟩,r2⟩:=hst.out.2 (b4,(arrJ [tJ])) (by simp)
 have e1:=DF r1
 obtain⟨hA,hn,hc⟩:=sN r2
 obtain⟨cs0,⟨b0,o0,rfl,hcell⟩,r0⟩:=hA 0 tJ rfl
 obtain⟨uk,ug,ua,ul,uc,ue,us,uaa,uan,uac,uoa,uon,uoc,rfl⟩:=r0.sevenB
 have e3:=pF (qZ r0)
 have u0:=hcell 0 _ rfl
 simp only[Nat.zero_mul,Nat.add_zero] at u0
 have hq:=hid hst.out.1
 replace e1:k1=2:=e1
 replace e3:uk=2:=e3
 replace hn:an2=1:=hn
 subst e1 e3 hn
 clear hcell hA r0 r1 r2 hst
 go_wp2_with fail
 go_ret
 exact⟨by simp,hq.out⟩
end Go.Proofs.YtcgbmmalfbpjaaaGreatDoor
