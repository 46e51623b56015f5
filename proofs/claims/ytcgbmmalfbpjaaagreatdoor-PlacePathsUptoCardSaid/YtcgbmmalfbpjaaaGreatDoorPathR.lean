/-  -/
import Derived.Test.YtcgbmmalfbpjaaaGreatDoorPathW
import Derived.Test.YtcgbmmalfbpjaaaGreatDoorRefP
import Derived.Test.YtcgbmmalfbpjaaaGreatDoorPa
set_option maxRecDepth 100000
set_option maxHeartbeats 16000000
namespace Go.Proofs.YtcgbmmalfbpjaaaGreatDoor
open Go.RowKit
def RdQ (w:World) (a:Option Addr) (ps:List (List JV)):Prop:=∀(i:Nat) (p:List JV),ps[i]? = some p→∃(pb po:Nat) (q:Option Addr) (c:Nat),a=some ⟨pb,po,none⟩∧w.cell? ⟨pb,po+i,none⟩=some (.slice q p.length c)∧RdA w q p∧p.length≤c∧c≤9223372036854775807
def OutRP (A:Nat→Prop) (w:World) (ps:List (List JV)) (e:Ending) (w':World):Prop:=∃a c,e=.returned (.slice a ps.length c)∧RdQ (hideW A w') a ps∧ps.length≤c∧c≤9223372036854775807∧Below w.heap.size w w'
def KidR (F:JV→List JV→List (List JV)) (m:Nat) (x:JV):Prop :=
 ∀(A:Nat→Prop) (path:List JV) (cs:List Value) (pa:Option Addr) (pc:Nat) (w:World),In A w→path.length=m→(F x path).length≤1048576→RdV w cs x→RdA (hideW A w) pa path →
  Calls Tryz.prog 22 #[.agg cs.toArray,.slice pa path.length pc] w (OutRP A w (F x path))
theorem RowsP.rdq {X:Nat→Prop}{base:Nat}{lv:Value}{W:World}{ps:List (List JV)}(h:RowsP X base lv W ps)(hX:∀k,X k→k<base):∃(a:Option Addr) (c:Nat),lv=.slice a ps.length c∧RdQ (hideW X W) a ps∧ps.length≤c∧c≤9223372036854775807:=by
 obtain⟨cells,⟨hl,h1⟩,h2⟩:=h
 rw[Nat.mul_one] at hl
 rcases h1 with ⟨rfl,h0⟩ | ⟨g,cap,cur,rfl,hbg,hg,hc1,hc2,hc3,hc4⟩
 ·exact⟨none,0,by rw[h0],fun i p hp=>by have:=(List.getElem?_eq_some_iff.1 hp).1;omega,by omega,by omega⟩
 ·refine⟨some ⟨g,0,none⟩,cap,rfl,fun i p hp=>?_,hc1,by unfold maxLen at hc2;exact hc2⟩
  have hi:=(List.getElem?_eq_some_iff.1 hp).1
  have hci:cells[i]? = some cells[i]:=List.getElem?_eq_getElem (by omega)
  obtain⟨a,c,e,k1,k2,k3⟩:=h2 i _ p hci hp
  refine⟨g,0,a,c,rfl,aI.2 ⟨fun hk=>?_,?_⟩,k1.sub (pI fun k hk=>Or.inl hk),k2,k3⟩
  ·have:=hX _ hk
   dsimp only at this
   omega
  have hk:(cur.toList.take (ps.length * 1))[i]? = some cells[i]:=by rw[hc4];exact hci
  rw[List.getElem?_take,if_pos (by omega)] at hk
  rw[←e,Nat.zero_add]
  simp only[World.cell?,hg]
  simpa using hk
theorem qg {w:World}{a:Option Addr}{ps:List (List JV)}(h:RdQ w a ps):∃ys:List Value,ys.length=ps.length∧(∀(j:Nat) u,ys[j]? = some u→∃ad,a=some ad∧w.cell? (ad.add j)=some u)∧(∀u ∈ ys,u.oneCell'=true)∧∀(i:Nat) (c:Value) (p:List JV),ys[i]? = some c→ps[i]? = some p→PE w c p:=by
 have key:∀(ps:List (List JV)) (k:Nat),(∀(i:Nat) (p:List JV),ps[i]? = some p→∃(pb po:Nat) (q:Option Addr) (c:Nat),a=some ⟨pb,po,none⟩∧w.cell? ⟨pb,po+(k+i),none⟩=some (.slice q p.length c)∧RdA w q p∧p.length≤c∧c≤9223372036854775807) →
   ∃ys:List Value,ys.length=ps.length∧(∀(j:Nat) u,ys[j]? = some u→∃ad,a=some ad∧w.cell? (ad.add (k+j))=some u)∧(∀u ∈ ys,u.oneCell'=true)∧∀(i:Nat) (c:Value) (p:List JV),ys[i]? = some c→ps[i]? = some p→PE w c p:=by
  intro ps
  induction ps with
  | nil=>intro k _;exact⟨[],rfl,(fun j u h=>by simp at h),(fun u h=>by cases h),(fun i c p h=>by simp at h)⟩
  | cons p ps ih =>
   intro k hk
   obtain⟨pb,po,q,c,e1,e2,e3,e4,e5⟩:=hk 0 p rfl
   obtain⟨ys,y1,y2,y3,y4⟩:=ih (k+1) (fun i p' hp=>by
    have:=hk (i+1) p' (by simpa using hp)
    rw[show k+1+i=k+(i+1) by omega]
    exact this)
   refine⟨.slice q p.length c :: ys,by simp[y1],?_,?_,?_⟩
   ·intro j u hu
    cases j with
    | zero =>
     simp at hu
     refine⟨_,e1,?_⟩
     rw[Addr.add_lit,←hu]
     exact e2
    | succ j =>
     obtain⟨ad,f1,f2⟩:=y2 j u (by simpa using hu)
     exact⟨ad,f1,by rw[show k+(j+1)=k+1+j by omega];exact f2⟩
   ·intro u hu
    rcases List.mem_cons.1 hu with rfl | hu
    ·rfl
    ·exact y3 u hu
   ·intro i c' p' h1 h2
    cases i with
    | zero =>
     simp at h1 h2
     subst h1 h2
     exact⟨q,c,rfl,e3,e4,e5⟩
    | succ i=>exact y4 i c' p' (by simpa using h1) (by simpa using h2)
 obtain⟨ys,y1,y2,y3,y4⟩:=key ps 0 (fun i p hp=>by rw[Nat.zero_add];exact h i p hp)
 exact⟨ys,y1,fun j u hu=>by have:=y2 j u hu;rw[Nat.zero_add] at this;exact this,y3,y4⟩
theorem fH {X:Nat→Prop}{base:Nat}{lv:Value}{w:World}{ps:List (List JV)}(h:RowsP X base lv w ps):∀k,lv.ownBlock=some k→base≤k∧k<w.heap.size:=fun k hk=>by
 obtain⟨cells,h1,_⟩:=h
 exact h1.lt k hk
theorem uH (F:JV→List JV→List (List JV))(A:Nat→Prop)(xk:Int)(xg:Bool)(xa:Option Addr)(xl xc:Nat)(xe:Int)(xs:ByteArray)(xaa:Option Addr)(xan xac:Nat)(xoa:Option Addr)(xon xoc:Nat)(pa:Option Addr)(pl pc:Nat)(v:JV)(path:List JV)(w:World)(hpl:pl=path.length)(hpm:pl≤1000)
  (han:xan=v.arr.length)(hon:xon=v.obj.length)(han2:xan≤1048576)(hon2:xon≤1048576)(hcnt:(itemsP F v.arr 0 path ++ fldsP F v.obj path).length≤1048576)(hks:∀p ∈ v.obj,p.1.length≤1048576)(hIn:In A w)
  (rA:RdA w xaa v.arr)(rO:RdO w xoa v.obj)(rP:RdA (hideW A w) pa path)
  (IHa:∀x ∈ v.arr,KidR F (pl+1) x)(IHo:∀p ∈ v.obj,KidR F (pl+1) p.2) :
  Calls Tryz.prog 22 #[.agg #[.int .i64 xk,.bool xg,.slice xa xl xc,.int .i64 xe,.string xs,.slice xaa xan xac,.slice xoa xon xoc],.slice pa pl pc] w (OutRP A w (itemsP F v.arr 0 path ++ fldsP F v.obj path)):=by
 obtain⟨Q,hQ⟩:∃Q,Q=OutRP A w (itemsP F v.arr 0 path ++ fldsP F v.obj path):=⟨_,rfl⟩
 rw[←hQ]
 obtain⟨E,hE1,hE2⟩:=rP.zes
 have hEl:E.length=pl:=by rw[hpl,←hE1,List.length_map]
 have hB0:=(Below.refl w.heap.size w).alloc (Nat.le_refl _) (.cells #[.int .i64 xk,.bool xg,.slice xa xl xc,.int .i64 xe,.string xs,.slice xaa xan xac,.slice xoa xon xoc] 28)
 have hX:=hid (aj w (.cells #[.int .i64 xk,.bool xg,.slice xa xl xc,.int .i64 xe,.string xs,.slice xaa xan xac,.slice xoa xon xoc] 28))
 obtain⟨W,hW⟩:∃W,W=w.alloc (.cells #[.int .i64 xk,.bool xg,.slice xa xl xc,.int .i64 xe,.string xs,.slice xaa xan xac,.slice xoa xon xoc] 28):=⟨_,rfl⟩
 rw[←hW] at hB0 hX
 have HB:=hid hB0
 have HwW:=hid (aA hX.out)
 have HI:=hid (show ∀k,A k→k<W.heap.size from fun k hk=>Nat.lt_trans (hIn k hk) HwW.out)
 have hput:=hid (show ∀w' lv',RowsP A W.heap.size lv' w' (itemsP F v.arr 0 path ++ fldsP F v.obj path)→Below W.heap.size W w'→Q (.returned lv') w' from fun w' lv' h1 h2=>by
  obtain⟨a,c,rfl,e1,e2,e3⟩:=RowsP.rdq h1 HI.out
  rw[hQ];exact⟨a,c,rfl,e1,e2,e3,ae hB0 h2⟩)
 replace hW:=hid hW.symm
 replace rA:=hid rA
 replace rO:=hid rO
 replace hcnt:=hid hcnt
 replace hks:=hid hks
 replace hE1:=hid hE1
 replace hE2:=hid hE2
 replace hEl:=hid hEl
 replace IHa:=hid IHa
 replace IHo:=hid IHo
 replace hpl:=hid hpl
 have han':=hid han
 have hon':=hid hon
 obtain⟨i0,i1,i2,i3,z,i4,i5⟩:=eG
 replace i1:=hid i1
 replace i2:=hid i2
 replace i3:=hid i3
 replace i4:=hid i4
 replace i5:=hid i5
 obtain⟨j0,j1,j2,j3,zz,j4,j5⟩:=yC
 replace j1:=hid j1
 replace j2:=hid j2
 replace j3:=hid j3
 replace j4:=hid j4
 replace j5:=hid j5
 clear hQ hB0 rP han hon hIn
 go_enter Tryz.func22,Tryz.ntmps22
 go_upto_region 1 with fail
 rw[hW.out]
 go_upto_region 3 with fail
 go_loopw [5,6,7] (fun v5 v6 _ wr=>∃(i:Nat),i≤xan∧v6=.int .i64 i∧Hid (RowsP A W.heap.size v5 wr (itemsP F (v.arr.take i) 0 path))∧Hid (Below W.heap.size W wr)) (fun _ v6 _ _=>xan-(intOf v6).toNat)
 case atStart=>exact⟨0,Nat.zero_le _,rfl,hid (by simpa[itemsP] using RowsP.nil A W.heap.size W),hid (Below.refl _ _)⟩
 case round =>
  obtain⟨i,hi,rfl,hr,hb⟩:=hrel
  have x1:=hid (af hX.out hb.out)
  obtain⟨⟨p0,p1,p2,p3,p4,p5,p6⟩,_⟩:=ag x1.out
  obtain⟨lr,hlr⟩:∃lr,lr=u5:=⟨_,rfl⟩
  rw[←hlr] at hr ⊢
  clear hlr u5
  by_cases hlt:i<xan
  ·have hlt2:(i:Int)<(xan:Int):=by omega
   have hi1:=hid (show i<v.arr.length by rw[←han'.out];exact hlt)
   obtain⟨x,hx0⟩:∃x,x=v.arr[i]'hi1.out:=⟨_,rfl⟩
   have hx:=hid hx0
   have hmem:=hid (show x ∈ v.arr by rw[hx0];exact List.getElem_mem hi1.out)
   have htk:=hid (show itemsP F (v.arr.take (i+1)) 0 path=itemsP F (v.arr.take i) 0 path ++ (path ++ [nJ i]) :: F x (path ++ [nJ i]) by rw[hx0];exact nK hi1.out path)
   have hle:=hid (show (itemsP F (v.arr.take (i+1)) 0 path).length≤(itemsP F v.arr 0 path).length from iU F v.arr (i+1) path)
   clear hx0
   have hbA:=(Below.refl wr.heap.size wr).alloc (Nat.le_refl _) (.cells #[] 28)
   have ow:=hid (World.ownsRow_made (base:=wr.heap.size) (e:=28) (size:=7) wr #[] 0 (Nat.le_refl _) (Nat.zero_le _) rfl)
   have hnews:=hid (show ∀(j:Nat) u,(E.flatMap ZE.cs)[j]? = some u→∃ad,pa=some ad∧(wr.alloc (.cells #[] 28)).cell? (ad.add j)=some u from jw fun n e he=>(((hE2.out n e he).sub (aC _ _)).below (ae HB.out hb.out)).below hbA)
   have b1:=hid hbA
   have hss:=hid (show SubW (hideW A w) (hideW (OwnB A lr) wr) from az (fun k hk h=>by
    rcases h with h | h
    ·exact h
    ·have:=(fH hr.out k h).1;have:=HwW.out;omega) (ae HB.out hb.out))
   clear hbA
   go_wp2_with (at_builtin;refine dX rfl _ _ _ rfl wr.heap.size _ i0 z 7 112 Tryz.underlying25 i1.out i4.out i2.out i3.out i5.out (by decide) _ 0 _ rfl ow.out pa pl pc _ rfl (by rw[aV,hEl.out]) hnews.out (dY E) (by unfold maxLen;omega) (by omega) b1.out.size ?_;intro cv w1 hown1 hb1)
   have hown1':w1.ownsRow wr.heap.size 28 7 cv pl (E.flatMap ZE.cs):=by simpa using hown1
   have ow1:=hid hown1'
   have q1:=hid (b1.out.trans (hb1))
   obtain⟨d,hd⟩:∃d,d=plainD false i 0:=⟨_,rfl⟩
   have CO:=uI i w1 (by omega)
   rw[←hd] at CO
   replace CO:=hid CO
   replace hd:=hid hd
   clear hown1 hown1' hb1 ow hnews
   go_wp2_with fail
   refine CO.out.mono ?_
   rintro en w2 ⟨da,dc,rfl,hb2,hu2⟩
   obtain⟨dl,hdl⟩:∃dl,dl=(Num.limbs d.m).length:=⟨_,rfl⟩
   have q2:=hid (ae q1.out hb2)
   have o2:=hid (aH ow1.out hb2)
   have hu3:=hid hu2
   unfold decV
   rw[←hdl] at hu3 ⊢
   replace hdl:=hid hdl
   clear CO hu2
   have hb2':=hid hb2
   clear hb2
   have hbA:=(Below.refl w2.heap.size w2).alloc (Nat.le_refl _) (.cells #[.int .i64 3,.bool d.neg,.slice da dl dc,.int .i64 d.e,.string ⟨#[]⟩,.slice none 0 0,.slice none 0 0] 28)
   have hnw:=hid (qR w2 (.int .i64 3) (.bool d.neg) (.slice da dl dc) (.int .i64 d.e) (.string ⟨#[]⟩) (.slice none 0 0) (.slice none 0 0) 28)
   have q4:=hid (ae q2.out hbA)
   have o4:=hid (aH o2.out hbA)
   have hbA2:=hid hbA
   clear hbA
   go_upto_region 6 with (at_builtin;refine aY rfl _ _ _ rfl wr.heap.size _ i0 z 7 112 Tryz.underlying25 i1.out i4.out i2.out i3.out i5.out (by decide) _ pl _ rfl o4.out (some ⟨w2.heap.size,0,none⟩) 1 1 _ rfl rfl hnw.out yD (by unfold maxLen;omega) (by omega) q4.out.size ?_;intro pv w3 hown3 hg3 hob3;obtain⟨va,vn,vc,rfl⟩:=eu hown3)
   obtain⟨pv,hpv⟩:∃pv,pv=Value.slice va vn vc:=⟨_,rfl⟩
   rw[←hpv] at hown3
   have hA1:=hid (show ∀k,OwnB A lr k→k<wr.heap.size from fun k hk=>by
    rcases hk with hk | hk
    ·have:=HI.out k hk;have:=hb.out.size;omega
    ·exact (fH hr.out k hk).2)
   obtain⟨pq,pqc,hpv2,rq,hq1,hq2⟩:=iI (A:=OwnB A lr) (x:=nJ i) hA1.out hEl.out (hss.out.trans (az (fun k hk h=>by
    rcases h with h | h
    ·exact h
    ·have:=(o4.out.lt k h).1;omega) q4.out)) (by
     unfold nJ
     rw[←hd.out]
     exact (yE hdl.out (yF hu3.out (fun k hk=>by
      rcases hk with hk | hk
      ·have:=hA1.out k hk;have:=q1.out.size;omega
      ·exact (ow1.out.lt k hk).2)) (yG hu3.out) (by rw[hd.out];exact uJ i (by omega))).sub (az (fun _ _ h=>h) hbA2.out)) hg3 hown3
   have hpv3:=hpv2.symm.trans hpv
   simp only[Value.slice.injEq] at hpv3
   obtain⟨rfl,rfl,rfl⟩:=hpv3
   clear hpv hpv2
   rw[hE1.out] at rq
   have q5:=hid (q4.out.grown hg3 (Nat.le_trans q2.out.size hbA2.out.size) (fun k hk=>(o4.out.lt k hk).1))
   clear hnw hown3 hg3 hob3 hu3 hbA2 o2 o4 ow1 q1 q2 q4 hdl hd b1 hb2' p0 p1 p2 p3 p4 p5 p6 x1
   obtain⟨pth,hpth⟩:∃p,p=path ++ [nJ i]:=⟨_,rfl⟩
   have hlen:pth.length=pl+1:=by rw[hpth,List.length_append,←hpl.out];rfl
   rw[←hpth] at rq htk
   clear hpth
   have hbA:=(Below.refl w3.heap.size w3).alloc (Nat.le_refl _) (.cells #[.slice pq (pl+1) pqc] 25)
   have q6:=hid (ae q5.out hbA)
   have hnw:=hid (jQ w3 (.slice pq (pl+1) pqc) 25)
   obtain⟨cells,oc0,hpe0⟩:=hr.out.below q6.out
   have oc:=hid oc0
   have hpe:=hid hpe0
   have hcell:=hid (show PE (hideW (OwnB A lr) (w3.alloc (.cells #[.slice pq (pl+1) pqc] 25))) (.slice pq (pl+1) pqc) pth from ⟨pq,pqc,by rw[hlen],rq.sub (az (fun _ _ h=>h) hbA),by omega,hq2⟩)
   have hrq:=hid (rq.sub (az (A':=OwnB A lr) (fun _ _ h=>h) hbA))
   have hcl:=hid (show (itemsP F (v.arr.take i) 0 path).length+1+(F x pth).length≤1048576 by
    have h1:=hcnt.out
    have h2:=hle.out
    rw[htk.out] at h2
    simp only[List.length_append,List.length_cons] at h1 h2 ⊢
    omega)
   have bw6:=hid (hb.out.trans (q6.out.mono (by exact hb.out.size)))
   clear oc0 hpe0 hbA rq
   go_upto_region 7 with (at_builtin;refine aY rfl _ _ _ rfl W.heap.size _ j0 zz 1 24 Tryz.underlying42 j1.out j4.out j2.out j3.out j5.out (by decide) _ _ _ rfl oc.out (some ⟨w3.heap.size,0,none⟩) 1 1 _ rfl rfl hnw.out iJ (by unfold maxLen;have:=hcl.out;omega) (by have:=hcl.out;omega) (by have:=bw6.out.size;omega) ?_;intro lv' w5 hown5 hg5 hob5)
   have f5:FrameP A lr _ lv' w5:=FrameP.grown hg5 hob5
   have r5:=RowsP.app (X:=A) (qs:=[pth]) (news:=[.slice pq (pl+1) pqc]) hpe.out (by have:=oc.out.1;omega) hown5 f5 (fun i c' p' h1 h3=>by
    have hi:i=0:=by have:=(List.getElem?_eq_some_iff.1 h1).1;simp at this;omega
    subst hi
    obtain rfl:_=c':=by simpa using h1
    obtain rfl:pth=p':=by simpa using h3
    exact hcell.out)
   have bw5:=hid (bw6.out.grown hg5 bw6.out.size (fun k hk=>(oc.out.lt k hk).1))
   have x5:=hid (af hX.out bw5.out)
   obtain⟨⟨s0,s1,s2,s3,s4,s5,s6⟩,_⟩:=ag x5.out
   obtain⟨ck,⟨b,off,rfl,hc⟩,hrk⟩:=(rA.out.below (ae HB.out bw5.out)) i x (by rw[hx.out];exact List.getElem?_eq_getElem hi1.out)
   obtain⟨kk,kg,ka,kl,kc,ke,ks,kaa,kan,kac,koa,kon,koc,rfl⟩:=RdV.sevenB hrk
   have u0:=hc 0 _ rfl
   have u1:=hc 1 _ rfl
   have u2:=hc 2 _ rfl
   have u3:=hc 3 _ rfl
   have u4:=hc 4 _ rfl
   have u5:=hc 5 _ rfl
   have u6:=hc 6 _ rfl
   rw[Nat.add_zero] at u0
   have A5:=hid (show In (OwnB A lv') w5 from fun k hk=>by
    rcases hk with hk | hk
    ·have:=HI.out k hk;have:=bw5.out.size;omega
    ·exact (fH r5 k hk).2)
   have KID:=IHa.out x hmem.out (OwnB A lv') pth [.int .i64 kk,.bool kg,.slice ka kl kc,.int .i64 ke,.string ks,.slice kaa kan kac,.slice koa kon koc] pq pqc w5 A5.out hlen (by have:=hcl.out;omega) hrk (hrq.out.sub f5.sub)
   rw[hlen] at KID
   replace KID:=hid KID
   have R5:=hid r5
   clear hrq hcell hpe oc hnw r5 f5 hown5 hg5 hob5 hc hrk
   go_wp2_with fail
   refine KID.out.mono ?_
   rintro en w6 ⟨ra,rc,rfl,rr,rc1,rc2,hb6⟩
   obtain⟨cells2,oc2,hpe2⟩:=R5.out.below hb6
   obtain⟨ys,y1,y2,y3,y4⟩:=qg rr
   have OC2:=hid oc2
   have Y2:=hid (show ∀(j:Nat) u,ys[j]? = some u→∃ad,ra=some ad∧w6.cell? (ad.add j)=some u from fun j u h=>by
    obtain⟨ad,e1,e2⟩:=y2 j u h
    exact⟨ad,e1,(aI.1 e2).2⟩)
   have Y4:=hid y4
   have Y1:=hid (show ys.length=(F x pth).length * 1 by rw[y1,Nat.mul_one])
   have HP2:=hid hpe2
   have bw66:=hid (ae bw5.out hb6)
   have CL:=hid (show (itemsP F (v.arr.take i) 0 path ++ [pth]).length+(F x pth).length≤1048576 by have:=hcl.out;rw[List.length_append,List.length_singleton];exact this)
   clear KID R5 oc2 hpe2 rr y1 y2 y4 u1 u2 u3 u4 u5 u6 s0 s1 s2 s3 s4 s5 s6 hb6
   go_wp2_with (at_builtin;refine aY rfl _ _ _ rfl W.heap.size _ j0 zz 1 24 Tryz.underlying42 j1.out j4.out j2.out j3.out j5.out (by decide) _ _ _ rfl OC2.out ra _ _ ys rfl Y1.out Y2.out y3 (by unfold maxLen;have:=CL.out;omega) (by have:=CL.out;omega) (by have:=bw66.out.size;omega) ?_;intro lv7 w7 hown7 hg7 hob7)
   have f7:FrameP A lv' _ lv7 w7:=FrameP.grown hg7 hob7
   have R7:=hid (show RowsP A W.heap.size lv7 w7 (itemsP F (v.arr.take (i+1)) 0 path) by
    have:=RowsP.app (X:=A) (qs:=F x pth) (news:=ys) HP2.out (by have:=OC2.out.1;omega) hown7 f7 Y4.out
    rw[htk.out]
    simpa[List.append_assoc] using this)
   have bw7:=hid (bw66.out.grown hg7 bw66.out.size (fun k hk=>(OC2.out.lt k hk).1))
   clear f7 hown7 hg7 hob7 OC2 Y1 Y2 Y4 y3 HP2 CL
   go_wp2_with fail
   go_roundw
   case rel=>exact⟨i+1,by omega,by go_num,R7,bw7⟩
   case measure=>simp[intOf];omega
  ·obtain rfl:i=xan:=by omega
   have hlt2:¬ ((i:Nat):Int)<(i:Int):=by omega
   have ha0:=(show itemsP F (v.arr.take i) 0 path=itemsP F v.arr 0 path by rw[List.take_of_length_le (by rw[←han'.out];exact Nat.le_refl _)])
   rw[ha0] at hr
   go_upto_region 9 with fail
   have hr9:=hid hr.out
   have hb9:=hid hb.out
   clear ha0 p0 p1 p2 p3 p4 p5 p6 x1 hr hb hlt2 hlt hi
   go_loopw [5,8,9] (fun v5 v8 _ wq=>∃(i:Nat),i≤xon∧v8=.int .i64 i∧Hid (RowsP A W.heap.size v5 wq (itemsP F v.arr 0 path ++ fldsP F (v.obj.take i) path))∧Hid (Below W.heap.size W wq)) (fun _ v8 _ _=>xon-(intOf v8).toNat)
   case atStart=>exact⟨0,Nat.zero_le _,rfl,hid (by simpa[fldsP] using hr9.out),hb9⟩
   case round =>
    clear hr9 hb9
    obtain⟨i,hi,rfl,hr,hb⟩:=hrel
    have x1:=hid (af hX.out hb.out)
    obtain⟨⟨p0,p1,p2,p3,p4,p5,p6⟩,_⟩:=ag x1.out
    obtain⟨lr,hlr⟩:∃lr,lr=u5:=⟨_,rfl⟩
    rw[←hlr] at hr ⊢
    clear hlr u5
    by_cases hlt:i<xon
    ·have hlt2:(i:Int)<(xon:Int):=by omega
     have hi1:=hid (show i<v.obj.length by rw[←hon'.out];exact hlt)
     obtain⟨x,hx0⟩:∃x,x=v.obj[i]'hi1.out:=⟨_,rfl⟩
     have hx:=hid hx0
     have hmem:=hid (show x ∈ v.obj by rw[hx0];exact List.getElem_mem hi1.out)
     have hxl:=hid (hks.out x hmem.out)
     have htk:=hid (show fldsP F (v.obj.take (i+1)) path=fldsP F (v.obj.take i) path ++ (path ++ [textJ2 x.1]) :: F x.2 (path ++ [textJ2 x.1]) by rw[hx0];exact pY hi1.out path)
     have hle:=hid (show (fldsP F (v.obj.take (i+1)) path).length≤(fldsP F v.obj path).length from jP F v.obj (i+1) path)
     clear hx0
     obtain⟨ck,⟨b,off,rfl,hc⟩,_,_⟩:=(rO.out.below (ae HB.out hb.out)) i x (by rw[hx.out];exact List.getElem?_eq_getElem hi1.out)
     have u0:=hc 0 _ rfl
     rw[Nat.add_zero] at u0
     unfold strV at u0
     obtain⟨sb,hsb0⟩:∃sb:ByteArray,sb=⟨x.1.toArray⟩:=⟨_,rfl⟩
     rw[←hsb0] at u0
     have hsb:=hid hsb0
     clear hc hsb0
     have hA1:=hid (show ∀k,OwnB A lr k→k<wr.heap.size from fun k hk=>by
      rcases hk with hk | hk
      ·have:=HI.out k hk;have:=hb.out.size;omega
      ·exact (fH hr.out k hk).2)
     have hss:=hid (show SubW (hideW A w) (hideW (OwnB A lr) wr) from az (fun k hk h=>by
      rcases h with h | h
      ·exact h
      ·have:=(fH hr.out k h).1;have:=HwW.out;omega) (ae HB.out hb.out))
     have hEc:=hid (show ∀n (e:ZE (hideW A w)),E[n]? = some e→CellsAt wr pa (n * 7) e.cs from fun n e he=>((hE2.out n e he).sub (aC _ _)).below (ae HB.out hb.out))
     go_upto_region 11 with fail
     go_cut [9] from 43 to 70 (fun v9 w3=>∃pq pqc,v9=.slice pq (pl+1) pqc∧Hid (RdA (hideW (OwnB A lr) w3) pq (path ++ [textJ2 x.1]))∧Hid (pl+1≤pqc∧pqc≤9223372036854775807)∧Hid (Below wr.heap.size wr w3))
     case first =>
      have hnw0:=hid (show ∀W',Below wr.heap.size wr W'→∀(j:Nat) u,(E.flatMap ZE.cs)[j]? = some u→∃ad,pa=some ad∧W'.cell? (ad.add j)=some u from fun W' hb'=>jw fun n e he=>(hEc.out n e he).below hb')
      have hl6:=ax p6
      have hl0:=ax u0
      have hc6:=hid (show ∀W',Below wr.heap.size wr W'→W'.cell? ⟨w.heap.size,6,none⟩=some (.slice (some ⟨b,off,none⟩) xon xoc) from fun W' hb'=>SubW.below hb' _ _ p6)
      have hc0:=hid (show ∀W',Below wr.heap.size wr W'→W'.cell? ⟨b,off+i * 8,none⟩=some (.string sb) from fun W' hb'=>SubW.below hb' _ _ u0)
      have hzl:=hid (show (E.flatMap ZE.cs).length=pl * 7 by rw[aV,hEl.out])
      have hfin:=hid (show ∀cv wb w3 pv,wb.ownsRow wr.heap.size 28 7 cv pl (E.flatMap ZE.cs)→Below wr.heap.size wr wb→w3.ownsRow wr.heap.size 28 7 pv (pl+1) (E.flatMap ZE.cs ++ [.int .i64 4,.bool false,.slice none 0 0,.int .i64 0,.string sb,.slice none 0 0,.slice none 0 0])→wb.grownBy w3 cv.ownBlock→∃pq pqc,pv=.slice pq (pl+1) pqc∧Hid (RdA (hideW (OwnB A lr) w3) pq (path ++ [textJ2 x.1]))∧Hid (pl+1≤pqc∧pqc≤9223372036854775807)∧Hid (Below wr.heap.size wr w3) from fun cv wb w3 pv e1 e2 e3 e4=>by
       obtain⟨pq,pqc,rfl,rq,hq⟩:=iI (A:=OwnB A lr) (x:=textJ2 x.1) hA1.out hEl.out (hss.out.trans (az (fun k hk h=>by
        rcases h with h | h
        ·exact h
        ·have:=(e1.lt k h).1;omega) e2)) (by
         rw[hsb.out]
         exact yH (by have:=hxl.out;omega)) e4 e3
       rw[hE1.out] at rq
       exact⟨pq,pqc,rfl,rq,hq,e2.grown e4 e2.size (fun k hk=>(e1.lt k hk).1)⟩)
      go_region_law (first | (refine dR rfl _ _ _ rfl wr.heap.size _ i0 z 7 112 Tryz.underlying25 i1.out i4.out i2.out i3.out i5.out (by decide) _ 0 [] rfl (by first | exact aH (World.ownsRow_made (base:=wr.heap.size) (e:=28) (size:=7) wr #[] 0 (Nat.le_refl _) (Nat.zero_le _) rfl) ((Below.refl _ _).drew) | exact aH (World.ownsRow_made (base:=wr.heap.size) (e:=28) (size:=7) wr #[] 0 (Nat.le_refl _) (Nat.zero_le _) rfl) (((Below.refl _ _).alloc (Nat.le_refl _) _).drew) | exact aH (En (wr.alloc _) 28 (k:=wr.heap.size+1) (by simp) (by omega)) ((Below.refl _ _).drew)) pa pl pc (E.flatMap ZE.cs) rfl hzl.out (by exact hnw0.out _ (by first | exact ((Below.refl _ _).alloc (Nat.le_refl _) _).drew | exact (((Below.refl _ _).alloc (Nat.le_refl _) _).alloc (by simp) _).drew)) (dY E) (by unfold maxLen;omega) (by omega) (by (try simp);(try omega)) ?_;intro cv w1 hown1 hg1 hbb;obtain⟨ca,cn,cc,rfl⟩:=eu hown1;rw[Nat.zero_add,List.nil_append] at hown1;have hbw:=(show Below wr.heap.size wr w1 by first | exact (((Below.refl _ _).alloc (Nat.le_refl _) _).drew).trans hbb | exact ((((Below.refl _ _).alloc (Nat.le_refl _) _).alloc (by simp) _).drew).trans hbb);have g6:=hc6.out w1 hbw;have g0:=hc0.out w1 hbw;replace hbw:=hid hbw;replace hown1:=hid hown1) | (refine dR rfl _ _ _ rfl wr.heap.size _ i0 z 7 112 Tryz.underlying25 i1.out i4.out i2.out i3.out i5.out (by decide) _ pl (E.flatMap ZE.cs) rfl (by exact aH hown1.out ((Below.refl _ _).alloc (Nat.le_refl _) _)) (some ⟨w1.heap.size,0,none⟩) 1 1 _ rfl rfl (by exact qR w1 _ _ _ _ _ _ _ _) jR (by unfold maxLen;omega) (by omega) (by exact (ae hbw.out ((Below.refl _ _).alloc (Nat.le_refl _) _)).size) ?_;intro pv w3 hown3 hg3 _;have hfn:=hid (hfin.out (.slice ca cn cc) _ w3 pv (by exact aH hown1.out ((Below.refl _ _).alloc (Nat.le_refl _) _)) (by exact ae hbw.out ((Below.refl _ _).alloc (Nat.le_refl _) _)) hown3 hg3)) | (refine dR rfl _ _ _ rfl wr.heap.size _ i0 z 7 112 Tryz.underlying25 i1.out i4.out i2.out i3.out i5.out (by decide) _ pl (E.flatMap ZE.cs) rfl (by exact hown1.out) (some ⟨wr.heap.size+1,0,none⟩) 1 1 _ rfl rfl (by exact qh hg1 (aB wr _ _) (fun e=>absurd (Option.some.inj (show some (wr.heap.size+1)=some wr.heap.size from e)) (by omega))) jR (by unfold maxLen;omega) (by omega) (by exact hbw.out.size) ?_;intro pv w3 hown3 hg3 _;have hfn:=hid (hfin.out (.slice ca cn cc) _ w3 pv (by exact hown1.out) (by exact hbw.out) hown3 hg3)) | (refine dR rfl _ _ _ rfl wr.heap.size _ i0 z 7 112 Tryz.underlying25 i1.out i4.out i2.out i3.out i5.out (by decide) _ pl (E.flatMap ZE.cs) rfl (by exact hown1.out) (some ⟨wr.heap.size,0,none⟩) 1 1 _ rfl rfl (by exact qh hg1 (af (aj wr _) (((Below.refl _ _).alloc (Nat.le_refl _) _).drew)) (fun e=>absurd (Option.some.inj (show some wr.heap.size=some (wr.heap.size+1) from e)) (by omega))) jR (by unfold maxLen;omega) (by omega) (by exact hbw.out.size) ?_;intro pv w3 hown3 hg3 _;have hfn:=hid (hfin.out (.slice ca cn cc) _ w3 pv (by exact hown1.out) (by exact hbw.out) hown3 hg3)))
      all_goals
       go_wp2_with fail
       go_meet
       case rel=>exact hfn.out
     case rest =>
      obtain⟨pq,pqc,rfl,rq,hq,q5⟩:=hcut
      obtain⟨hq1,hq2⟩:=hq.out
      obtain⟨w3,hw3⟩:∃w3,w3=wc:=⟨_,rfl⟩
      replace rq:=rq.out
      rw[←hw3] at rq q5 ⊢
      clear hw3 wc hA1 hss hEc u0 p0 p1 p2 p3 p4 p5 p6 x1
      obtain⟨pth,hpth⟩:∃p,p=path ++ [textJ2 x.1]:=⟨_,rfl⟩
      have hlen:pth.length=pl+1:=by rw[hpth,List.length_append,←hpl.out];rfl
      rw[←hpth] at rq htk
      clear hpth
      have hbA:=(Below.refl w3.heap.size w3).alloc (Nat.le_refl _) (.cells #[.slice pq (pl+1) pqc] 25)
      have q6:=hid (ae q5.out hbA)
      have hnw:=hid (jQ w3 (.slice pq (pl+1) pqc) 25)
      obtain⟨cells,oc0,hpe0⟩:=hr.out.below q6.out
      have oc:=hid oc0
      have hpe:=hid hpe0
      have hcell:=hid (show PE (hideW (OwnB A lr) (w3.alloc (.cells #[.slice pq (pl+1) pqc] 25))) (.slice pq (pl+1) pqc) pth from ⟨pq,pqc,by rw[hlen],rq.sub (az (fun _ _ h=>h) hbA),by omega,hq2⟩)
      have hrq:=hid (rq.sub (az (A':=OwnB A lr) (fun _ _ h=>h) hbA))
      have hcl:=hid (show ((itemsP F v.arr 0 path ++ fldsP F (v.obj.take i) path)).length+1+(F x.2 pth).length≤1048576 by
       have h1:=hcnt.out
       have h2:=hle.out
       rw[htk.out] at h2
       simp only[List.length_append,List.length_cons] at h1 h2 ⊢
       omega)
      have bw6:=hid (hb.out.trans (q6.out.mono (by exact hb.out.size)))
      clear oc0 hpe0 hbA rq
      go_upto_region 13 with (at_builtin;refine aY rfl _ _ _ rfl W.heap.size _ j0 zz 1 24 Tryz.underlying42 j1.out j4.out j2.out j3.out j5.out (by decide) _ _ _ rfl oc.out (some ⟨w3.heap.size,0,none⟩) 1 1 _ rfl rfl hnw.out iJ (by unfold maxLen;have:=hcl.out;omega) (by have:=hcl.out;omega) (by have:=bw6.out.size;omega) ?_;intro lv' w5 hown5 hg5 hob5)
      have f5:FrameP A lr _ lv' w5:=FrameP.grown hg5 hob5
      have r5:=RowsP.app (X:=A) (qs:=[pth]) (news:=[.slice pq (pl+1) pqc]) hpe.out (by have:=oc.out.1;omega) hown5 f5 (fun i c' p' h1 h3=>by
       have hi:i=0:=by have:=(List.getElem?_eq_some_iff.1 h1).1;simp at this;omega
       subst hi
       obtain rfl:_=c':=by simpa using h1
       obtain rfl:pth=p':=by simpa using h3
       exact hcell.out)
      have bw5:=hid (bw6.out.grown hg5 bw6.out.size (fun k hk=>(oc.out.lt k hk).1))
      have x5:=hid (af hX.out bw5.out)
      obtain⟨⟨s0,s1,s2,s3,s4,s5,s6⟩,_⟩:=ag x5.out
      obtain⟨ck,⟨b',off',e',hc⟩,_,hrk⟩:=(rO.out.below (ae HB.out bw5.out)) i x (by rw[hx.out];exact List.getElem?_eq_getElem hi1.out)
      obtain⟨rfl,rfl⟩:b=b'∧off=off':=by
       simp only[Option.some.injEq,Addr.mk.injEq] at e'
       exact⟨e'.1,e'.2.1⟩
      obtain⟨kk,kg,ka,kl,kc,ke,ks,kaa,kan,kac,koa,kon,koc,rfl⟩:=RdV.sevenB hrk
      have u1:=hc 1 _ rfl
      have u2:=hc 2 _ rfl
      have u3:=hc 3 _ rfl
      have u4:=hc 4 _ rfl
      have u5:=hc 5 _ rfl
      have u6:=hc 6 _ rfl
      have u7:=hc 7 _ rfl
      have A5:=hid (show In (OwnB A lv') w5 from fun k hk=>by
       rcases hk with hk | hk
       ·have:=HI.out k hk;have:=bw5.out.size;omega
       ·exact (fH r5 k hk).2)
      have KID:=IHo.out x hmem.out (OwnB A lv') pth [.int .i64 kk,.bool kg,.slice ka kl kc,.int .i64 ke,.string ks,.slice kaa kan kac,.slice koa kon koc] pq pqc w5 A5.out hlen (by have:=hcl.out;omega) hrk (hrq.out.sub f5.sub)
      rw[hlen] at KID
      replace KID:=hid KID
      have R5:=hid r5
      clear e' hrq hcell hpe oc hnw r5 f5 hown5 hg5 hob5 hc hrk
      go_wp2_with fail
      refine KID.out.mono ?_
      rintro en w6 ⟨ra,rc,rfl,rr,rc1,rc2,hb6⟩
      obtain⟨cells2,oc2,hpe2⟩:=R5.out.below hb6
      obtain⟨ys,y1,y2,y3,y4⟩:=qg rr
      have OC2:=hid oc2
      have Y2:=hid (show ∀(j:Nat) u,ys[j]? = some u→∃ad,ra=some ad∧w6.cell? (ad.add j)=some u from fun j u h=>by
       obtain⟨ad,e1,e2⟩:=y2 j u h
       exact⟨ad,e1,(aI.1 e2).2⟩)
      have Y4:=hid y4
      have Y1:=hid (show ys.length=(F x.2 pth).length * 1 by rw[y1,Nat.mul_one])
      have HP2:=hid hpe2
      have bw66:=hid (ae bw5.out hb6)
      have CL:=hid (show ((itemsP F v.arr 0 path ++ fldsP F (v.obj.take i) path) ++ [pth]).length+(F x.2 pth).length≤1048576 by have:=hcl.out;rw[List.length_append,List.length_singleton];exact this)
      clear KID R5 oc2 hpe2 rr y1 y2 y4 u1 u2 u3 u4 u5 u6 s0 s1 s2 s3 s4 s5 s6 hb6
      go_wp2_with (at_builtin;refine aY rfl _ _ _ rfl W.heap.size _ j0 zz 1 24 Tryz.underlying42 j1.out j4.out j2.out j3.out j5.out (by decide) _ _ _ rfl OC2.out ra _ _ ys rfl Y1.out Y2.out y3 (by unfold maxLen;have:=CL.out;omega) (by have:=CL.out;omega) (by have:=bw66.out.size;omega) ?_;intro lv7 w7 hown7 hg7 hob7)
      have f7:FrameP A lv' _ lv7 w7:=FrameP.grown hg7 hob7
      have R7:=hid (show RowsP A W.heap.size lv7 w7 ((itemsP F v.arr 0 path ++ fldsP F (v.obj.take (i+1)) path)) by
       have:=RowsP.app (X:=A) (qs:=F x.2 pth) (news:=ys) HP2.out (by have:=OC2.out.1;omega) hown7 f7 Y4.out
       rw[htk.out]
       simpa[List.append_assoc] using this)
      have bw7:=hid (bw66.out.grown hg7 bw66.out.size (fun k hk=>(OC2.out.lt k hk).1))
      clear f7 hown7 hg7 hob7 OC2 Y1 Y2 Y4 y3 HP2 CL
      go_wp2_with fail
      go_roundw
      case rel=>exact⟨i+1,by omega,by go_num,R7,bw7⟩
      case measure=>simp[intOf];omega
    ·obtain rfl:i=xon:=by omega
     have hlt2:¬ ((i:Nat):Int)<(i:Int):=by omega
     have ha0:=(show fldsP F (v.obj.take i) path=fldsP F v.obj path by rw[List.take_of_length_le (by rw[←hon'.out];exact Nat.le_refl _)])
     have hq:=hid (hput.out wr lr (by rw[←ha0];exact hr.out) hb.out)
     clear ha0
     go_wp2_with fail
     exact hq.out
theorem nM:∀(f:Nat) (x:JV) (m:Nat),mayJ f x=true→SmallV x→m+f≤1000→KidR (pathsJ f) m x
 | 0,x,m,hm,hs,hmf=>by
  intro A path cs pa pc w hIn hpm hcnt rx rp
  simp only[mayJ,Bool.and_eq_true,decide_eq_true_eq] at hm
  have ea:=jM hm.1 (by omega)
  have eo:=jO hm.1 (by omega)
  obtain⟨a,c,aa,ac,oa,oc,P⟩:=rx.parts
  have e:=P.cells
  subst e
  have:=uH (pathsJ 0) A x.kind x.g a x.ls.length c x.e ⟨x.s.toArray⟩ aa x.arr.length ac oa x.obj.length oc pa path.length pc x path w rfl (by omega) rfl rfl (by rw[ea];exact Nat.zero_le _) (by rw[eo];exact Nat.zero_le _) (by rw[ea,eo];exact hcnt) (by rw[eo];intro p hp;cases hp) hIn P.arr P.obj rp (by rw[ea];intro p hp;cases hp) (by rw[eo];intro p hp;cases hp)
  rw[show itemsP (pathsJ 0) x.arr 0 path ++ fldsP (pathsJ 0) x.obj path=pathsJ 0 x path by rw[ea,eo];rfl] at this
  exact this
 | f+1,x,m,hm,hs,hmf=>by
  intro A path cs pa pc w hIn hpm hcnt rx rp
  simp only[mayJ,Bool.and_eq_true,List.all_eq_true] at hm
  obtain⟨a,c,aa,ac,oa,oc,P⟩:=rx.parts
  have e:=P.cells
  subst e
  exact uH (pathsJ f) A x.kind x.g a x.ls.length c x.e ⟨x.s.toArray⟩ aa x.arr.length ac oa x.obj.length oc pa path.length pc x path w rfl (by omega) rfl rfl hs.al hs.obj hcnt hs.keys hIn P.arr P.obj rp
   (fun y hy=>nM f y (path.length+1) (hm.1.1.2 y hy) (hs.arr y hy) (by omega)) (fun p hp=>nM f p.2 (path.length+1) (hm.1.2 p hp).2 (hs.flds p hp) (by omega))
theorem tH (v:JV)(cs:List Value)(w:World)(A:Nat→Prop)(hIn:In A w)(hm:mayJ 200 v=true)(sv:SmallV v)(hc:cntJ 200 v≤1048576)(rv:RdV w cs v) :
  Calls Tryz.prog 22 #[.agg cs.toArray,.slice none 0 0] w (OutRP A w (pathsJ 200 v [])) :=
 nM 200 v 0 hm sv (by omega) A [] cs none 0 w hIn rfl (by rw[fD];exact hc) rv (fun i y hy=>by simp at hy)
end Go.Proofs.YtcgbmmalfbpjaaaGreatDoor
