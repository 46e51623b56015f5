/-  -/
import Derived.Test.YtcgbmmalfbpjaaaGreatDoorRowsP
import Derived.Test.YtcgbmmalfbpjaaaGreatDoorPathP
import Derived.Test.YtcgbmmalfbpjaaaGreatDoorMl
import Derived.Test.YtcgbmmalfbpjaaaGreatDoorPb
import Derived.Test.YtcgbmmalfbpjaaaGreatDoorMn
set_option maxRecDepth 100000
set_option maxHeartbeats 16000000
namespace Go.Proofs.YtcgbmmalfbpjaaaGreatDoor
open Go.RowKit
def KidAt (F:JV→List JV→List (List JV)) (m L K base:Nat) (w0:World) (x:JV):Prop :=
 ∀(path:List JV) (ps:List (List JV)) (cs:List Value) (pa:Option Addr) (pc:Nat) (lv:Value) (w:World),path.length=m→(path=[]→pa=none)→ps.length+(F x path).length≤1048576 →
  Below w0.heap.size w0 w→base≤w.heap.size→w.heap[L]? = some (.cells #[lv] 42 (0,0)) →
  w.heap[K]? = some (.cells #[.func (.func 42) #[] #[.pointer (some ⟨L,0,none⟩),.pointer (some ⟨K,0,none⟩)]] 64 (0,0)) →
  RowsP (XL L) base lv w ps→RdX (OwnB (XL L) lv) w cs x→RdA (hideW (OwnB (XL L) lv) w) pa path →
  Calls Tryz.prog 42 #[.agg cs.toArray,.slice pa path.length pc,.pointer (some ⟨L,0,none⟩),.pointer (some ⟨K,0,none⟩)] w fun e w'=>e=.returned (.tuple #[])∧∃lv',w'.heap[L]? = some (.cells #[lv'] 42 (0,0))∧RowsP (XL L) base lv' w' (ps ++ F x path)∧FrameP (XL L) lv w lv' w'
theorem nN {X:Nat→Prop}{base:Nat}{lv:Value}{w:World}{ps:List (List JV)}(h:RowsP X base lv w ps){k:Nat}(hk:w.heap.size≤k):lv.ownBlock≠some k:=fun e=>by
 obtain⟨cells,h1,_⟩:=h
 have:=(h1.lt k e).2
 omega
theorem fJ {X:Nat→Prop}{base:Nat}{lv:Value}{w:World}{ps:List (List JV)}(h:RowsP X base lv w ps){k:Nat}(hk:k<base):lv.ownBlock≠some k:=fun e=>by
 obtain⟨cells,h1,_⟩:=h
 have:=(h1.lt k e).1
 omega
theorem iJ {q:Option Addr}{n c:Nat}:∀u ∈ [Value.slice q n c],u.oneCell'=true:=by
 intro u hu
 simp only[List.mem_cons,List.not_mem_nil,or_false] at hu
 subst hu
 rfl
theorem yD {g:Bool}{q:Option Addr}{n c:Nat}{e:Int}:∀u ∈ [Value.int .i64 3,.bool g,.slice q n c,.int .i64 e,.string ⟨#[]⟩,.slice none 0 0,.slice none 0 0],u.oneCell'=true:=by
 intro u hu
 simp only[List.mem_cons,List.not_mem_nil,or_false] at hu
 rcases hu with rfl | rfl | rfl | rfl | rfl | rfl | rfl<;>rfl
theorem jR {s:ByteArray}:∀u ∈ [Value.int .i64 4,.bool false,.slice none 0 0,.int .i64 0,.string s,.slice none 0 0,.slice none 0 0],u.oneCell'=true:=by
 intro u hu
 simp only[List.mem_cons,List.not_mem_nil,or_false] at hu
 rcases hu with rfl | rfl | rfl | rfl | rfl | rfl | rfl<;>rfl
theorem nH (F:JV→List JV→List (List JV))(xk:Int)(xg:Bool)(xa:Option Addr)(xl xc:Nat)(xe:Int)(xs:ByteArray)(xaa:Option Addr)(xan xac:Nat)(xoa:Option Addr)(xon xoc:Nat)(pa:Option Addr)(pl pc L K base:Nat)(lv:Value)(v:JV)(path:List JV)(ps:List (List JV))(w0 w:World)(hpl:pl=path.length)(hpm:pl≤1000)(h0:path=[]→pa=none)
  (han:xan=v.arr.length)(hon:xon=v.obj.length)(han2:xan≤1048576)(hon2:xon≤1048576)(hcnt:ps.length+(itemsP F v.arr 0 path ++ fldsP F v.obj path).length≤1048576)(hks:∀p ∈ v.obj,p.1.length≤1048576)
  (hT:Tabs w0)(hb0:Below w0.heap.size w0 w)(hL0:w0.heap.size≤L)(hLb:L<base)(hKb:K<base)(hKL:K≠L)(hbw:base≤w.heap.size)
  (hL:w.heap[L]? = some (.cells #[lv] 42 (0,0)))(hK:w.heap[K]? = some (.cells #[.func (.func 42) #[] #[.pointer (some ⟨L,0,none⟩),.pointer (some ⟨K,0,none⟩)]] 64 (0,0)))
  (hR:RowsP (XL L) base lv w ps)(rA:RdA (hideW (OwnB (XL L) lv) w) xaa v.arr)(rO:RdO (hideW (OwnB (XL L) lv) w) xoa v.obj)(rP:RdA (hideW (OwnB (XL L) lv) w) pa path)
  (IHa:∀x ∈ v.arr,KidAt F (pl+1) L K base w0 x)(IHo:∀p ∈ v.obj,KidAt F (pl+1) L K base w0 p.2) :
  Calls Tryz.prog 42 #[.agg #[.int .i64 xk,.bool xg,.slice xa xl xc,.int .i64 xe,.string xs,.slice xaa xan xac,.slice xoa xon xoc],.slice pa pl pc,.pointer (some ⟨L,0,none⟩),.pointer (some ⟨K,0,none⟩)] w fun e w'=>e=.returned (.tuple #[])∧∃lv',w'.heap[L]? = some (.cells #[lv'] 42 (0,0))∧RowsP (XL L) base lv' w' (ps ++ (itemsP F v.arr 0 path ++ fldsP F v.obj path))∧FrameP (XL L) lv w lv' w':=by
 obtain⟨Q,hQ⟩:∃Q:Ending→World→Prop,Q=fun e w'=>e=.returned (.tuple #[])∧∃lv',w'.heap[L]? = some (.cells #[lv'] 42 (0,0))∧RowsP (XL L) base lv' w' (ps ++ (itemsP F v.arr 0 path ++ fldsP F v.obj path))∧FrameP (XL L) lv w lv' w':=⟨_,rfl⟩
 rw[←hQ]
 obtain⟨E,hE1,hE2⟩:=rP.zes
 have hEl:E.length=pl:=by rw[hpl,←hE1,List.length_map]
 have hE0:=hid (show E=[]→pa=none from fun h=>h0 (by rw[←hE1,h];rfl))
 have hB0:=(Below.refl w.heap.size w).alloc (Nat.le_refl _) (.cells #[.int .i64 xk,.bool xg,.slice xa xl xc,.int .i64 xe,.string xs,.slice xaa xan xac,.slice xoa xon xoc] 28)
 have hX:=hid (aj w (.cells #[.int .i64 xk,.bool xg,.slice xa xl xc,.int .i64 xe,.string xs,.slice xaa xan xac,.slice xoa xon xoc] 28))
 obtain⟨W,hW⟩:∃W,W=w.alloc (.cells #[.int .i64 xk,.bool xg,.slice xa xl xc,.int .i64 xe,.string xs,.slice xaa xan xac,.slice xoa xon xoc] 28):=⟨_,rfl⟩
 rw[←hW] at hB0 hX
 have HB:=hid hB0
 have HL:=hid (af hL hB0)
 have HK:=hid (af hK hB0)
 have HR:=hid (hR.below hB0)
 have HO:=hid (nN hR (Nat.le_refl w.heap.size))
 have HW0:=hid (show base≤W.heap.size from Nat.le_trans hbw hB0.size)
 have Hb0:=hid (ae hb0 hB0)
 have HwW:=hid (aA hX.out)
 have HHS:=hid (show SubW (hideW (OwnB (XL L) lv) w) (hideW (OwnB (XL L) lv) W) from az (fun _ _ h=>h) hB0)
 have hput:=hid (show ∀w' lv',w'.heap[L]? = some (.cells #[lv'] 42 (0,0))→RowsP (XL L) base lv' w' (ps ++ (itemsP F v.arr 0 path ++ fldsP F v.obj path))→FrameP (XL L) lv W lv' w'→Q (.returned (.tuple #[])) w' from fun w' lv' h1 h2 h3=>by
  rw[hQ];exact⟨rfl,lv',h1,h2,(FrameP.of_below hB0).trans h3⟩)
 replace hW:=hid hW.symm
 replace rA:=hid rA
 replace rO:=hid rO
 replace hcnt:=hid hcnt
 replace hks:=hid hks
 replace hT:=hid hT
 replace hE1:=hid hE1
 replace hE2:=hid hE2
 replace hEl:=hid hEl
 replace IHa:=hid IHa
 replace IHo:=hid IHo
 replace hpl:=hid hpl
 have han':=hid han
 have hon':=hid hon
 obtain⟨i0,i1,i2,i3,z,i4,i5⟩:=eG
 replace i1:=hid i1
 replace i2:=hid i2
 replace i3:=hid i3
 replace i4:=hid i4
 replace i5:=hid i5
 obtain⟨j0,j1,j2,j3,zz,j4,j5⟩:=yC
 replace j1:=hid j1
 replace j2:=hid j2
 replace j3:=hid j3
 replace j4:=hid j4
 replace j5:=hid j5
 have hcall:=bD Tryz.func42 (by kernel_rfl) (by kernel_rfl)
 replace hLb:=hid hLb
 replace hKb:=hid hKb
 replace hKL:=hid hKL
 replace hL0:=hid hL0
 replace hbw:=hid hbw
 clear hQ hL hK hR hB0 hb0 h0 rP han hon
 obtain⟨⟨p0,p1,p2,p3,p4,p5,p6⟩,_⟩:=ag hX.out
 go_enter Tryz.func42,Tryz.ntmps42
 go_upto_region 1 with fail
 rw[hW.out]
 go_upto_region 2 with fail
 clear p0 p1 p2 p3 p4 p5 p6
 go_loopw [6,7,8,15] (fun _ _ _ v15 wr=>∃(i:Nat) (lr:Value),i≤xan∧v15=.int .i64 i∧Hid (wr.heap[L]? = some (.cells #[lr] 42 (0,0)))∧Hid (RowsP (XL L) base lr wr (ps ++ itemsP F (v.arr.take i) 0 path))∧Hid (FrameP (XL L) lv W lr wr)) (fun _ _ _ v15 _=>xan-(intOf v15).toNat)
 case atStart=>exact⟨0,lv,Nat.zero_le _,rfl,HL,hid (by simpa[itemsP] using HR.out),hid (FrameP.refl _ _ _)⟩
 case round =>
  obtain⟨i,lr,hi,rfl,hl,hr,hf⟩:=hrel
  have hbr:=hid (show base≤wr.heap.size from Nat.le_trans HW0.out hf.out.bel.size)
  have b0r:=hid (Below.trans Hb0.out (hf.out.below (B:=w0.heap.size) HR.out (fun k hk=>by have:=hL0.out;unfold XL at hk;omega) (by have:=hL0.out;have:=hLb.out;omega) (by have:=Hb0.out.size;omega)))
  have hss:=hid (show SubW (hideW (OwnB (XL L) lv) w) (hideW (OwnB (XL L) lr) wr) from HHS.out.trans hf.out.sub)
  have kr:=hid (hf.out.blk HK.out (fun h=>hKL.out h) (fJ HR.out hKb.out))
  by_cases hlt:i<xan
  ·have hlt2:(i:Int)<(xan:Int):=by omega
   have hi1:i<v.arr.length:=by rw[←han'.out];exact hlt
   obtain⟨x,hx⟩:∃x,x=v.arr[i]:=⟨_,rfl⟩
   have hmem:=hid (show x ∈ v.arr by rw[hx];exact List.getElem_mem hi1)
   have htk:=hid (show itemsP F (v.arr.take (i+1)) 0 path=itemsP F (v.arr.take i) 0 path ++ (path ++ [nJ i]) :: F x (path ++ [nJ i]) by rw[hx];exact nK hi1 path)
   have hle:=hid (show (itemsP F (v.arr.take (i+1)) 0 path).length≤(itemsP F v.arr 0 path).length from iU F v.arr (i+1) path)
   obtain⟨ck,hck,hrk⟩:=(rA.out.sub hss.out) i x (by rw[hx];exact List.getElem?_eq_getElem hi1)
   obtain⟨b,off,rfl,hc⟩:=hck.sub (aC _ _)
   obtain⟨kk,kg,ka,kl,kc,ke,ks,kaa,kan,kac,koa,kon,koc,rfl⟩:=RdV.sevenB hrk
   have u0:=hc 0 _ rfl
   have u1:=hc 1 _ rfl
   have u2:=hc 2 _ rfl
   have u3:=hc 3 _ rfl
   have u4:=hc 4 _ rfl
   have u5:=hc 5 _ rfl
   have u6:=hc 6 _ rfl
   rw[Nat.add_zero] at u0
   have hbA:=(Below.refl wr.heap.size wr).alloc (Nat.le_refl _) (.cells #[.int .i64 kk,.bool kg,.slice ka kl kc,.int .i64 ke,.string ks,.slice kaa kan kac,.slice koa kon koc] 28)
   have hnx:=hid (aj wr (.cells #[.int .i64 kk,.bool kg,.slice ka kl kc,.int .i64 ke,.string ks,.slice kaa kan kac,.slice koa kon koc] 28))
   have CC:=qi pa pc E (wr.alloc (.cells #[.int .i64 kk,.bool kg,.slice ka kl kc,.int .i64 ke,.string ks,.slice kaa kan kac,.slice koa kon koc] 28)) (fun n e he=>((hE2.out n e he).sub (hss.out.trans (aC _ _))).sub (SubW.below hbA)) hE0.out (by rw[hEl.out];omega)
   rw[hEl.out] at CC
   replace CC:=hid CC
   have hrk':=hid hrk
   have q1:=hid hbA
   clear hc hck hrk hbA hx hi1
   go_upto_region 4 with fail
   obtain⟨W1,hW1⟩:∃W1,W1=wr.alloc (.cells #[.int .i64 kk,.bool kg,.slice ka kl kc,.int .i64 ke,.string ks,.slice kaa kan kac,.slice koa kon koc] 28):=⟨_,rfl⟩
   rw[←hW1] at CC q1 hnx ⊢
   clear hW1 u0 u1 u2 u3 u4 u5 u6
   go_wp2_with fail
   refine CC.out.mono ?_
   rintro en w1 ⟨cv,rfl,ho1,hb1⟩
   have q2:=hid (ae q1.out hb1)
   have b2:=hid hb1
   have o2:=hid ho1
   obtain⟨d,hd⟩:∃d,d=plainD false i 0:=⟨_,rfl⟩
   have CO:=jf i w1 (by omega) ((hT.out.below b0r.out).below q2.out).2
   rw[←hd] at CO
   replace CO:=hid CO
   replace hd:=hid hd
   clear CC ho1 hb1
   go_wp2_with fail
   refine CO.out.mono ?_
   rintro en w2 ⟨da,dc,rfl,hb2,hu2⟩
   obtain⟨dl,hdl⟩:∃dl,dl=(Num.limbs d.m).length:=⟨_,rfl⟩
   have q3:=hid (ae q2.out hb2)
   have b3:=hid (ae b2.out hb2)
   have o3:=hid (aH o2.out hb2)
   have hu3:=hid hu2
   have hsz:=hid (show w1.heap.size≤w2.heap.size from hb2.size)
   unfold decV
   rw[←hdl] at hu3 ⊢
   replace hdl:=hid hdl
   clear CO hb2 hu2
   have hbA:=(Below.refl w2.heap.size w2).alloc (Nat.le_refl _) (.cells #[.int .i64 3,.bool d.neg,.slice da dl dc,.int .i64 d.e,.string ⟨#[]⟩,.slice none 0 0,.slice none 0 0] 28)
   have hnw:=hid (qR w2 (.int .i64 3) (.bool d.neg) (.slice da dl dc) (.int .i64 d.e) (.string ⟨#[]⟩) (.slice none 0 0) (.slice none 0 0) 28)
   have q4:=hid (ae q3.out hbA)
   have b4:=hid (ae b3.out hbA)
   have o4:=hid (aH o3.out hbA)
   have hbA2:=hid hbA
   clear hbA
   go_upto_region 5 with (at_builtin;refine aY rfl _ _ _ rfl W1.heap.size _ i0 z 7 112 Tryz.underlying25 i1.out i4.out i2.out i3.out i5.out (by decide) _ pl _ rfl o4.out (some ⟨w2.heap.size,0,none⟩) 1 1 _ rfl rfl hnw.out yD (by unfold maxLen;omega) (by omega) b4.out.size ?_;intro pv w3 hown3 hg3 hob3)
   have hA1:=hid (show ∀k,OwnB (XL L) lr k→k<W1.heap.size from fun k hk=>by
    have h1:=hbr.out
    have h2:=q1.out.size
    rcases hk with hk | hk
    ·have h3:=hLb.out
     unfold XL at hk
     omega
    ·by_cases h4:wr.heap.size≤k
     ·exact absurd hk (nN hr.out h4)
     ·omega)
   obtain⟨pq,pqc,rfl,rq,hq1,hq2⟩:=iI (A:=OwnB (XL L) lr) (x:=nJ i) hA1.out hEl.out (hss.out.trans (az (fun k hk h=>by
    rcases h with h | h
    ·exact h
    ·have:=(o4.out.lt k h).1;have:=q1.out.size;exact absurd (aA hnx.out) (by omega)) q4.out)) (by
     unfold nJ
     rw[←hd.out]
     exact (yE hdl.out (yF hu3.out (fun k hk=>by
      rcases hk with hk | hk
      ·have:=hA1.out k hk;have:=b2.out.size;omega
      ·exact (o2.out.lt k hk).2)) (yG hu3.out) (by rw[hd.out];exact uJ i (by omega))).sub (az (fun _ _ h=>h) hbA2.out)) hg3 hown3
   rw[hE1.out] at rq
   have q5:=hid (q4.out.grown hg3 (Nat.le_trans q3.out.size hbA2.out.size) (fun k hk=>Nat.le_trans q1.out.size (o4.out.lt k hk).1))
   have b5:=hid (b4.out.grown hg3 b4.out.size (fun k hk=>(o4.out.lt k hk).1))
   clear hnw hown3 hg3 hob3 hu3 hbA2 o2 o3 o4 q2 q3 q4 b2 b3 b4 hdl hsz hd
   obtain⟨pth,hpth⟩:∃p,p=path ++ [nJ i]:=⟨_,rfl⟩
   have hlen:pth.length=pl+1:=by rw[hpth,List.length_append,←hpl.out];rfl
   rw[←hpth] at rq htk
   have l3:=hid (af hl.out q5.out)
   have c3:=bf l3.out
   have hlt3:=hid (aA l3.out)
   have hbA:=(Below.refl w3.heap.size w3).alloc (Nat.le_refl _) (.cells #[.slice pq (pl+1) pqc] 25)
   have q6:=hid (ae q5.out hbA)
   have b6:=hid (ae b5.out hbA)
   have l4:=hid (af hl.out q6.out)
   have hnw:=hid (jQ w3 (.slice pq (pl+1) pqc) 25)
   obtain⟨cells,oc0,hpe0⟩:=hr.out.below q6.out
   have oc:=hid oc0
   have hpe:=hid hpe0
   have hcell:=hid (show PE (hideW (OwnB (XL L) lr) (w3.alloc (.cells #[.slice pq (pl+1) pqc] 25))) (.slice pq (pl+1) pqc) pth from ⟨pq,pqc,by rw[hlen],rq.sub (az (fun _ _ h=>h) hbA),by omega,hq2⟩)
   have hrq:=hid rq
   have hbA2:=hid hbA
   have hcl:=hid (show (ps ++ itemsP F (v.arr.take i) 0 path).length+1+(F x pth).length≤1048576 by
    have h1:=hcnt.out
    have h2:=hle.out
    rw[htk.out] at h2
    simp only[List.length_append,List.length_cons] at h1 h2 ⊢
    omega)
   clear oc0 hpe0 hbA rq
   go_upto_region 6 with (at_builtin;refine aY rfl _ _ _ rfl base _ j0 zz 1 24 Tryz.underlying42 j1.out j4.out j2.out j3.out j5.out (by decide) _ _ _ rfl oc.out (some ⟨w3.heap.size,0,none⟩) 1 1 _ rfl rfl hnw.out iJ (by unfold maxLen;have:=hcl.out;omega) (by have:=hcl.out;omega) (by have:=hbr.out;have:=q6.out.size;omega) ?_;intro lv' w5 hown5 hg5 hob5;obtain⟨va,vn,vc,rfl⟩:=eu hown5;have l5:=(hg5.block L (aA l4.out) (fun e=>fJ hr.out hLb.out e.symm)).trans l4.out;have c5:=bf l5;have f5:=aP l5 0)
   obtain⟨lv',hlv⟩:∃lv',lv'=Value.slice va vn vc:=⟨_,rfl⟩
   rw[←hlv] at hown5 hob5 ⊢
   obtain⟨l6,r6,f6⟩:=qj hLb.out oc.out hpe.out hown5 hg5 hob5 hcell.out l4.out
   obtain⟨w6,hw6⟩:∃w6,w6=w5.setCell ⟨L,0,none⟩ lv':=⟨_,rfl⟩
   rw[←hw6] at l6 r6 f6
   rw[←hw6]
   clear hw6 hown5 hg5 hob5 l5 c5 f5 c3
   have F6:=(FrameP.of_below (X:=XL L) (lv:=lr) q6.out).trans f6
   have G6:=(FrameP.of_below (X:=XL L) (lv:=lr) b6.out).trans f6
   have k6:=hid (F6.blk kr.out (fun h=>hKL.out h) (fJ hr.out hKb.out))
   have ck6:=bf k6.out
   have x6:=hid (G6.blk hnx.out (fun h=>by have h1:=hLb.out;have h2:=hbr.out;unfold XL at h;omega) (nN hr.out (Nat.le_refl _)))
   obtain⟨⟨s0,s1,s2,s3,s4,s5,s6⟩,_⟩:=ag x6.out
   have FF:=hid (hf.out.trans F6)
   have hb6:=hid (show Below w0.heap.size w0 w6 from Below.trans b0r.out (F6.below (B:=w0.heap.size) hr.out (fun k hk=>by have:=hL0.out;unfold XL at hk;omega) (by have:=hL0.out;have:=hLb.out;omega) (by have:=b0r.out.size;omega)))
   have KID:=IHa.out x hmem.out pth (ps ++ itemsP F (v.arr.take i) 0 path ++ [pth]) [.int .i64 kk,.bool kg,.slice ka kl kc,.int .i64 ke,.string ks,.slice kaa kan kac,.slice koa kon koc] pq pqc lv' w6 hlen (fun h=>by rw[h] at hlen;cases hlen) (by have h1:=hcl.out;simp only[List.length_append,List.length_cons,List.length_nil] at h1 ⊢;omega) hb6.out (Nat.le_trans hbr.out F6.bel.size) l6 k6.out r6 (RdV.sub hrk'.out F6.sub) ((hrq.out.sub (az (fun _ _ h=>h) hbA2.out)).sub f6.sub)
   rw[hlen] at KID
   replace KID:=hid KID
   clear hrq hbA2 hcell hpe oc hnw l6 r6 f6 F6 G6 hb6 hlt3
   go_wp2_with fail
   refine KID.out.mono ?_
   rintro en w7 ⟨rfl,lv7,l7,r7,f7⟩
   have R7:=hid (show RowsP (XL L) base lv7 w7 (ps ++ itemsP F (v.arr.take (i+1)) 0 path) by rw[htk.out];simpa[List.append_assoc] using r7)
   have L7:=hid l7
   have F7:=hid (FF.out.trans f7)
   clear l7 r7 f7 FF KID s0 s1 s2 s3 s4 s5 s6 ck6
   go_wp2_with fail
   go_roundw
   case rel=>exact⟨i+1,lv7,by omega,by go_num,L7,R7,F7⟩
   case measure=>simp[intOf];omega
  ·obtain rfl:i=xan:=by omega
   have hlt2:¬ ((i:Nat):Int)<(i:Int):=by omega
   have ha0:=hid (show itemsP F (v.arr.take i) 0 path=itemsP F v.arr 0 path by rw[List.take_of_length_le (by rw[←han'.out];exact Nat.le_refl _)])
   rw[ha0.out] at hr
   have x9:=hid (hf.out.blk hX.out (fun h=>by have h1:=hLb.out;have h2:=hbw.out;unfold XL at h;omega) HO.out)
   obtain⟨⟨p0,p1,p2,p3,p4,p5,p6⟩,_⟩:=ag x9.out
   go_upto_region 9 with fail
   have hr9:=hid hr.out
   have L9:=hid hl.out
   have F9:=hid hf.out
   clear p0 p1 p2 p3 p4 p5 p6 x9 hr hl hf hlt2 hlt hi kr hss b0r hbr ha0
   go_loopw [10,11,39] (fun _ _ v39 wq=>∃(i:Nat) (lr:Value),i≤xon∧v39=.int .i64 i∧Hid (wq.heap[L]? = some (.cells #[lr] 42 (0,0)))∧Hid (RowsP (XL L) base lr wq (ps ++ (itemsP F v.arr 0 path ++ fldsP F (v.obj.take i) path)))∧Hid (FrameP (XL L) lv W lr wq)) (fun _ _ v39 _=>xon-(intOf v39).toNat)
   case atStart=>exact⟨0,lr,Nat.zero_le _,rfl,L9,hid (by simpa[fldsP] using hr9.out),F9⟩
   case round =>
    clear hr9 L9 F9
    obtain⟨i,lr,hi,rfl,hl,hr,hf⟩:=hrel
    have hbr:=hid (show base≤wr.heap.size from Nat.le_trans HW0.out hf.out.bel.size)
    have b0r:=hid (Below.trans Hb0.out (hf.out.below (B:=w0.heap.size) HR.out (fun k hk=>by have:=hL0.out;unfold XL at hk;omega) (by have:=hL0.out;have:=hLb.out;omega) (by have:=Hb0.out.size;omega)))
    have hss:=hid (show SubW (hideW (OwnB (XL L) lv) w) (hideW (OwnB (XL L) lr) wr) from HHS.out.trans hf.out.sub)
    have kr:=hid (hf.out.blk HK.out (fun h=>hKL.out h) (fJ HR.out hKb.out))
    by_cases hlt:i<xon
    ·have hlt2:(i:Int)<(xon:Int):=by omega
     have hi1:i<v.obj.length:=by rw[←hon'.out];exact hlt
     obtain⟨x,hx⟩:∃x,x=v.obj[i]:=⟨_,rfl⟩
     have hmem:=hid (show x ∈ v.obj by rw[hx];exact List.getElem_mem hi1)
     have hxl:=hks.out x hmem.out
     have htk:=hid (show fldsP F (v.obj.take (i+1)) path=fldsP F (v.obj.take i) path ++ (path ++ [textJ2 x.1]) :: F x.2 (path ++ [textJ2 x.1]) by rw[hx];exact pY hi1 path)
     have hle:=hid (show (fldsP F (v.obj.take (i+1)) path).length≤(fldsP F v.obj path).length from jP F v.obj (i+1) path)
     obtain⟨ck,hck,_,hrk⟩:=(rO.out.sub hss.out) i x (by rw[hx];exact List.getElem?_eq_getElem hi1)
     obtain⟨b,off,rfl,hc⟩:=hck.sub (aC _ _)
     obtain⟨kk,kg,ka,kl,kc,ke,ks,kaa,kan,kac,koa,kon,koc,rfl⟩:=RdV.sevenB hrk
     have u0:=hc 0 _ rfl
     have u1:=hc 1 _ rfl
     have u2:=hc 2 _ rfl
     have u3:=hc 3 _ rfl
     have u4:=hc 4 _ rfl
     have u5:=hc 5 _ rfl
     have u6:=hc 6 _ rfl
     have u7:=hc 7 _ rfl
     rw[Nat.add_zero] at u0
     unfold strV at u0
     obtain⟨sb,hsb⟩:∃sb:ByteArray,sb=⟨x.1.toArray⟩:=⟨_,rfl⟩
     rw[←hsb] at u0
     have hbA:=(Below.refl wr.heap.size wr).alloc (Nat.le_refl _) (.cells #[.string sb,.int .i64 kk,.bool kg,.slice ka kl kc,.int .i64 ke,.string ks,.slice kaa kan kac,.slice koa kon koc] 67)
     have hnx:=hid (aj wr (.cells #[.string sb,.int .i64 kk,.bool kg,.slice ka kl kc,.int .i64 ke,.string ks,.slice kaa kan kac,.slice koa kon koc] 67))
     have CC:=hid (fun W' (hb':Below (wr.alloc (.cells #[.string sb,.int .i64 kk,.bool kg,.slice ka kl kc,.int .i64 ke,.string ks,.slice kaa kan kac,.slice koa kon koc] 67)).heap.size (wr.alloc (.cells #[.string sb,.int .i64 kk,.bool kg,.slice ka kl kc,.int .i64 ke,.string ks,.slice kaa kan kac,.slice koa kon koc] 67)) W')=>by
      have:=qi pa pc E W' (fun n e he=>(((hE2.out n e he).sub (hss.out.trans (aC _ _))).sub (SubW.below hbA)).sub (SubW.below hb')) hE0.out (by rw[hEl.out];omega)
      rw[hEl.out] at this
      exact this)
     have hrk':=hid hrk
     have q1:=hid hbA
     replace hsb:=hid hsb
     replace hxl:=hid hxl
     clear hc hck hrk hbA hx hi1
     go_upto_region 11 with fail
     obtain⟨W1,hW1⟩:∃W1,W1=wr.alloc (.cells #[.string sb,.int .i64 kk,.bool kg,.slice ka kl kc,.int .i64 ke,.string ks,.slice kaa kan kac,.slice koa kon koc] 67):=⟨_,rfl⟩
     rw[←hW1] at CC q1 hnx ⊢
     clear hW1 u0 u1 u2 u3 u4 u5 u6 u7
     have hA1:=hid (show ∀k,OwnB (XL L) lr k→k<W1.heap.size from fun k hk=>by
      have h1:=hbr.out
      have h2:=q1.out.size
      rcases hk with hk | hk
      ·have h3:=hLb.out
       unfold XL at hk
       omega
      ·by_cases h4:wr.heap.size≤k
       ·exact absurd hk (nN hr.out h4)
       ·omega)
     go_cut [11] from 40 to 59 (fun v11 w3=>∃pq pqc,v11=.slice pq (pl+1) pqc∧Hid (RdA (hideW (OwnB (XL L) lr) w3) pq (path ++ [textJ2 x.1]))∧Hid (pl+1≤pqc∧pqc≤9223372036854775807)∧Hid (Below wr.heap.size wr w3)∧Hid (Below W1.heap.size W1 w3))
     case first =>
      have g0:=ay hnx.out 0
      have hfin:=hid (show ∀w1 w2 w3 cv pv,Below W1.heap.size W1 w1→w1.ownsRow W1.heap.size 28 7 cv pl (E.flatMap ZE.cs)→Below w1.heap.size w1 w2→w3.ownsRow W1.heap.size 28 7 pv (pl+1) (E.flatMap ZE.cs ++ [.int .i64 4,.bool false,.slice none 0 0,.int .i64 0,.string sb,.slice none 0 0,.slice none 0 0])→w2.grownBy w3 cv.ownBlock→∃pq pqc,pv=.slice pq (pl+1) pqc∧Hid (RdA (hideW (OwnB (XL L) lr) w3) pq (path ++ [textJ2 x.1]))∧Hid (pl+1≤pqc∧pqc≤9223372036854775807)∧Hid (Below wr.heap.size wr w3)∧Hid (Below W1.heap.size W1 w3) from fun w1 w2 w3 cv pv e1 e2 e3 e4 e5=>by
       have q4:=ae (ae q1.out e1) e3
       have b4:=ae e1 e3
       have o4:=aH e2 e3
       obtain⟨pq,pqc,rfl,rq,hq⟩:=iI (A:=OwnB (XL L) lr) (x:=textJ2 x.1) hA1.out hEl.out (hss.out.trans (az (fun k hk h=>by
        rcases h with h | h
        ·exact h
        ·have:=(o4.lt k h).1;have:=q1.out.size;exact absurd (aA hnx.out) (by omega)) q4)) (by
         rw[hsb.out]
         exact yH (by have:=hxl.out;omega)) e5 e4
       rw[hE1.out] at rq
       exact⟨pq,pqc,rfl,rq,hq,q4.grown e5 q4.size (fun k hk=>Nat.le_trans q1.out.size (o4.lt k hk).1),b4.grown e5 b4.size (fun k hk=>(o4.lt k hk).1)⟩)
      go_region_law (first | (go_simp;go_at_call 43;refine (CC.out _ ?_).mono ?_;(first | exact (Below.refl _ _).drew | exact (((Below.refl _ _).alloc (Nat.le_refl _) _).drew));rintro en w1 ⟨cv,rfl,ho1,hb1⟩;obtain⟨ca,cn,cc,rfl⟩:=eu ho1;(first | have hWW:=(show Below W1.heap.size W1 w1 from ae ((Below.refl W1.heap.size W1).drew) hb1) | have hWW:=(show Below W1.heap.size W1 w1 from ae (((Below.refl W1.heap.size W1).alloc (Nat.le_refl _) _).drew) hb1));have ho2:=(show w1.ownsRow W1.heap.size 28 7 (.slice ca cn cc) pl (E.flatMap ZE.cs) from Ad ho1 (by simp));have g1:=(ay (af hnx.out hWW) 0);replace hWW:=hid hWW;replace ho2:=hid ho2) | (refine gy rfl _ _ _ rfl W1.heap.size _ i0 z 7 112 Tryz.underlying25 i1.out i4.out i2.out i3.out i5.out (by decide) _ pl (E.flatMap ZE.cs) rfl (by exact aH ho2.out ((Below.refl _ _).alloc (Nat.le_refl _) _)) ⟨w1.heap.size,0,none⟩ 1 1 _ rfl rfl (by exact qR w1 _ _ _ _ _ _ _ _) jR (by unfold maxLen;omega) (by omega) (by exact (ae hWW.out ((Below.refl _ _).alloc (Nat.le_refl _) _)).size) ?_;intro pv w3 hown3 hg3;have hfn:=hid (hfin.out w1 _ w3 (.slice ca cn cc) pv hWW.out ho2.out ((Below.refl _ _).alloc (Nat.le_refl _) _) hown3 hg3)) | (refine gy rfl _ _ _ rfl W1.heap.size _ i0 z 7 112 Tryz.underlying25 i1.out i4.out i2.out i3.out i5.out (by decide) _ pl (E.flatMap ZE.cs) rfl (by exact ho2.out) ⟨W1.heap.size,0,none⟩ 1 1 _ rfl rfl (by exact wS (w:=W1) (ae ((Below.refl _ _).drew) hb1)) jR (by unfold maxLen;omega) (by omega) (by exact hWW.out.size) ?_;intro pv w3 hown3 hg3;have hfn:=hid (hfin.out w1 _ w3 (.slice ca cn cc) pv hWW.out ho2.out (Below.refl _ _) hown3 hg3)))
      all_goals
       go_wp2_with fail
       go_meet
       case rel=>exact hfn.out
     case rest =>
      obtain⟨pq,pqc,rfl,rq,hq,q5,b5⟩:=hcut
      obtain⟨hq1,hq2⟩:=hq.out
      obtain⟨w3,hw3⟩:∃w3,w3=wc:=⟨_,rfl⟩
      replace rq:=rq.out
      rw[←hw3] at rq q5 b5 ⊢
      clear hw3 wc CC hE0 hA1
      obtain⟨pth,hpth⟩:∃p,p=path ++ [textJ2 x.1]:=⟨_,rfl⟩
      have hlen:pth.length=pl+1:=by rw[hpth,List.length_append,←hpl.out];rfl
      rw[←hpth] at rq htk
      have l3:=hid (af hl.out q5.out)
      have c3:=bf l3.out
      have hlt3:=hid (aA l3.out)
      have hbA:=(Below.refl w3.heap.size w3).alloc (Nat.le_refl _) (.cells #[.slice pq (pl+1) pqc] 25)
      have q6:=hid (ae q5.out hbA)
      have b6:=hid (ae b5.out hbA)
      have l4:=hid (af hl.out q6.out)
      have hnw:=hid (jQ w3 (.slice pq (pl+1) pqc) 25)
      obtain⟨cells,oc0,hpe0⟩:=hr.out.below q6.out
      have oc:=hid oc0
      have hpe:=hid hpe0
      have hcell:=hid (show PE (hideW (OwnB (XL L) lr) (w3.alloc (.cells #[.slice pq (pl+1) pqc] 25))) (.slice pq (pl+1) pqc) pth from ⟨pq,pqc,by rw[hlen],rq.sub (az (fun _ _ h=>h) hbA),by omega,hq2⟩)
      have hrq:=hid rq
      have hbA2:=hid hbA
      have hcl:=hid (show (ps ++ (itemsP F v.arr 0 path ++ fldsP F (v.obj.take i) path)).length+1+(F x.2 pth).length≤1048576 by
       have h1:=hcnt.out
       have h2:=hle.out
       rw[htk.out] at h2
       simp only[List.length_append,List.length_cons] at h1 h2 ⊢
       omega)
      clear oc0 hpe0 hbA rq
      go_upto_region 13 with (at_builtin;refine aY rfl _ _ _ rfl base _ j0 zz 1 24 Tryz.underlying42 j1.out j4.out j2.out j3.out j5.out (by decide) _ _ _ rfl oc.out (some ⟨w3.heap.size,0,none⟩) 1 1 _ rfl rfl hnw.out iJ (by unfold maxLen;have:=hcl.out;omega) (by have:=hcl.out;omega) (by have:=hbr.out;have:=q6.out.size;omega) ?_;intro lv' w5 hown5 hg5 hob5;obtain⟨va,vn,vc,rfl⟩:=eu hown5;have l5:=(hg5.block L (aA l4.out) (fun e=>fJ hr.out hLb.out e.symm)).trans l4.out;have c5:=bf l5;have f5:=aP l5 0)
      obtain⟨lv',hlv⟩:∃lv',lv'=Value.slice va vn vc:=⟨_,rfl⟩
      rw[←hlv] at hown5 hob5 ⊢
      obtain⟨l6,r6,f6⟩:=qj hLb.out oc.out hpe.out hown5 hg5 hob5 hcell.out l4.out
      obtain⟨w6,hw6⟩:∃w6,w6=w5.setCell ⟨L,0,none⟩ lv':=⟨_,rfl⟩
      rw[←hw6] at l6 r6 f6
      rw[←hw6]
      clear hw6 hown5 hg5 hob5 l5 c5 f5 c3
      have F6:=(FrameP.of_below (X:=XL L) (lv:=lr) q6.out).trans f6
      have G6:=(FrameP.of_below (X:=XL L) (lv:=lr) b6.out).trans f6
      have k6:=hid (F6.blk kr.out (fun h=>hKL.out h) (fJ hr.out hKb.out))
      have ck6:=bf k6.out
      have x6:=hid (G6.blk hnx.out (fun h=>by have h1:=hLb.out;have h2:=hbr.out;unfold XL at h;omega) (nN hr.out (Nat.le_refl _)))
      have s1:=ay x6.out 1
      have s2:=ay x6.out 2
      have s3:=ay x6.out 3
      have s4:=ay x6.out 4
      have s5:=ay x6.out 5
      have s6:=ay x6.out 6
      have s7:=ay x6.out 7
      have FF:=hid (hf.out.trans F6)
      have hb6:=hid (show Below w0.heap.size w0 w6 from Below.trans b0r.out (F6.below (B:=w0.heap.size) hr.out (fun k hk=>by have:=hL0.out;unfold XL at hk;omega) (by have:=hL0.out;have:=hLb.out;omega) (by have:=b0r.out.size;omega)))
      have KID:=IHo.out x hmem.out pth (ps ++ (itemsP F v.arr 0 path ++ fldsP F (v.obj.take i) path) ++ [pth]) [.int .i64 kk,.bool kg,.slice ka kl kc,.int .i64 ke,.string ks,.slice kaa kan kac,.slice koa kon koc] pq pqc lv' w6 hlen (fun h=>by rw[h] at hlen;cases hlen) (by have h1:=hcl.out;simp only[List.length_append,List.length_cons,List.length_nil] at h1 ⊢;omega) hb6.out (Nat.le_trans hbr.out F6.bel.size) l6 k6.out r6 (RdV.sub hrk'.out F6.sub) ((hrq.out.sub (az (fun _ _ h=>h) hbA2.out)).sub f6.sub)
      rw[hlen] at KID
      replace KID:=hid KID
      clear hrq hbA2 hcell hpe oc hnw l6 r6 f6 F6 G6 hb6 hlt3
      go_wp2_with fail
      refine KID.out.mono ?_
      rintro en w7 ⟨rfl,lv7,l7,r7,f7⟩
      have R7:=hid (show RowsP (XL L) base lv7 w7 (ps ++ (itemsP F v.arr 0 path ++ fldsP F (v.obj.take (i+1)) path)) by rw[htk.out];simpa[List.append_assoc] using r7)
      have L7:=hid l7
      have F7:=hid (FF.out.trans f7)
      clear l7 r7 f7 FF KID s1 s2 s3 s4 s5 s6 s7 ck6
      go_wp2_with fail
      go_roundw
      case rel=>exact⟨i+1,lv7,by omega,by go_num,L7,R7,F7⟩
      case measure=>simp[intOf];omega
    ·obtain rfl:i=xon:=by omega
     have hlt2:¬ ((i:Nat):Int)<(i:Int):=by omega
     have ha0:=(show fldsP F (v.obj.take i) path=fldsP F v.obj path by rw[List.take_of_length_le (by rw[←hon'.out];exact Nat.le_refl _)])
     have hq:=hid (hput.out wr lr hl.out (by rw[←ha0];exact hr.out) hf.out)
     clear ha0
     go_wp2_with fail
     refine bodyPost_ret (v:=.tuple #[]) (by simp[results,Tryz.results42,go_sem]) rfl ?_
     exact hq.out
end Go.Proofs.YtcgbmmalfbpjaaaGreatDoor
