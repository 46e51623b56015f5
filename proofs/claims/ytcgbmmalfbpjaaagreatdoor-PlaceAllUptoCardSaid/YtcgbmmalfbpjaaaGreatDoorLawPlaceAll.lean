/-  -/
import Derived.Test.YtcgbmmalfbpjaaaGreatDoorPathM
import Derived.Test.YtcgbmmalfbpjaaaGreatDoorSizeV
import Derived.Test.YtcgbmmalfbpjaaaGreatDoorAllP
import Derived.Test.YtcgbmmalfbpjaaaGreatDoorPg
import Derived.Test.YtcgbmmalfbpjaaaGreatDoorPd
import Derived.Test.YtcgbmmalfbpjaaaGreatDoorPc
set_option maxRecDepth 100000
set_option maxHeartbeats 16000000
namespace Go.Proofs.YtcgbmmalfbpjaaaGreatDoor
open Go.RowKit
theorem FX:∀(f:Nat) (v:JV) (p q:List JV),q ∈ pathsJ f v p→q.length≤p.length+f
 | 0,_,_,_,h=>by cases h
 | f+1,v,p,q,h=>by
  rw[pathsJ] at h
  have key:∀(s x:JV),q ∈ (p ++ [s]) :: pathsJ f x (p ++ [s])→q.length≤p.length+(f+1):=fun s x h=>by
   rcases List.mem_cons.1 h with rfl | h
   ·simp
   ·have:=FX f x _ q h
    rw[List.length_append,List.length_singleton] at this
    omega
  rcases List.mem_append.1 h with h | h
  ·obtain⟨i,hi,h⟩:=FW h
   exact key _ _ h
  ·obtain⟨x,hx,h⟩:=FZ h
   exact key _ _ h
theorem Gu {w:World}{a:Option Addr}{q:List JV}(h:RdA w a q):RdA w a q.dropLast:=fun i x hx=>h i x (by
 rw[List.getElem?_dropLast] at hx
 split at hx
 ·exact hx
 ·cases hx)
theorem GH {a b:List JV}(h:arrJ a=arrJ b):a=b:=congrArg JV.arr h
theorem Gv {A:Nat→Prop}{W W5:World}{v:Value}{t:JV}(h:Boxed A W W5 v t):Hid (Below W.heap.size W W5):=by
 obtain⟨N,fk,fg,fa,fl,fc,fe,fs,faa,fan,fac,foa,fon,foc,_,_,_,hb,_⟩:=h
 exact hb
def FoundP (ps:List (List JV)) (q:List JV) (k:Nat) (b:Bool):Prop:=b=true ↔ (q=[]∨∃j,j<k∧ps[j]? = some q)
theorem FoundP.next {ps:List (List JV)}{q p:List JV}{k:Nat}(h:FoundP ps q k false)(hp:ps[k]? = some p):FoundP ps q (k+1) (eqB (arrJ p) (arrJ q)):=by
 have hn:¬ (q=[]∨∃j,j<k∧ps[j]? = some q):=fun e=>by have:=h.2 e;cases this
 unfold FoundP
 rw[yZ]
 constructor
 ·intro e
  obtain rfl:=GH e
  exact Or.inr ⟨k,Nat.lt_succ_self k,hp⟩
 ·rintro (e | ⟨j,hj,hq⟩)
  ·exact absurd (Or.inl e) hn
  ·by_cases hjk:j=k
   ·subst hjk
    rw[hp] at hq
    rw[Option.some.inj hq]
   ·exact absurd (Or.inr ⟨j,by omega,hq⟩) hn
theorem FoundP.keep {ps:List (List JV)}{q:List JV}{k:Nat}(h:FoundP ps q k true):FoundP ps q (k+1) true :=
 ⟨fun _=>(h.1 rfl).imp id fun ⟨j,hj,hq⟩=>⟨j,by omega,hq⟩,fun _=>rfl⟩
theorem Gw (xk:Int)(xg:Bool)(xa:Option Addr)(xl xc:Nat)(xe:Int)(xs:ByteArray)(xaa:Option Addr)(xan xac:Nat)(xoa:Option Addr)(xon xoc:Nat)(v:JV)(m:Bool)(ps:List (List JV))(n:Nat)(w:World)(hn:n=ps.length)(hnB:n≤1048576)(hpre:Pre [] ps)(rv:RdV w [.int .i64 xk,.bool xg,.slice xa xl xc,.int .i64 xe,.string xs,.slice xaa xan xac,.slice xoa xon xoc] v)
  (hS:∀W,Below w.heap.size w W→Calls Tryz.prog 10 #[] W fun e w'=>e=.returned (.bool true)∧Below W.heap.size W w')
  (hP:∀W,Below w.heap.size w W→Calls Tryz.prog 21 #[.agg #[.int .i64 xk,.bool xg,.slice xa xl xc,.int .i64 xe,.string xs,.slice xaa xan xac,.slice xoa xon xoc]] W (OutPaths W m ps))
  (hM:∀W,Below w.heap.size w W→Calls Tryz.prog 20 #[.agg #[.int .i64 xk,.bool xg,.slice xa xl xc,.int .i64 xe,.string xs,.slice xaa xan xac,.slice xoa xon xoc]] W fun e w'=>e=.returned (.bool m)∧Below W.heap.size W w')
  (hZ:∀W,Below w.heap.size w W→Calls Tryz.prog 23 #[.agg #[.int .i64 xk,.bool xg,.slice xa xl xc,.int .i64 xe,.string xs,.slice xaa xan xac,.slice xoa xon xoc]] W fun e w'=>e=.returned (.int .i64 ((n+1:Nat):Int))∧Below W.heap.size W w')
  (hG:m=true→∀(A:Nat→Prop) (q:List JV) (pa:Option Addr) (pc:Nat) W,q ∈ ps→In A W→Below w.heap.size w W→RdX A W [.int .i64 xk,.bool xg,.slice xa xl xc,.int .i64 xe,.string xs,.slice xaa xan xac,.slice xoa xon xoc] v→RdA W pa q→Calls Tryz.prog 14 #[.agg #[.int .i64 xk,.bool xg,.slice xa xl xc,.int .i64 xe,.string xs,.slice xaa xan xac,.slice xoa xon xoc],.slice pa q.length pc] W (OutX A W (getPJ v q).1 0)) :
  Calls Tryz.prog 9 #[.agg #[.int .i64 xk,.bool xg,.slice xa xl xc,.int .i64 xe,.string xs,.slice xaa xan xac,.slice xoa xon xoc]] w fun en w'=>en=.returned (.bool true)∧Below w.heap.size w w':=by
 have hB0:=(Below.refl w.heap.size w).alloc (Nat.le_refl _) (.cells #[.int .i64 xk,.bool xg,.slice xa xl xc,.int .i64 xe,.string xs,.slice xaa xan xac,.slice xoa xon xoc] 28)
 have hX:=hid (aj w (.cells #[.int .i64 xk,.bool xg,.slice xa xl xc,.int .i64 xe,.string xs,.slice xaa xan xac,.slice xoa xon xoc] 28))
 obtain⟨W,hW⟩:∃W,W=w.alloc (.cells #[.int .i64 xk,.bool xg,.slice xa xl xc,.int .i64 xe,.string xs,.slice xaa xan xac,.slice xoa xon xoc] 28):=⟨_,rfl⟩
 rw[←hW] at hB0 hX
 have b0:=hid hB0
 have CS:=hid (hS W hB0)
 replace hW:=hid hW.symm
 replace hP:=hid hP
 replace hM:=hid hM
 replace hZ:=hid hZ
 replace hG:=hid hG
 replace rv:=hid rv
 replace hpre:=hid hpre
 have hn':=hid hn
 clear hB0 hS hn
 go_enter Tryz.func9,Tryz.ntmps9
 go_upto_region 1 with fail
 rw[hW.out]
 go_wp2_with fail
 refine CS.out.mono ?_
 rintro en w1 ⟨rfl,hb⟩
 have b1:=hid (ae b0.out hb)
 have x1:=hid (af hX.out hb)
 clear hb CS hX hW b0
 obtain⟨⟨p0,p1,p2,p3,p4,p5,p6⟩,_⟩:=ag x1.out
 have CP:=hid (hP.out w1 b1.out)
 clear hP
 go_wp2_with fail
 refine CP.out.mono ?_
 rintro en w2 ⟨hb,hcase⟩
 have b2:=hid (ae b1.out hb)
 have x2:=hid (af x1.out hb)
 clear hb CP b1 x1 p0 p1 p2 p3 p4 p5 p6
 rcases hcase with ⟨rfl,rfl⟩ | ⟨rfl,a,c,rfl,hq,hc⟩
 ·clear hZ hG
  obtain⟨⟨p0,p1,p2,p3,p4,p5,p6⟩,_⟩:=ag x2.out
  have CM:=hid (hM.out w2 b2.out)
  clear hM
  go_wp2_with fail
  refine CM.out.mono ?_
  rintro en w3 ⟨rfl,hb⟩
  have b3:=hid (ae b2.out hb)
  clear hb CM p0 p1 p2 p3 p4 p5 p6
  go_wp2_with fail
  go_ret
  exact⟨rfl,b3.out⟩
 ·have q4:=hid (show ∀(i:Nat) (p:List JV),ps[i]? = some p→∃(pb po:Nat) (q:Option Addr) (c:Nat),a=some ⟨pb,po,none⟩∧w2.cell? ⟨pb,po+i,none⟩=some (.slice q p.length c)∧RdA w2 q p∧p.length≤c∧c≤9223372036854775807 from hq)
  have hG2:=hid (hG.out (by simp))
  rw[←hn'.out]
  clear hq hc hM hG
  go_upto_region 6 with fail
  go_loopw [6,7,8,9,10,11] (fun v6 _ _ _ _ _ wr=>∃i:Nat,i≤n∧v6=.int .i64 i∧Hid (Below w2.heap.size w2 wr)) (fun v6 _ _ _ _ _ _=>n-(intOf v6).toNat)
  case atStart=>exact⟨0,Nat.zero_le _,rfl,hid (Below.refl _ _)⟩
  case round =>
   obtain⟨i,hi,rfl,hb⟩:=hrel
   have x3:=hid (af x2.out hb.out)
   obtain⟨⟨p0,p1,p2,p3,p4,p5,p6⟩,_⟩:=ag x3.out
   by_cases hlt:i<n
   ·have hlt2:(i:Int)<(n:Int):=by omega
    have hi1:i<ps.length:=by rw[←hn'.out];exact hlt
    obtain⟨q,hq⟩:∃q,q=ps[i]:=⟨_,rfl⟩
    have hqi:=hid (show ps[i]? = some q by rw[hq];exact List.getElem?_eq_getElem hi1)
    have hqm:=hid (show q ∈ ps by rw[hq];exact List.getElem_mem hi1)
    obtain⟨hq1,hq2⟩:=hpre.out i q hqi.out
    obtain⟨pb,po,qa,qc,rfl,u0',ra,hc1,hc2⟩:=q4.out i q hqi.out
    have u0:=SubW.below hb.out _ _ u0'
    have ra2:=ra.below hb.out
    obtain⟨ql,hql⟩:∃ql,ql=q.length:=⟨_,rfl⟩
    have hqz:0<ql:=by rw[hql];exact List.length_pos_iff.2 hq1
    have hdl:q.dropLast.length=ql-1:=by rw[List.length_dropLast,hql]
    have CG:=hid fun W' (hb':Below wr.heap.size wr W')=>by
     have h:=hG2.out (AndBox NoA wr W') q qa qc W' hqm.out (iE BX hb') (ae (ae b2.out hb.out) hb') (mO (qZ (rv.out.stay (ae b2.out hb.out))) hb') (ra2.below hb')
     rw[←hql] at h
     exact h
    rw[←hql] at u0 hc1
    have hfr:=hid (Gu ra2)
    have hfd:=hid (show q.dropLast=[]∨∃j,j<i∧ps[j]? = some q.dropLast from hq2)
    obtain⟨fr,hfr0⟩:∃fr,fr=q.dropLast:=⟨_,rfl⟩
    rw[←hfr0] at hfr hfd hdl
    have hdl':=hid hdl
    have hcc:=hid (And.intro hc1 hc2)
    have hqz':=hid hqz
    have hl1z:((ql:Int) == 0)=false:=by rw[beq_eq_false_iff_ne];omega
    clear hq hi1 hq1 hq2 ra ra2 hdl hfr0 u0' hc1 hc2 hqm hql hqz
    go_upto_region 10 with fail
    have hlx:=ax p0
    have hlu:=ax u0
    obtain⟨gv,hgv⟩:∃gv,gv=(getPJ v q).1:=⟨_,rfl⟩
    rw[←hgv] at CG
    clear hgv
    go_cut [7,8] from 38 to 46 (fun v7 v8 w5=>Boxed NoA wr w5 v7 gv∧v8=.int .i64 0)
    case first =>
     have hN:=hid (fun w3 (hb:Below (wr.alloc (.cells #[.int .i64 0,.bool false,.slice none 0 0,.int .i64 0,.string ⟨#[]⟩,.slice none 0 0,.slice none 0 0] 28)).drew.heap.size (wr.alloc (.cells #[.int .i64 0,.bool false,.slice none 0 0,.int .i64 0,.string ⟨#[]⟩,.slice none 0 0,.slice none 0 0] 28)).drew w3)=>ag (af (aX wr (.cells #[.int .i64 0,.bool false,.slice none 0 0,.int .i64 0,.string ⟨#[]⟩,.slice none 0 0,.slice none 0 0] 28)) hb))
     go_region_held3 (fun W'=>(∀b o,b<wr.heap.size→W'.cell? ⟨b,o,none⟩=wr.cell? ⟨b,o,none⟩)∧(∀b o,b<wr.heap.size→W'.frozen? ⟨b,o,none⟩=wr.frozen? ⟨b,o,none⟩)∧Below wr.heap.size wr W') (with_reducible first | exact bH _ | exact bI (by assumption) (by assumption) | exact bg (by assumption) _ | exact bJ (by assumption) _ | exact bn _ | exact bu (by assumption) _ | exact au (by assumption) (Nat.le_refl _) | exact au (by assumption) (dC (by assumption)) | exact au (by assumption) (by assumption) | exact au (by assumption) (Nat.le_succ_of_le (by assumption)) | exact au (by assumption) (Nat.le_succ_of_le (Nat.le_succ_of_le (by assumption))) | assumption) ((go_at_call 14;(with_reducible refine (CG.out _ ?_).mono ?_);(simp only[*]);rintro e3 w3 ⟨cs3,rfl,hr3,hb3⟩;obtain⟨fk,fg,fa,fl,fc,fe,fs,faa,fan,fac,foa,fon,foc,rfl⟩:=RdV.sevenB hr3;(first | (with_reducible have mm:=hN.out _ hb3;obtain⟨⟨m0,m1,m2,m3,m4,m5,m6⟩,g0,g1,g2,g3,g4,g5,g6⟩:=mm) | skip)))
     all_goals
      go_wp2_with fail
      go_meet
      case rel=>first | with_reducible exact⟨dB hr3 hb3,rfl⟩ | exact⟨cu hr3 rfl hb3,rfl⟩
    case rest =>
     obtain⟨g00,rfl⟩:=hcut
     have g0:=Gv g00
     clear g00
     have q5:=hid (hb.out.trans (g0.out.mono hb.out.size))
     replace u0:=SubW.below g0.out _ _ u0
     have fr5:=hid (hfr.out.below g0.out)
     clear g0 hb CG hfr x3 p0 p1 p2 p3 p4 p5 p6 hlx hlu
     obtain⟨l1,hl1⟩:∃l1,ql=l1+1:=⟨ql-1,by have:=hqz'.out;omega⟩
     have hc1:=hcc.out.1
     have hc2:=hcc.out.2
     have hl0:0<(ql:Int):=by omega
     have hqm1:(ql:Int)≤9223372036854775807:=by omega
     have hqc:(ql:Int)-1≤(qc:Int):=by omega
     have hsub:IntKind.i64.wrap ((ql:Int)-1)=((l1:Nat):Int):=by rw[IntWalk.i64_in _ (by omega)];omega
     have hl1c:(l1:Int)≤(qc:Int):=by omega
     have hl1c2:l1≤qc:=by omega
     have hl1':=hid hl1
     have hfl:=hid (show fr.length=l1 by have:=hdl'.out;omega)
     clear hl1 hdl' hqz'
     go_upto_region 11 with fail
     go_cut [9] from 47 to 57 (fun v9 w6=>v9=.slice qa l1 qc∧Hid (Below wc.heap.size wc w6))
     case first =>
      go_quiet (fail)
      go_wp2_with fail
      go_meet
      case rel=>exact⟨rfl,hid (by first | exact below_drewN (Below.refl _ _) _ | exact Below.refl _ _)⟩
     case rest =>
      obtain⟨rfl,g0⟩:=hcut
      have q6:=hid (q5.out.trans (g0.out.mono q5.out.size))
      have fr6:=hid (fr5.out.below g0.out)
      clear g0 q5 fr5 u0 hsub hl0 hqm1 hqc
      have b6:=hid (show Below w2.heap.size w2 wc from q6.out)
      obtain⟨fd,hfd0⟩:∃fd:Bool,FoundP ps fr 0 fd∧fd=((l1:Int) == 0):=⟨((l1:Int) == 0),by
       unfold FoundP
       rw[beq_iff_eq]
       constructor
       ·intro h
        exact Or.inl (List.length_eq_zero_iff.1 (by have:=hfl.out;omega))
       ·rintro (h | ⟨j,hj,_⟩)
        ·have:=hfl.out
         rw[h] at this
         simp at this
         omega
        ·omega,rfl⟩
      have hF0:=hid hfd0.1
      have hfe:=hfd0.2.symm
      clear hfd0
      go_upto_region 14 with fail
      clear hfe
      go_loopw [10,11] (fun v10 v11 wq=>∃(k:Nat) (fd:Bool),k≤i∧v11=.int .i64 k∧v10=.bool fd∧Hid (FoundP ps fr k fd)∧Hid (Below wc.heap.size wc wq)) (fun _ v11 _=>i-(intOf v11).toNat)
      case atStart=>exact⟨0,fd,Nat.zero_le _,rfl,rfl,hF0,hid (Below.refl _ _)⟩
      case round =>
       clear hF0
       obtain⟨k,fd,hk,rfl,rfl,hF,hbq⟩:=hrel
       by_cases hlk:k<i
       ·have hlk2:(k:Int)<(i:Int):=by omega
        have hki:(k:Int)<(n:Int):=by omega
        cases fd with
        | true =>
         have hF':=hid hF.out.keep
         go_wp2_with fail
         go_roundw
         case rel=>exact⟨k+1,true,by omega,by go_num,rfl,hF',hbq⟩
         case measure=>simp[intOf];omega
        | false =>
         have hk1:k<ps.length:=by rw[←hn'.out];omega
         obtain⟨p,hp⟩:∃p,p=ps[k]:=⟨_,rfl⟩
         have hpk:ps[k]? = some p:=by rw[hp];exact List.getElem?_eq_getElem hk1
         obtain⟨pb',po',pa,pac,e1,v0,rp,rc1,rc2⟩:=q4.out k p hpk
         obtain⟨rfl,rfl⟩:pb=pb'∧po=po':=by
          simp only[Option.some.injEq,Addr.mk.injEq] at e1
          exact⟨e1.1,e1.2.1⟩
         have bq:=ae b6.out hbq.out
         replace v0:=SubW.below bq _ _ v0
         have CC:=wB (arrJ p) (arrJ fr) _ _ wr (vV rfl (rp.below bq) ⟨rc1,rc2⟩) (vV rfl (fr6.out.below hbq.out) (by rw[hfl.out];exact⟨hl1c2,hc2⟩))
         rw[hfl.out] at CC
         have hF':=hid (hF.out.next hpk)
         obtain⟨pl,hpl⟩:∃pl,pl=p.length:=⟨_,rfl⟩
         rw[←hpl] at CC v0
         generalize eqB (arrJ p) (arrJ fr)=fd' at CC hF'
         replace CC:=hid CC
         clear hp hk1 hpk e1 rp rc1 rc2 bq hpl hF
         go_wp2_with fail
         refine CC.out.mono ?_
         rintro en w7 ⟨rfl,hb7⟩
         have q7:=hid (ae hbq.out hb7)
         clear CC hb7 v0
         go_wp2_with fail
         go_roundw
         case rel=>exact⟨k+1,fd',by omega,by go_num,rfl,hF',q7⟩
         case measure=>simp[intOf];omega
       ·obtain rfl:k=i:=by omega
        have hlk2:¬ ((k:Nat):Int)<(k:Int):=by omega
        obtain rfl:fd=true:=hF.out.2 hfd.out
        have q8:=hid (ae b6.out hbq.out)
        clear hF hbq
        go_wp2_with fail
        go_roundw
        case rel=>exact⟨k+1,by omega,by go_num,q8⟩
        case measure=>simp[intOf];omega
   ·obtain rfl:i=n:=by omega
    have hlt2:¬ ((i:Nat):Int)<(i:Int):=by omega
    have CZ:=hid (hZ.out wr (ae b2.out hb.out))
    have hF:=hid (ae b2.out hb.out)
    have hws:IntKind.i64.wrap (((i+1:Nat):Int)-1)=(i:Int):=by rw[IntWalk.i64_in _ (by omega)];omega
    clear hb hZ
    go_wp2_with fail
    refine CZ.out.mono ?_
    rintro en w7 ⟨rfl,hb7⟩
    have q7:=hid (ae hF.out hb7)
    clear CZ hb7
    go_wp2_with fail
    go_ret
    exact⟨by simp,q7.out⟩
theorem Gj (v:JV)(cv:List Value)(w:World)(sv:SmallV v)(hc:cntJ 200 v≤1048576)(rv:RdV w cv v)(hT:Tabs w) :
  Calls Tryz.prog 9 #[.agg cv.toArray] w fun en w'=>en=.returned (.bool true)∧Below w.heap.size w w':=by
 have rv':=rv
 obtain⟨xk,xg,xa,xl,xc,xe,xs,xaa,xan,xac,xoa,xon,xoc,rfl⟩:=rv.sevenB
 refine Gw xk xg xa xl xc xe xs xaa xan xac xoa xon xoc v (mayJ 200 v) (pathsJ 200 v []) (cntJ 200 v) w (by rw[fD]) hc (FV 200 v []) rv (fun W hb=>tu W (hT.below hb)) (fun W hb=>tC v _ W sv hc (rv'.stay hb) (hT.below hb)) (fun W hb=>bQ v _ W (rv'.stay hb) (hT.below hb)) (fun W hb=>Gm v _ W (rv'.stay hb) hc) ?_
 intro h A q pa pc W hq hi hb rx ra
 have:=zX A v q _ pa pc W hi sv (by have:=FX 200 v [] q hq;simp at this;omega) rx ra (hT.below hb)
 rw[GR h sv hq] at this
 exact this
end Go.Proofs.YtcgbmmalfbpjaaaGreatDoor
