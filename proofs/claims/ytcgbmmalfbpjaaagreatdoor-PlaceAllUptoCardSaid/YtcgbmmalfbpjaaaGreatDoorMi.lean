/-  -/
import Derived.Test.YtcgbmmalfbpjaaaGreatDoorMh
import Derived.Test.YtcgbmmalfbpjaaaGreatDoorMe
import Derived.Test.YtcgbmmalfbpjaaaGreatDoorMg
import Derived.BigQuiet
set_option maxRecDepth 100000
set_option maxHeartbeats 16000000
namespace Go.Proofs.YtcgbmmalfbpjaaaGreatDoor
open Go.RowKit
def upB (d:D) (way:Nat):Bool:=if way=1 then restB d && d.neg else if way=2 then restB d && !d.neg else if way=3 then halfB d else false
def roundR (er:Nat) (d:D) (way:Nat):D × Nat:=if er≠0∨0≤d.e then (d,er) else tellR (plainD d.neg (wholeN d+(if upB d way=true then 1 else 0)) 0)
theorem uS {g:Bool}{n Q:Nat}{E:Int}(h:nearB n E=true):takenD g n Q E=(tellR (plainD g Q E)).1∧takenE g n Q E=(tellR (plainD g Q E)).2:=by
 unfold takenD takenE tellR
 rw[if_pos h,if_pos h]
 by_cases hf:fitsB (plainD g Q E)=true
 ·simp[hf]
 ·simp[hf]
structure OneD (w w':World) (d:D) (N:Nat) (b:Option Addr) (c:Nat):Prop where
 h1:w'.heap[N]? = some (.cells #[.bool d.neg,.slice b (Num.limbs d.m).length c,.int .i64 d.e] 24)
 l1:w.heap.size+1+1≤N
 o1:w'.ownsRow (w.heap.size+1+1) 166 1 (.slice b (Num.limbs d.m).length c) (Num.limbs d.m).length (u32s (Num.limbs d.m))
 res:Cells3 w' (w.heap.size+1)
 bel:Below w.heap.size w w'
theorem OneD.next {w w' w'':World}{d:D}{N c:Nat}{b:Option Addr}(h:OneD w w' d N b c)(hb:Below w'.heap.size w' w''):OneD w w'' d N b c :=
 ⟨af h.h1 hb,h.l1,aH h.o1 hb,h.res.below hb,ae h.bel hb⟩
theorem OneD.inD {w w':World}{d:D}{N c:Nat}{b:Option Addr}(h:OneD w w' d N b c):InD w' d b c:=⟨aS h.o1⟩
theorem OneD.new {w w1:World}{o:Obj}{d:D}{b:Option Addr}{c:Nat}{x y z:Value}{T:TypeId}(ho:OwnD ((w.alloc o).alloc (.cells #[x,y,z] T)) w1 d b c) :
  OneD w (w1.alloc (.cells #[.bool d.neg,.slice b (Num.limbs d.m).length c,.int .i64 d.e] 24)) d w1.heap.size b c:=by
 have k:=(Below.refl w1.heap.size w1).alloc (Nat.le_refl _) (.cells #[.bool d.neg,.slice b (Num.limbs d.m).length c,.int .i64 d.e] 24)
 refine⟨aj w1 _,by simpa using ho.1.size,aG (aH ho.2 k) (by simp),Cells3.below (Cells3.below ⟨x,y,z,T,by simpa using aB w _ _⟩ ho.1) k,ae (ak (ak ho.1)) k⟩
theorem nV (way:Nat)(hway:way≤3)(g:Bool)(a:Option Addr)(cap:Nat)(e:Int)(xs:List Nat)(w:World)(h:U32 w a xs)(htab:Pow w) :
  Calls Tryz.prog 159 #[.agg #[.bool g,.slice a xs.length cap,.int .i64 e],.int .i64 way] w
   (OutDE w (roundR (takenE g xs.length (Num.worth xs) e) (takenD g xs.length (Num.worth xs) e) way).1 (roundR (takenE g xs.length (Num.worth xs) e) (takenD g xs.length (Num.worth xs) e) way).2):=by
 have CN:=fun W (hb:Below w.heap.size w W)=>mD g a cap e xs W (h.below hb) (htab.next hb)
 have hp:takenE g xs.length (Num.worth xs) e=0→IsPlain (takenD g xs.length (Num.worth xs) e)∧fitsB (takenD g xs.length (Num.worth xs) e)=true:=fun h=>kS h
 obtain⟨d,hd⟩:∃x,x=takenD g xs.length (Num.worth xs) e:=⟨_,rfl⟩
 obtain⟨er,her⟩:∃x,x=takenE g xs.length (Num.worth xs) e:=⟨_,rfl⟩
 obtain⟨n,hn⟩:∃n,n=xs.length:=⟨_,rfl⟩
 rw[←hd,←her] at CN hp
 rw[←hd,←her]
 rw[←hn] at CN ⊢
 obtain⟨r,hr⟩:∃r,r=roundR er d way:=⟨_,rfl⟩
 rw[←hr]
 unfold OutDE at CN
 replace CN:=hid CN
 replace hp:=hid hp
 replace hr:=hid hr
 have HTAB:=hid htab
 clear h htab hd her hn
 go_enter Tryz.func159,Tryz.ntmps159
 go_upto_region 1 with fail
 go_cut [6,7] from 12 (fun v6 v7 w'=>∃N b c,v6=.pointer (some ⟨N,0,none⟩)∧v7=.int .i64 er∧OneD w w' d N b c)
 case first =>
  as_aux_lemma =>
   go_wp2_with fail
   refine (CN.out _ (((Below.refl _ _).alloc (Nat.le_refl _) _).alloc (by simp) _)).mono ?_
   rintro e1 w1 ⟨b,c,rfl,ho1⟩
   have HO:=hid ho1
   clear ho1 CN
   unfold decV
   go_wp2_with fail
   go_meet
   case rel=>exact⟨w1.heap.size,b,c,rfl,rfl,OneD.new HO.out⟩
 case rest =>
  obtain⟨N,b,c,rfl,rfl,hO⟩:=hcut
  have l1:=hO.l1
  obtain⟨⟨k0,k1,k2⟩,_⟩:=aN hO.h1
  obtain⟨r0,r1,r2,p0,p1,p2⟩:=hO.res.get
  have f0:=hO.res.frozen 0
  have f1:=hO.res.frozen 1
  have f2:=hO.res.frozen 2
  have HO:=hid hO
  clear hO CN
  by_cases h0:er≠0∨0≤d.e
  ·have HR:=hid (show r=(d,er) by rw[hr.out];unfold roundR;rw[if_pos h0])
   clear hr hp
   have hfin:OutDE w d er (.returned (.tuple #[decV d b c,.int .i64 er])) (put3 wc (w.heap.size+1) d.neg b (Num.limbs d.m).length c d.e) :=
    ⟨b,c,rfl,fK HO.out.bel (by omega) _ _ _ _ _,aG (uT HO.out.o1 (by omega) _ _ _ _ _) (by omega)⟩
   replace hfin:=hid hfin
   by_cases h1:er=0
   ·have hne:((er:Int) != 0)=false:=by rw[bne_eq_false_iff_eq];omega
    have h2:0≤d.e:=by omega
    clear h0
    go_wp2
    refine bodyPost_ret (v:=.tuple #[decV d b c,.int .i64 er]) (by simp[results,Tryz.results159,go_sem,p0,p1,p2,decV]) rfl ?_
    rw[HR.out]
    exact hfin.out
   ·have hne:((er:Int) != 0)=true:=by rw[bne_iff_ne];omega
    clear h0
    go_wp2
    refine bodyPost_ret (v:=.tuple #[decV d b c,.int .i64 er]) (by simp[results,Tryz.results159,go_sem,p0,p1,p2,decV]) rfl ?_
    rw[HR.out]
    exact hfin.out
  ·have HR:=hid (show r=tellR (plainD d.neg (wholeN d+(if upB d way=true then 1 else 0)) 0) by rw[hr.out];unfold roundR;rw[if_neg h0])
   have hne:((er:Int) != 0)=false:=by rw[bne_eq_false_iff_eq];omega
   have h2:¬ 0≤d.e:=by omega
   obtain⟨pd,fd⟩:=hp.out (by omega)
   have bd:=dN pd fd
   have CS:=fun W (hb:Below wc.heap.size wc W)=>xq d b c W (HO.out.inD.below hb) pd fd
   have hW:wholeN d≤d.m:=by unfold wholeN;rw[if_neg h2];exact Nat.div_le_self _ _
   have hv:(Num.limbs (wholeN d+(if upB d way=true then 1 else 0))).length≤60:=Dt (Nat.le_trans (Num.digs_length_mono (by decide) hW) (by omega)) (by split<;>omega)
   obtain⟨up,hup⟩:∃b,b=upB d way:=⟨_,rfl⟩
   obtain⟨rs,hrs⟩:∃b,b=restB d:=⟨_,rfl⟩
   obtain⟨hf,hhf⟩:∃b,b=halfB d:=⟨_,rfl⟩
   obtain⟨V,hV⟩:∃b,b=wholeN d:=⟨_,rfl⟩
   rw[←hrs,←hhf,←hV] at CS
   have hup2:up=(if way=1 then rs && d.neg else if way=2 then rs && !d.neg else if way=3 then hf else false):=by rw[hup,hrs,hhf];rfl
   rw[←hup,←hV] at HR hv
   unfold decV at CS
   replace CS:=hid CS
   replace hup2:=hid hup2
   clear h0 hr hp pd fd bd hup hrs hhf hV hW
   go_upto_region 4 with fail
   go_cut [8,9,10] from 12 (fun v8 v9 v10 w'=>∃a8 c8,v8=.slice a8 (Num.limbs V).length c8∧v9=.bool rs∧v10=.bool hf∧Below wc.heap.size wc w'∧w'.ownsRow wc.heap.size 166 1 (.slice a8 (Num.limbs V).length c8) (Num.limbs V).length (u32s (Num.limbs V)))
   case first =>
    as_aux_lemma =>
     go_wp2_with fail
     refine (CS.out _ (Below.refl _ _)).mono ?_
     rintro e1 w1 ⟨a8,c8,rfl,hb1,ho1⟩
     have HB1:=hid hb1
     have HO1:=hid ho1
     clear hb1 ho1 CS
     go_wp2_with fail
     go_meet
     case rel=>exact⟨a8,c8,rfl,rfl,rfl,HB1.out,HO1.out⟩
   case rest =>
    obtain⟨a8,c8,rfl,rfl,rfl,hb,ho⟩:=hcut
    have hsz:=HO.out.bel.size
    replace HO:=hid (HO.out.next hb)
    have HOV:=hid (aG ho hsz)
    clear hb ho CS k0 k1 k2 p0 p1 p2 f0 f1 f2 hsz
    obtain⟨⟨k0,k1,k2⟩,_⟩:=aN HO.out.h1
    go_upto_block 0 with fail
    go_cut [9,11] from 12 (fun _ v11 w'=>v11=.bool up∧w'=wc)
    case first =>
     as_aux_lemma =>
      have hw4:way=0∨way=1∨way=2∨way=3:=by omega
      obtain⟨dn,hdn⟩:∃b,b=d.neg:=⟨_,rfl⟩
      rw[←hdn] at k0 hup2
      clear hdn
      rcases hw4 with rfl | rfl | rfl | rfl<;>cases rs<;>cases hf<;>cases dn
      all_goals
       have hu:=hup2.out
       simp at hu
       subst hu
       go_wp2_with fail
       go_meet
       case rel=>exact⟨rfl,rfl⟩
    case rest =>
     obtain⟨rfl,rfl⟩:=hcut
     obtain⟨V',hV'⟩:∃v,v=V+(if up=true then 1 else 0):=⟨_,rfl⟩
     rw[←hV'] at HR hv
     go_upto_if 55 with fail
     go_cut [8] from 12 (fun v8 w'=>∃a9 c9,v8=.slice a9 (Num.limbs V').length c9∧Below wc.heap.size wc w'∧w'.ownsRow w.heap.size 166 1 (.slice a9 (Num.limbs V').length c9) (Num.limbs V').length (u32s (Num.limbs V')))
     case first =>
      as_aux_lemma =>
       cases up with
       | true =>
        have lV:(Num.limbs V).length≤60:=Nat.le_trans (Num.digs_length_mono Num.two_le_B9 (by rw[hV'];omega)) hv
        have CA:=fun W N (hb:Below wc.heap.size wc W) (h2:U32 W (some ⟨N,0,none⟩) [1])=>Cc a8 (some ⟨N,0,none⟩) c8 1 (Num.limbs V) [1] W ((aS HOV.out).below hb) h2 (by omega) (by simp)
        rw[Num.worth_limbs,show Num.worth [1]=1 from rfl,show V+1=V' by rw[hV'];rfl] at CA
        unfold OutU at CA
        replace CA:=hid CA
        replace hV':=hid hV'
        have hsz:=HO.out.bel.size
        go_wp2_with fail
        refine (CA.out _ _ ((Below.refl wc.heap.size wc).alloc (Nat.le_refl _) _) (yU (by decide) (ay (aj wc _) 0))).mono ?_
        rintro e5 w5 ⟨a5,c5,rfl,hb5,ho5⟩
        have HB5:=hid (ak hb5)
        have HO5:=hid (aG ho5 (show w.heap.size≤_ by simp;omega))
        clear hb5 ho5 CA
        go_wp2_with fail
        go_meet
        case rel=>exact⟨a5,c5,rfl,HB5.out,HO5.out⟩
       | false =>
        obtain rfl:V'=V:=by rw[hV'];rfl
        replace hV':=hid hV'
        go_wp2_with fail
        go_meet
        case rel=>exact⟨a8,c8,rfl,Below.refl _ _,HOV.out⟩
     case rest =>
      obtain⟨a9,c9,rfl,hb,ho⟩:=hcut
      replace HO:=hid (HO.out.next hb)
      have HO9:=hid ho
      clear hb ho HOV hV' hup2 k0 k1 k2
      obtain⟨⟨k0,k1,k2⟩,_⟩:=aN HO.out.h1
      have hltN:=aA HO.out.h1
      have CN:=mD d.neg a9 c9 0 (Num.limbs V') wc (aS HO9.out) (HTAB.out.next HO.out.bel)
      rw[Num.worth_limbs] at CN
      obtain⟨t1,t2⟩:=uS (g:=d.neg) (Q:=V') (eX.2 ⟨(by omega:(Num.limbs V').length≤200),by omega,by omega⟩:nearB (Num.limbs V').length 0=true)
      rw[t1,t2] at CN
      obtain⟨t,ht⟩:∃t,t=tellR (plainD d.neg V' 0):=⟨_,rfl⟩
      rw[←ht] at CN
      have HR2:=hid (HR.out.trans ht.symm)
      unfold OutDE decV at CN
      replace CN:=hid CN
      clear t1 t2 ht HR
      go_wp2_with fail
      refine CN.out.mono ?_
      rintro e1 w1 ⟨a3,c3,rfl,ho3⟩
      have hr3:=HO.out.res.below ho3.1
      obtain⟨_,_,_,p0,p1,p2⟩:=hr3.get
      have f0:=hr3.frozen 0
      have f1:=hr3.frozen 1
      have f2:=hr3.frozen 2
      have HB3:=hid (ae HO.out.bel ho3.1)
      have HO3:=hid (aG (eY (R:=w.heap.size+1) ho3.2 (by omega) (.bool t.1.neg) (.slice a3 (Num.limbs t.1.m).length c3) (.int .i64 t.1.e)) (show w.heap.size≤_ by omega))
      clear ho3 hr3 CN
      go_wp2_with fail
      refine bodyPost_ret (v:=.tuple #[decV t.1 a3 c3,.int .i64 t.2]) (by simp[results,Tryz.results159,go_sem,p0,p1,p2,decV]) rfl ?_
      rw[HR2.out]
      exact⟨a3,c3,rfl,fK HB3.out (by omega) _ _ _ _ _,HO3.out⟩
theorem wX (g:Bool)(a:Option Addr)(cap:Nat)(e:Int)(xs:List Nat)(w:World)(h:U32 w a xs)(htab:Pow w) :
  Calls Tryz.prog 121 #[.agg #[.bool g,.slice a xs.length cap,.int .i64 e]] w
   (OutDE w (roundR (takenE g xs.length (Num.worth xs) e) (takenD g xs.length (Num.worth xs) e) 1).1 (roundR (takenE g xs.length (Num.worth xs) e) (takenD g xs.length (Num.worth xs) e) 1).2):=by
 have CR:∀W,Below w.heap.size w W→Calls Tryz.prog 159 #[.agg #[.bool g,.slice a xs.length cap,.int .i64 e],.int .i64 1] W
   (OutDE W (roundR (takenE g xs.length (Num.worth xs) e) (takenD g xs.length (Num.worth xs) e) 1).1 (roundR (takenE g xs.length (Num.worth xs) e) (takenD g xs.length (Num.worth xs) e) 1).2) :=
  fun W hb=>nV 1 (by decide) g a cap e xs W (h.below hb) (htab.next hb)
 obtain⟨t,ht⟩:∃t,t=roundR (takenE g xs.length (Num.worth xs) e) (takenD g xs.length (Num.worth xs) e) 1:=⟨_,rfl⟩
 rw[←ht] at CR ⊢
 obtain⟨n,hn⟩:∃n,n=xs.length:=⟨_,rfl⟩
 rw[←hn] at CR ⊢
 unfold OutDE decV at CR
 replace CR:=hid CR
 clear h htab ht hn
 go_enter Tryz.func121,Tryz.ntmps121
 go_wp2_with fail
 refine (CR.out _ (((Below.refl _ _).alloc (Nat.le_refl _) _).alloc (by simp) _)).mono ?_
 rintro e1 w1 ⟨a3,c3,rfl,ho3⟩
 have hr3:Cells3 w1 (w.heap.size+1):=Cells3.below ⟨_,_,_,_,by simpa using aB w _ _⟩ ho3.1
 obtain⟨_,_,_,p0,p1,p2⟩:=hr3.get
 have f0:=hr3.frozen 0
 have f1:=hr3.frozen 1
 have f2:=hr3.frozen 2
 have HB3:=hid (ak (ak ho3.1))
 have HO3:=hid (aG (eY (R:=w.heap.size+1) ho3.2 (by simp) (.bool t.1.neg) (.slice a3 (Num.limbs t.1.m).length c3) (.int .i64 t.1.e)) (show w.heap.size≤_ by simp;omega))
 clear ho3 hr3 CR
 go_wp2_with fail
 refine bodyPost_ret (v:=.tuple #[decV t.1 a3 c3,.int .i64 t.2]) (by simp[results,Tryz.results121,go_sem,p0,p1,p2,decV]) rfl ?_
 exact⟨a3,c3,rfl,fK HB3.out (by omega) _ _ _ _ _,HO3.out⟩
theorem Af (g:Bool)(a:Option Addr)(cap:Nat)(e:Int)(xs:List Nat)(w:World)(h:U32 w a xs)(htab:Pow w) :
  Calls Tryz.prog 164 #[.agg #[.bool g,.slice a xs.length cap,.int .i64 e]] w
   (OutDE w (roundR (takenE g xs.length (Num.worth xs) e) (takenD g xs.length (Num.worth xs) e) 2).1 (roundR (takenE g xs.length (Num.worth xs) e) (takenD g xs.length (Num.worth xs) e) 2).2):=by
 have CR:∀W,Below w.heap.size w W→Calls Tryz.prog 159 #[.agg #[.bool g,.slice a xs.length cap,.int .i64 e],.int .i64 2] W
   (OutDE W (roundR (takenE g xs.length (Num.worth xs) e) (takenD g xs.length (Num.worth xs) e) 2).1 (roundR (takenE g xs.length (Num.worth xs) e) (takenD g xs.length (Num.worth xs) e) 2).2) :=
  fun W hb=>nV 2 (by decide) g a cap e xs W (h.below hb) (htab.next hb)
 obtain⟨t,ht⟩:∃t,t=roundR (takenE g xs.length (Num.worth xs) e) (takenD g xs.length (Num.worth xs) e) 2:=⟨_,rfl⟩
 rw[←ht] at CR ⊢
 obtain⟨n,hn⟩:∃n,n=xs.length:=⟨_,rfl⟩
 rw[←hn] at CR ⊢
 unfold OutDE decV at CR
 replace CR:=hid CR
 clear h htab ht hn
 go_enter Tryz.func164,Tryz.ntmps164
 go_wp2_with fail
 refine (CR.out _ (((Below.refl _ _).alloc (Nat.le_refl _) _).alloc (by simp) _)).mono ?_
 rintro e1 w1 ⟨a3,c3,rfl,ho3⟩
 have hr3:Cells3 w1 (w.heap.size+1):=Cells3.below ⟨_,_,_,_,by simpa using aB w _ _⟩ ho3.1
 obtain⟨_,_,_,p0,p1,p2⟩:=hr3.get
 have f0:=hr3.frozen 0
 have f1:=hr3.frozen 1
 have f2:=hr3.frozen 2
 have HB3:=hid (ak (ak ho3.1))
 have HO3:=hid (aG (eY (R:=w.heap.size+1) ho3.2 (by simp) (.bool t.1.neg) (.slice a3 (Num.limbs t.1.m).length c3) (.int .i64 t.1.e)) (show w.heap.size≤_ by simp;omega))
 clear ho3 hr3 CR
 go_wp2_with fail
 refine bodyPost_ret (v:=.tuple #[decV t.1 a3 c3,.int .i64 t.2]) (by simp[results,Tryz.results164,go_sem,p0,p1,p2,decV]) rfl ?_
 exact⟨a3,c3,rfl,fK HB3.out (by omega) _ _ _ _ _,HO3.out⟩
theorem FM {w W w1:World}{N:Nat}{x y:Value}(h:W.cell? ⟨N,1,none⟩=some x∧W.cell? ⟨N,2,none⟩=some y∧Below w.heap.size w W)(hb:Below W.heap.size W w1) :
  w1.cell? ⟨N,1,none⟩=some x∧w1.cell? ⟨N,2,none⟩=some y∧Below w.heap.size w w1 :=
 ⟨by rw[(bcell hb).1 _ _ (ax h.1)];exact h.1,by rw[(bcell hb).1 _ _ (ax h.2.1)];exact h.2.1,ae h.2.2 hb⟩
theorem xu (neg:Bool)(l:List UInt8)(h:Digs l)(h0:l≠[])(hl:l.length≤17):Lib.atoiAll ((if neg=true then [45] else []) ++ l)=.ok (if neg=true then -((num10 l 0:Nat):Int) else ((num10 l 0:Nat):Int)):=by
 have hb:10 ^ l.length≤10 ^ 17:=Nat.pow_le_pow_right (by decide) hl
 have e:=oZ l 0 h (by omega)
 have hlt:=Cm l h
 cases neg with
 | true =>
  simp only[if_true,List.singleton_append]
  unfold Lib.atoiAll Lib.parseMag
  simp only[show (45:UInt8).toNat=45 from rfl,or_true,if_true,if_neg h0,e,not_true_eq_false,false_and,if_false,true_and]
  rw[if_neg (by omega)]
 | false =>
  simp only[Bool.false_eq_true,if_false,List.nil_append]
  cases l with
  | nil=>exact absurd rfl h0
  | cons c r =>
   have hc:=h c (by simp)
   unfold Lib.atoiAll Lib.parseMag
   have h43:¬ c.toNat=43:=by omega
   have h45:¬ c.toNat=45:=by omega
   simp only[h43,h45,or_self,if_false,if_neg h0,e,not_false_eq_true,true_and,false_and]
   rw[if_neg (by omega)]
def intR (er:Nat) (d:D):Int × Nat :=
 if er≠0 then (0,er) else if d.e<0 then (0,9) else if 16<d.e+(Num.digs 10 d.m).length then (0,3)
 else if 9007199254740992<wholeN d then (0,3) else (if d.neg=true then -((wholeN d:Nat):Int) else ((wholeN d:Nat):Int),0)
theorem Du {d:D}(hd:IsPlain d)(h0:0≤d.e)(h16:¬ 16<d.e+(Num.digs 10 d.m).length) :
  Lib.atoiAll (textL d)=.ok (if d.neg=true then -((wholeN d:Nat):Int) else ((wholeN d:Nat):Int))∧(textL d).length≤100:=by
 unfold textL wholeN
 rw[if_pos h0]
 by_cases hm:d.m=0
 ·have:=hd.1 hm
  rw[if_pos hm,this]
  exact⟨by decide,by decide⟩
 ·rw[if_neg hm]
  obtain⟨k,hk⟩:∃k:Nat,d.e=(k:Int):=⟨d.e.toNat,by omega⟩
  have hkn:d.e.toNat=k:=by omega
  have hl:(Lib.decDigits d.m).length=(Num.digs 10 d.m).length:=Num.decDigits_len d.m hm
  have hp:=xh hm
  have hf:figL (Lib.decDigits d.m) d.e (d.e+(Num.digs 10 d.m).length-1)=Lib.decDigits d.m ++ List.replicate k 48:=by
   unfold figL
   rw[if_pos ⟨h0,by omega⟩,hkn]
  rw[hf,hkn]
  have hD:Digs (Lib.decDigits d.m ++ List.replicate k 48):=fun c hc=>by
   rcases List.mem_append.1 hc with h | h
   ·exact qE d.m c h
   ·have:=List.eq_of_mem_replicate h
    rw[this];exact⟨by decide,by decide⟩
  have hlen:(Lib.decDigits d.m ++ List.replicate k 48).length≤16:=by
   rw[List.length_append,List.length_replicate,hl];omega
  have hne:Lib.decDigits d.m ++ List.replicate k 48≠[]:=by
   intro e
   have:=congrArg List.length e
   rw[List.length_append,hl] at this
   simp only[List.length_nil] at this
   omega
  have:=xu d.neg _ hD hne (by omega)
  rw[jv,zh,rW] at this
  refine⟨this,?_⟩
  rw[List.length_append]
  split<;>simp only[List.length_cons,List.length_nil]<;>omega
theorem Dl (g:Bool)(a:Option Addr)(cap:Nat)(e:Int)(xs:List Nat)(w:World)(h:U32 w a xs)(htab:Pow w) :
  Calls Tryz.prog 122 #[.agg #[.bool g,.slice a xs.length cap,.int .i64 e]] w fun en w' =>
   en=.returned (.tuple #[.int .i64 (intR (takenE g xs.length (Num.worth xs) e) (takenD g xs.length (Num.worth xs) e)).1,.int .i64 ((intR (takenE g xs.length (Num.worth xs) e) (takenD g xs.length (Num.worth xs) e)).2:Nat)])∧Below w.heap.size w w':=by
 have CN:=fun W (hb:Below w.heap.size w W)=>mD g a cap e xs W (h.below hb) (htab.next hb)
 have hp:takenE g xs.length (Num.worth xs) e=0→IsPlain (takenD g xs.length (Num.worth xs) e)∧fitsB (takenD g xs.length (Num.worth xs) e)=true:=fun h=>kS h
 obtain⟨d,hd⟩:∃x,x=takenD g xs.length (Num.worth xs) e:=⟨_,rfl⟩
 obtain⟨er,her⟩:∃x,x=takenE g xs.length (Num.worth xs) e:=⟨_,rfl⟩
 obtain⟨n,hn⟩:∃n,n=xs.length:=⟨_,rfl⟩
 rw[←hd,←her] at CN hp
 rw[←hd,←her]
 rw[←hn] at CN ⊢
 obtain⟨r,hr⟩:∃r,r=intR er d:=⟨_,rfl⟩
 rw[←hr]
 unfold OutDE at CN
 replace CN:=hid CN
 replace hp:=hid hp
 replace hr:=hid hr
 have HTAB:=hid htab
 clear h htab hd her hn
 go_enter Tryz.func122,Tryz.ntmps122
 go_upto_region 1 with fail
 go_cut [4,5] from 10 (fun v4 v5 w'=>∃N b c,v4=.pointer (some ⟨N,0,none⟩)∧v5=.int .i64 er∧HasD w' N d.neg (Num.limbs d.m) d.e b c∧Below w.heap.size w w')
 case first =>
  as_aux_lemma =>
   go_wp2_with fail
   refine (CN.out _ ((Below.refl _ _).alloc (Nat.le_refl _) _)).mono ?_
   rintro e1 w1 ⟨b,c,rfl,ho1⟩
   have HO:=hid ho1
   clear ho1 CN
   unfold decV
   go_wp2_with fail
   go_meet
   case rel=>exact⟨w1.heap.size,b,c,rfl,rfl,HasD.new HO.out.inD,(ak HO.out.1).alloc (ak HO.out.1).size _⟩
 case rest =>
  obtain⟨N,b,c,rfl,rfl,hH,hB⟩:=hcut
  obtain⟨⟨k0,k1,k2⟩,_⟩:=aN hH.blk
  have HH:=hid hH
  have HB:=hid hB
  clear hH hB CN
  by_cases h0:er=0
  ·obtain⟨pd,fd⟩:=hp.out h0
   have hne:((er:Int) != 0)=false:=by rw[bne_eq_false_iff_eq];omega
   have bd:=dN pd fd
   by_cases he:d.e<0
   ·have HR:=hid (show r=(0,9) by rw[hr.out];unfold intR;rw[if_neg (by omega),if_pos he])
    clear hr hp h0 pd fd bd
    go_wp2
    go_ret2
    rw[HR.out]
    exact⟨rfl,HB.out⟩
   ·have lm:=jY bd.1
    have CD:=fun W (hb:Below wc.heap.size wc W)=>gU b c (Num.limbs d.m) W (HH.out.u.below hb) (by omega) (HTAB.out.next (HB.out.trans (hb.mono HB.out.size)))
    rw[Num.worth_limbs] at CD
    have hts:=vP pd fd
    have CT:=fun W (hb:Below wc.heap.size wc W)=>BG d.neg b c d.e (Num.limbs d.m) W (HH.out.u.below hb) (HTAB.out.next (HB.out.trans (hb.mono HB.out.size)))
    rw[hts.1,hts.2] at CT
    rw[if_pos rfl] at CT
    obtain⟨dd,hdd⟩:∃x,x=(Num.digs 10 d.m).length:=⟨_,rfl⟩
    rw[←hdd] at CD
    have hdd4:dd≤400:=by rw[hdd];exact bd.1
    have hw:IntKind.i64.wrap (d.e+(dd:Int))=d.e+(dd:Int):=IntWalk.i64_in _ (by omega)
    have hr1:=hid (show r=(if 16<d.e+(dd:Int) then (0,3) else if 9007199254740992<wholeN d then (0,3) else (if d.neg=true then -((wholeN d:Nat):Int) else ((wholeN d:Nat):Int),0)) by rw[hr.out,hdd];unfold intR;rw[if_neg (by omega),if_neg he])
    have hit:=fun h16=>Du pd (by omega) h16
    rw[←hdd] at hit
    unfold OutSE at CT
    replace CD:=hid CD
    replace CT:=hid CT
    replace hit:=hid hit
    obtain⟨lg,hlg⟩:∃b,b=decide (16<d.e+(dd:Int)):=⟨_,rfl⟩
    replace hlg:=hid hlg
    clear hr hp h0 pd fd bd hdd hts
    go_upto_region 6 with fail
    go_cut [23] from 10 (fun v23 w'=>v23=.bool lg∧Below wc.heap.size wc w')
    case first =>
     go_wp2_with fail
     go_region_held3 (fun w'=>w'.cell? ⟨N,1,none⟩=some (.slice b (Num.limbs d.m).length c)∧w'.cell? ⟨N,2,none⟩=some (.int .i64 d.e)∧Below wc.heap.size wc w') (first | assumption | (exact⟨k1,k2,(Below.refl _ _).drew⟩) | (exact FM (by assumption) (by assumption))) ((go_at_call 161;(with_reducible refine (CD.out _ ?_).mono ?_);(simp only[*]);rintro e1 w1 ⟨rfl,hb1⟩))
     all_goals
      rename_i hHeld
      have HB1:=hid hHeld.2.2
      clear hHeld
      go_wp2_with fail
      go_meet
      case rel=>exact⟨by rw[hlg.out],HB1.out⟩
    case rest =>
     obtain⟨rfl,hb⟩:=hcut
     have CT1:=CT.out wc hb
     have HB2:=hid (ae HB.out hb)
     obtain⟨⟨k0,k1,k2⟩,_⟩:=aN (HH.out.below hb).blk
     replace CT1:=hid CT1
     clear hb CT CD HB
     cases lg with
     | true =>
      have HR:=hid (show r=(0,3) by rw[hr1.out,if_pos (of_decide_eq_true hlg.out.symm)])
      clear hr1
      go_wp2
      go_ret2
      rw[HR.out]
      exact⟨rfl,HB2.out⟩
     | false =>
      have h16:=of_decide_eq_false hlg.out.symm
      have HI:=hid (hit.out h16)
      have hr2:=hid (show r=(if 9007199254740992<wholeN d then (0,3) else (if d.neg=true then -((wholeN d:Nat):Int) else ((wholeN d:Nat):Int),0)) by rw[hr1.out,if_neg h16])
      obtain⟨T,hT⟩:∃T:ByteArray,T=⟨(textL d).toArray⟩:=⟨_,rfl⟩
      obtain⟨v,hv⟩:∃v:Int,v=(if d.neg=true then -((wholeN d:Nat):Int) else ((wholeN d:Nat):Int)):=⟨_,rfl⟩
      have CA:=fun W=>Tryz.strconv_Atoi_ok T (by rw[hT];have:=HI.out.2;simp[ByteArray.size];omega) v (by rw[hT,hv];exact HI.out.1) W
      have CT2:=CT1.out
      rw[←hT] at CT2
      replace CT2:=hid CT2
      replace CA:=hid CA
      have hvW:v=(wholeN d:Nat)∨v=-((wholeN d:Nat):Int):=by rw[hv];split<;>simp
      rw[←hv] at hr2
      replace hv:=hid hv
      clear hr1 h16 hit hlg CT1 hT
      obtain⟨V,hV⟩:∃V,V=wholeN d:=⟨_,rfl⟩
      rw[←hV] at hr2 hvW
      clear hV hv HI
      go_wp2_with fail
      refine CT2.out.mono ?_
      rintro e1 w1 ⟨rfl,hb1⟩
      have HB3:=hid (ae HB2.out hb1)
      clear hb1 CT2
      go_wp2_with fail
      refine (CA.out _).mono ?_
      rintro e2 w2 ⟨rfl,hw2⟩
      have HB4:Hid (Below w.heap.size w w2):=by
       rcases hw2 with rfl | ⟨t,rfl⟩
       ·exact HB3.out
       ·exact ae HB3.out (Lib.bytesWorld_below _ _ _)
      clear hw2 CA
      by_cases hbig:9007199254740992<V
      ·have HR:=hid (show r=(0,3) by rw[hr2.out,if_pos hbig])
       clear hr2
       by_cases hlo:v < -9007199254740992
       ·go_wp2
        go_ret2
        rw[HR.out]
        exact⟨rfl,HB4.out⟩
       ·have hhi:(9007199254740992:Int)<v:=by omega
        go_wp2
        go_ret2
        rw[HR.out]
        exact⟨rfl,HB4.out⟩
      ·have HR:=hid (show r=(v,0) by rw[hr2.out,if_neg hbig])
       have hlo:¬ v < -9007199254740992:=by omega
       have hhi:¬ (9007199254740992:Int)<v:=by omega
       clear hr2
       go_wp2
       go_ret2
       rw[HR.out]
       exact⟨rfl,HB4.out⟩
  ·have hne:((er:Int) != 0)=true:=by rw[bne_iff_ne];omega
   have HR:=hid (show r=(0,er) by rw[hr.out];unfold intR;rw[if_pos h0])
   clear h0 hp hr
   go_wp2
   go_ret2
   rw[HR.out]
   exact⟨rfl,HB.out⟩
end Go.Proofs.YtcgbmmalfbpjaaaGreatDoor
