/-  -/
import Derived.Test.YtcgbmmalfbpjaaaGreatDoorNB
import Derived.Test.YtcgbmmalfbpjaaaGreatDoorMf
import Derived.Test.YtcgbmmalfbpjaaaGreatDoorMg
import Derived.Test.YtcgbmmalfbpjaaaGreatDoorMh
import Derived.Test.YtcgbmmalfbpjaaaGreatDoorMi
import Derived.Test.YtcgbmmalfbpjaaaGreatDoorMe
import Derived.Deep.CutBlock
import Derived.Deep.QuietTactic
import Derived.BigQuiet
set_option maxRecDepth 100000
set_option maxHeartbeats 16000000
namespace Go.Proofs.YtcgbmmalfbpjaaaGreatDoor
open Go.RowKit
section
variable {P:Program} {ops:Array Oper} {rest:List Oper} {o:Oper} {a:Act} {Q:Exit→Act→World→Prop}
end
def RdN (w:World) (m:Nat) (a:Option Addr) (cap:Nat):Prop:=U8 w a (Num.digs 10 m)∧(Num.digs 10 m).length≤cap∧cap≤9223372036854775807∧(a=none→cap=0)
theorem RdN.below {w w':World}{m cap:Nat}{a:Option Addr}(h:RdN w m a cap)(hb:Below w.heap.size w w'):RdN w' m a cap:=⟨h.1.below hb,h.2⟩
theorem OutR8.rd {w w':World}{m:Nat}{e:Ending}(h:OutR8 w (Num.digs 10 m) e w'):∃a cap,e=.returned (.slice a (Num.digs 10 m).length cap)∧Below w.heap.size w w'∧RdN w' m a cap:=by
 obtain⟨a,cap,h1,h2,h3,h4,h5,h6⟩:=h
 exact⟨a,cap,h1,h2,h3,h4,h5,h6⟩
theorem EM (w:World):RdN w 0 none 0:=⟨⟨Row.nil _ _,fun d hd=>by cases hd⟩,Nat.le_refl _,by decide,fun _=>rfl⟩
theorem U8.spot {W:World}{a:Option Addr}{xs:List Nat}(h:U8 W a xs){j:Nat}(hj:j<xs.length):∃b off,a=some ⟨b,off,none⟩∧W.cell? ⟨b,off+j,none⟩=some (.int .u8 ((xs.getD j 0:Nat):Int)):=by
 obtain⟨b,off,rfl,_⟩:=h.row j (.int .u8 ((xs[j]:Nat):Int)) (by simp[u8s,hj])
 exact⟨b,off,rfl,h.row.u8 hj⟩
theorem yH {m j:Nat}(h:j<(Num.digs 10 m).length):m / 10 ^ j=(Num.digs 10 m).getD j 0+10 * (m / 10 ^ (j+1)):=by
 have a:=Num.val_drop (b:=10) (by decide) (Num.digs 10 m) (bI m) j
 have b:=Num.val_drop (b:=10) (by decide) (Num.digs 10 m) (bI m) (j+1)
 rw[Num.val_digs (by decide)] at a b
 rw[Num.drop_getD h,Num.val_cons,b] at a
 exact a.symm
theorem shifted {X k:Nat}(_hX:X≠0):X * 10 ^ (k+1)=X * 10 ^ k * 10:=by rw[Nat.pow_succ,Nat.mul_assoc]
theorem grows {X k:Nat}(hX:X≠0):X * 10 ^ k<X * 10 ^ (k+1):=by
 have:=Nat.mul_pos (Nat.pos_of_ne_zero hX) (kE k)
 rw[shifted hX]
 omega
theorem oG:Num.digs 10 1=[1]:=rfl
theorem EN (w:World):Calls Tryz.prog 202 #[] w (OutR8 w (Num.digs 10 1)):=by
 go_enter Tryz.func202,Tryz.ntmps202
 go_wp2
 go_ret
 refine⟨some ⟨w.heap.size,0,none⟩,1,rfl,(Below.refl _ _).alloc (Nat.le_refl _) _,⟨?_,bI 1⟩,Nat.le_refl _,by decide,fun h=>by cases h⟩
 intro j v hv
 cases j with
 | zero =>
  simp[u8s,oG] at hv
  subst hv
  exact⟨w.heap.size,0,rfl,az (ak w _) 0⟩
 | succ j=>simp[u8s,oG] at hv
theorem BP (w:World)(e:TypeId):(w.alloc (.cells #[] e)).ownsRow w.heap.size e 1 (.slice (some ⟨w.heap.size,0,none⟩) 0 0) 0 [] :=
 ⟨rfl,.inr ⟨w.heap.size,0,#[],rfl,Nat.le_refl _,ak w _,Nat.le_refl _,by unfold maxLen;omega,rfl,rfl⟩⟩
theorem yI (w:World)(o:Obj)(e:TypeId):((w.alloc o).alloc (.cells #[] e)).ownsRow w.heap.size e 1 (.slice (some ⟨w.heap.size+1,0,none⟩) 0 0) 0 []:=by
 have h:=BP (w.alloc o) e
 rw[show (w.alloc o).heap.size=w.heap.size+1 by simp] at h
 exact ay h (by omega)
def TopD (w:World) (m n:Nat) (a:Option Addr):Prop:=∃b off,a=some ⟨b,off,none⟩∧w.cell? ⟨b,off+(n-1),none⟩=some (.int .u8 (((Num.digs 10 m).getD (n-1) 0:Nat):Int))
theorem TopD.below {w w':World}{m n:Nat}{a:Option Addr}(h:TopD w m n a)(hb:Below w.heap.size w w'):TopD w' m n a:=by
 obtain⟨b,off,h1,h2⟩:=h
 exact⟨b,off,h1,((bcell hb).1 _ _ (au h2)).trans h2⟩
theorem BQ {w:World}{m n b off:Nat}(h:U8 w (some ⟨b,off,none⟩) (Num.digs 10 m)):U8 w (some ⟨b,off+n,none⟩) (Num.digs 10 (m / 10 ^ n)):=by
 rw[Num.digs_div_pow (by decide)]
 refine⟨fun j x hx=>?_,fun d hd=>h.lt d (List.mem_of_mem_drop hd)⟩
 have hx2:(u8s (Num.digs 10 m))[n+j]? = some x:=by
  rw[show u8s ((Num.digs 10 m).drop n)=(u8s (Num.digs 10 m)).drop n by simp[u8s,List.map_drop],List.getElem?_drop] at hx
  exact hx
 obtain⟨b2,off2,e2,hc⟩:=h.row _ x hx2
 injection e2 with e2
 injection e2 with e2 e3
 subst e2 e3
 exact⟨b,off+n,rfl,by rw[Nat.add_assoc];exact hc⟩
def lenV:Value→Nat
 | .slice _ n _=>n
 | _=>0
def PadR (w:World) (m k:Nat) (v:Value) (wr:World):Prop :=
 wr.ownsRow w.heap.size 5 1 v ((Num.digs 10 m).length+k) (u8s (Num.digs 10 m ++ List.replicate k 0))∧Below w.heap.size w wr
theorem yJ (x:D)(a:Option Addr)(c:Nat)(w:World)(n:Nat)(h:RdD w x a c)(hm:x.m≠0)(hl:(Num.digs 10 x.m).length≤400)(he:x.e=-(n:Int))(hn1:1≤n)(hn:n≤20000) :
  Calls Tryz.prog 200 #[refV x a c] w fun e w'=>∃a1 c1 a2 c2,e=.returned (.tuple #[.slice a1 (Num.digs 10 (x.m / 10 ^ n)).length c1,.slice a2 n c2])∧Below w.heap.size w w'∧RdN w' (x.m / 10 ^ n) a1 c1∧TopD w' x.m n a2:=by
 obtain⟨hu,hc1,hc2,hc3⟩:=h
 have hl0:=Num.length_pos (b:=10) (by decide) hm
 obtain⟨b,off,rfl⟩:=hu.isSome (fun e=>by rw[e] at hl0;simp at hl0)
 unfold refV
 rw[he]
 obtain⟨m,hme⟩:∃m,m=x.m:=⟨_,rfl⟩
 rw[←hme] at hu hc1 hl hl0 hm ⊢
 obtain⟨g,hg⟩:∃g,g=x.neg:=⟨_,rfl⟩
 rw[←hg]
 have i1:¬ (0:Int)≤-(n:Int):=by omega
 by_cases hnl:(Num.digs 10 m).length≤n
 ·have hz:m / 10 ^ n=0:=Nat.div_eq_of_lt ((Num.digs_length_le (by decide)).1 hnl)
  obtain⟨d,hd⟩:∃d,d=(Num.digs 10 m).getD (n-1) 0:=⟨_,rfl⟩
  have HT:=hid (fun (W:World) (v:Value) (h:PadR w m (n-(Num.digs 10 m).length) v W)=>show ∃a2 c2,v=.slice a2 n c2∧TopD W m n a2 from by
   obtain⟨ho,_⟩:=h
   rw[show (Num.digs 10 m).length+(n-(Num.digs 10 m).length)=n by omega] at ho
   obtain⟨a2,c2,rfl,hr,hlen⟩:=aZ ho
   refine⟨a2,c2,rfl,?_⟩
   have hget:(u8s (Num.digs 10 m ++ List.replicate (n-(Num.digs 10 m).length) 0))[n-1]? = some (.int .u8 (((Num.digs 10 m).getD (n-1) 0:Nat):Int)):=by
    simp only[u8s,List.map_append,List.map_replicate]
    by_cases hq:n-1<(Num.digs 10 m).length
    ·rw[List.getElem?_append_left (by simpa using hq),List.getElem?_map,List.getElem?_eq_getElem hq,List.getD_eq_getElem?_getD,List.getElem?_eq_getElem hq]
     rfl
    ·rw[List.getElem?_append_right (by simp;omega),List.getElem?_replicate,if_pos (by simp;omega),List.getD_eq_getElem?_getD,List.getElem?_eq_none (by omega)]
     rfl
   obtain⟨b2,off2,rfl,hc⟩:=hr _ _ hget
   exact⟨b2,off2,rfl,hc⟩)
  obtain⟨L,hL⟩:∃L,L=(Num.digs 10 m).length:=⟨_,rfl⟩
  have HROW:=hid hu.row
  have HRL:=hid (show (u8s (Num.digs 10 m)).length=L by rw[hL];simp[u8s])
  have HD0:=hid (show u8s (Num.digs 10 m)=u8s (Num.digs 10 m ++ List.replicate 0 0) by simp)
  rw[←hL] at hnl hl hl0 HT
  have HPAD:=hid (fun (W:World) (v:Value) (k:Nat)=>show PadR w m k v W ↔ W.ownsRow w.heap.size 5 1 v (L+k) (u8s (Num.digs 10 m ++ List.replicate k 0))∧Below w.heap.size w W by rw[hL];rfl)
  rw[hz,←hL]
  have hLn:((L:Nat):Int)≤(n:Int):=by omega
  have hn0:¬ n=0:=by omega
  clear hu hc1 hz hme hg he hd hm hL hc3
  go_enter Tryz.func200,Tryz.ntmps200
  go_upto_region 5 with fail
  go_wp2_with (at_builtin;go_loud (refine fF fQ rfl _ _ rfl w.heap.size (yI _ _ _) rfl rfl (HROW.out.below (((Below.refl _ _).alloc (Nat.le_refl _) _).alloc (by simp) _)) HRL.out (fun h=>by cases h) (Ad _) (by unfold maxLen;omega) (by omega) (by simp;omega) ?_);intro v3 w3 hown hb3)
  have P0:Hid (PadR w m 0 v3 w3):=hid ((HPAD.out w3 v3 0).2 ⟨by rw[←HD0.out];simpa using hown,(((Below.refl _ _).alloc (Nat.le_refl _) _).alloc (by simp) _).trans (hb3.mono (by simp))⟩)
  clear hown hb3
  go_wp2
  go_loopw [5] (fun v wr=>∃k:Nat,k≤n-L∧PadR w m k v wr) (fun v _=>n-lenV v)
  case atStart=>exact⟨0,by omega,P0.out⟩
  case round =>
   clear P0
   obtain⟨k,hk,hP⟩:=hrel
   obtain⟨hown,hbw⟩:=(HPAD.out _ _ _).1 hP
   obtain⟨a2,c2,rfl,_,_⟩:=aZ hown
   have hsz:=hbw.size
   have HB:=hid hbw
   have HP:=hid hP
   clear hP hbw
   by_cases hlt:L+k<n
   ·have i2:((L+k:Nat):Int)<(n:Int):=by omega
    go_wp2_with (at_builtin;refine bG fQ rfl _ _ rfl w.heap.size (w0:=wr) hown rfl rfl rfl (by unfold maxLen;omega) (by omega) hsz ?_;intro v' w5 hown' hb')
    have P1:Hid (PadR w m (k+1) v' w5):=hid ((HPAD.out w5 v' (k+1)).2 ⟨by rw[List.replicate_succ',←List.append_assoc];simpa[u8s,Nat.add_assoc] using hown',HB.out.trans hb'⟩)
    have hlv:Hid (lenV v'=L+k+1):=by
     obtain⟨a5,c5,rfl,_,_⟩:=aZ hown'
     exact hid rfl
    clear hown hown' hb'
    go_wp2
    go_roundw
    case rel=>exact⟨k+1,by omega,P1.out⟩
    case measure=>rw[hlv.out];simp only[lenV];omega
   ·have i2:¬ ((L+k:Nat):Int)<(n:Int):=by omega
    obtain rfl:k=n-L:=by omega
    obtain⟨a6,c6,e6,ht⟩:=HT.out _ _ HP.out
    injection e6 with e6 e7 e8
    subst e6 e8
    have HTT:=hid ht
    have hnn:L+(n-L)=n:=by omega
    clear hown ht HP
    rw[hnn] at i2 ⊢
    go_wp2
    refine bodyPost_ret (v:=.tuple #[.slice none 0 0,.slice a2 n c2]) (by simp[results,Tryz.results200,go_sem]) rfl ?_
    exact⟨none,0,a2,⟨c2,rfl⟩,HB.out,EM _,HTT.out⟩
 ·have hlq:(Num.digs 10 (m / 10 ^ n)).length=(Num.digs 10 m).length-n:=by rw[Num.digs_div_pow (by decide),List.length_drop]
  have hD:=hid (BQ (n:=n) hu)
  have hTop:=hid (show TopD w m n (some ⟨b,off,none⟩) from ⟨b,off,rfl,hu.row.u8 (by omega)⟩)
  obtain⟨L,hL⟩:∃L,L=(Num.digs 10 m).length:=⟨_,rfl⟩
  rw[←hL] at hc1 hlq hnl hl ⊢
  obtain⟨M,hM⟩:∃M,M=m / 10 ^ n:=⟨_,rfl⟩
  rw[←hM] at hlq hD ⊢
  have hLn:¬ ((L:Nat):Int)≤(n:Int):=by omega
  have hnL:(n:Int)≤((L:Nat):Int):=by omega
  have hnc:(n:Int)≤(c:Int):=by omega
  have hn0:¬ n=0:=by omega
  have hcn:¬ c=n:=by omega
  have HLQ:=hid hlq
  have h0n:(0:Int)≤(n:Int):=by omega
  have hLc:((L:Nat):Int)≤(c:Int):=by omega
  clear hu hm he hme hg hlq hL hM hc3 hl0
  go_enter Tryz.func200,Tryz.ntmps200
  go_upto_region 9 with fail
  go_quiet (fail)
  have HB:=hid (below_drewN ((Below.refl w.heap.size w).alloc (Nat.le_refl _) (.cells #[.bool g,.slice (some ⟨b,off,none⟩) L c,.int .i64 (-(n:Int))] 109)) nq)
  go_wp2
  refine bodyPost_ret (v:=.tuple #[.slice (some ⟨b,off+n,none⟩) (L-n) (c-n),.slice (some ⟨b,off,none⟩) n c]) (by simp[results,Tryz.results200,go_sem]) rfl ?_
  exact⟨some ⟨b,off+n,none⟩,c-n,some ⟨b,off,none⟩,⟨c,by rw[HLQ.out]⟩,HB.out,⟨hD.out.below HB.out,by rw[HLQ.out];omega,by omega,fun h=>by cases h⟩,hTop.out.below HB.out⟩
theorem sW {x:D}(px:IsPlain x)(h:x.e<0):x.m≠0∧0<offN x:=by
 have h0:x.m≠0:=fun h1=>by
  have h2:=px.1 h1
  rw[h2] at h
  simp[zeroD] at h
 refine⟨h0,?_⟩
 unfold offN
 rw[if_neg (by omega)]
 obtain⟨k,hk⟩:∃k,(-x.e).toNat=k+1:=⟨(-x.e).toNat-1,by omega⟩
 rw[hk]
 refine Nat.pos_of_ne_zero fun h1=>?_
 have h2:10 ∣ x.m:=Nat.dvd_trans ⟨10 ^ k,by rw[Nat.pow_succ,Nat.mul_comm]⟩ (Nat.dvd_of_mod_eq_zero h1)
 obtain⟨q,hq⟩:=h2
 have h3:=px.2
 rw[hq,qR (by omega)] at h3
 omega
theorem FB {x:D}(h:0≤x.e)(way:Nat):roundR 0 x way=(x,0):=if_pos (Or.inr h)
theorem FC {x:D}(h:x.e<0)(way:Nat):roundR 0 x way=tellR (plainD x.neg (wholeN x+(if upB x way=true then 1 else 0)) 0):=if_neg (by rintro (h1 | h1);exact h1 rfl;omega)
theorem Aj {er:Nat}(h:er≠0)(x:D)(way:Nat):roundR er x way=(x,er):=if_pos (Or.inl h)
theorem Ak {x:D}(px:IsPlain x)(h:x.e<0):restB x=true:=decide_eq_true (sW px h).2
structure Less (x y r:D):Prop where
 whole:0≤r.e
 less:cmpR (absD r) (absD (roundR 0 y 0).1)=-1
 sign:r.m=0∨r.neg=(roundR 0 x 0).1.neg
 left:∀q:D × Nat,q=addR (roundR 0 x 0).1 (negD r)→q.2=0→(remR 0 q.1 y).2=0∧(remR 0 q.1 y).1.m=0
def roundD (d:D) (way:Nat):D:=if 0≤d.e then d else plainD d.neg (wholeN d+(if upB d way=true then 1 else 0)) 0
theorem yK {x:D}(gx:IsPlain x∧fitsB x=true)(way:Nat):roundR 0 x way=tellR (roundD x way):=by
 unfold roundD
 by_cases h:0≤x.e
 ·rw[FB h,if_pos h]
  exact (uj gx.2).symm
 ·rw[FC (by omega),if_neg h]
theorem yL {x:D}{n:Nat}(he:x.e=-(n:Int))(hn:1≤n):halfB x=decide (5≤(Num.digs 10 x.m).getD (n-1) 0):=by
 obtain⟨k,rfl⟩:∃k,n=k+1:=⟨n-1,by omega⟩
 unfold halfB offN
 rw[if_neg (by omega),show (-x.e).toNat=k+1 by omega,decide_eq_true (show x.e<0 by omega),Bool.true_and,Nat.add_sub_cancel]
 have h1:=Num.val_take (b:=10) (by decide) (Num.digs 10 x.m) (bI _) (k+1)
 have h2:=Num.val_take (b:=10) (by decide) (Num.digs 10 x.m) (bI _) k
 have h3:=Num.val_take_succ 10 (Num.digs 10 x.m) k
 rw[Num.val_digs (by decide)] at h1 h2
 rw[h1,h2] at h3
 have h4:=Nat.mod_lt x.m (kE k)
 rw[h3]
 generalize x.m % 10 ^ k=r at *
 generalize (Num.digs 10 x.m).getD k 0=d at *
 have hp:=kE k
 generalize 10 ^ k=P at *
 rw[decide_eq_decide]
 constructor
 ·intro h
  refine Classical.byContradiction fun hd=>?_
  have:P * d≤P * 4:=Nat.mul_le_mul_left _ (by omega)
  omega
 ·intro h
  have:P * 5≤P * d:=Nat.mul_le_mul_left _ h
  omega
theorem Ia {x:D}{n:Nat}(px:IsPlain x)(he:x.e=-(n:Int))(hn:1≤n):upB x 0=false∧upB x 1=x.neg∧upB x 2=!x.neg∧upB x 3=decide (5≤(Num.digs 10 x.m).getD (n-1) 0):=by
 have rt:=Ak px (show x.e<0 by omega)
 refine⟨rfl,?_,?_,?_⟩
 ·simp[upB,rt]
 ·simp[upB,rt]
 ·rw[←yL he hn];rfl
theorem pJ {x:D}(way:Nat)(bx:(Num.digs 10 x.m).length≤400∧-10400≤x.e∧x.e≤10001):(Num.digs 10 (roundD x way).m).length≤401∧-30000≤(roundD x way).e∧(roundD x way).e≤60000:=by
 unfold roundD
 by_cases h:0≤x.e
 ·rw[if_pos h];omega
 ·rw[if_neg h]
  have h1:wholeN x+(if upB x way=true then 1 else 0)≤x.m+1:=by
   unfold wholeN
   rw[if_neg h]
   have:=Nat.div_le_self x.m (10 ^ (-x.e).toNat)
   split<;>omega
  have h2:=(Num.digs_length_le (b:=10) (by decide)).1 bx.1
  have h3:(Num.digs 10 (wholeN x+(if upB x way=true then 1 else 0))).length≤401:=by
   obtain⟨j,hj⟩:∃j:Nat,j=400:=⟨_,rfl⟩
   rw[←hj] at h2
   have h4:x.m+1<10 ^ (j+1):=by rw[Nat.pow_succ];omega
   have h5:=(Num.digs_length_le (b:=10) (by decide)).2 (Nat.lt_of_le_of_lt h1 h4)
   omega
  exact⟨Nat.le_trans (Num.digs_length_mono (by decide) (fA _ _ _)) h3,IZ _ _ _ (by omega) (by omega)⟩
structure Box1 (w w':World) (x:D):Prop where
 c0:w'.cell? ⟨w.heap.size,0,none⟩=some (.bool x.neg)
 rc:Rec w' (w.heap.size+1)
 bel:Below w.heap.size w w'
theorem Box1.below {w w' w'':World}{x:D}(h:Box1 w w' x)(hb:Below w'.heap.size w' w''):Box1 w w'' x :=
 ⟨((bcell hb).1 _ _ (au h.c0)).trans h.c0,h.rc.below hb,ae h.bel hb⟩
theorem oH (x:D)(a:Option Addr)(c:Nat)(w:World)(way:Nat)(h:RdD w x a c)(h0:0≤x.e) :
  Calls Tryz.prog 168 #[refV x a c,.int .i64 way] w (OutRD w (roundD x way)):=by
 unfold roundD
 rw[if_pos h0]
 unfold refV
 have H:=hid h
 clear h
 go_enter Tryz.func168,Tryz.ntmps168
 go_wp2
 refine bodyPost_ret (v:=refV x a c) (by simp[results,Tryz.results168,go_sem,refV]) rfl ?_
 have hb:=((Below.refl w.heap.size w).alloc (Nat.le_refl _) (.cells #[.bool x.neg,.slice a (Num.digs 10 x.m).length c,.int .i64 x.e] 109)).alloc (by simp) (.cells #[.bool x.neg,.slice a (Num.digs 10 x.m).length c,.int .i64 x.e] 109)
 exact⟨a,c,rfl,hb,H.out.below hb⟩
theorem oI (x:D)(a:Option Addr)(c:Nat)(w:World)(way:Nat)(hway:way≤3)(h:RdD w x a c)(px:IsPlain x)(bx:(Num.digs 10 x.m).length≤400∧-10400≤x.e∧x.e≤10001)(h0:x.e<0) :
  Calls Tryz.prog 168 #[refV x a c,.int .i64 way] w (OutRD w (roundD x way)):=by
 obtain⟨n,hn⟩:∃n:Nat,x.e=-(n:Int):=⟨(-x.e).toNat,by omega⟩
 have hn1:1≤n:=by omega
 have hm:=(sW px h0).1
 have ups:=Ia px hn hn1
 have CP:=fun W (hb:Below w.heap.size w W)=>yJ x a c W n (h.below hb) hm bx.1 hn hn1 (by omega)
 have hw:wholeN x=x.m / 10 ^ n:=by
  unfold wholeN
  rw[if_neg (by omega),show (-x.e).toNat=n by omega]
 obtain⟨M,hM⟩:∃M,M=x.m / 10 ^ n:=⟨_,rfl⟩
 have hlM:(Num.digs 10 M).length≤400:=by rw[hM];exact Nat.le_trans (Num.digs_length_mono (by decide) (Nat.div_le_self _ _)) bx.1
 have hlM1:(Num.digs 10 (M+1)).length≤401:=by
  have h2:=(Num.digs_length_le (b:=10) (by decide)).1 hlM
  obtain⟨j,hj⟩:∃j:Nat,j=400:=⟨_,rfl⟩
  rw[←hj] at h2
  have h4:M+1<10 ^ (j+1):=by rw[Nat.pow_succ];omega
  have h5:=(Num.digs_length_le (b:=10) (by decide)).2 h4
  omega
 have hr:∀way,roundD x way=plainD x.neg (M+(if upB x way=true then 1 else 0)) 0:=fun way=>by
  unfold roundD
  rw[if_neg (by omega),hw,hM]
 rw[hr way]
 have CO:=fun W=>EN W
 have CA:=fun W b5 c5 b6 c6 (h5:RdN W M b5 c5) (h6:RdN W 1 b6 c6)=>vX b5 b6 c5 c6 (Num.digs 10 M) (Num.digs 10 1) W h5.1 h6.1 (by omega) (by rw[oG];simp)
 rw[Num.val_digs (by decide),Num.val_digs (by decide)] at CA
 have CM:=fun W b5 c5 (q:Nat) (h5:RdN W q b5 c5) (hq:q=M∨q=M+1)=>qI x.neg b5 c5 q 0 W h5.1 h5.2.1 h5.2.2.1 (by rcases hq with rfl | rfl<;>omega) (by omega)
 obtain⟨u,hu⟩:∃u,u=(Num.digs 10 x.m).getD (n-1) 0:=⟨_,rfl⟩
 have hTu:∀W a2,TopD W x.m n a2→∃b off,a2=some ⟨b,off,none⟩∧W.cell? ⟨b,off+(n-1),none⟩=some (.int .u8 (u:Int)):=fun W a2 h=>by rw[hu];exact h
 rw[←hu] at ups
 unfold refV at CP ⊢
 rw[←hM] at CP
 rw[hn] at CP ⊢
 obtain⟨up,hup⟩:∃up,up=upB x way:=⟨_,rfl⟩
 rw[←hup]
 obtain⟨d,hQ⟩:∃d,d=plainD x.neg (M+(if up=true then 1 else 0)) 0:=⟨_,rfl⟩
 rw[←hQ]
 replace hQ:=hid hQ
 have hne0:¬ (0:Int)≤-(n:Int):=by omega
 have hn20:n≤20000:=by omega
 have hnz:¬ n=0:=by omega
 replace CP:=hid CP
 replace CO:=hid CO
 replace CA:=hid CA
 replace CM:=hid CM
 replace ups:=hid ups
 replace hup:=hid hup
 replace hTu:=hid hTu
 clear hm h0 hw hM hlM hlM1 hr hu h bx px
 go_enter Tryz.func168,Tryz.ntmps168
 go_upto_region 3 with fail
 go_cut [2,4,5,6] from 8 (fun v2 v4 v5 v6 w'=>∃a1 c1 a2 c2,v2=.pointer (some ⟨w.heap.size,0,none⟩)∧v4=.pointer (some ⟨w.heap.size+1,0,none⟩)∧v5=.slice a1 (Num.digs 10 M).length c1∧v6=.slice a2 n c2∧RdN w' M a1 c1∧TopD w' x.m n a2∧Box1 w w' x)
 case first =>
  go_wp2_with fail
  refine (CP.out _ (((Below.refl _ _).alloc (Nat.le_refl _) _).alloc (by simp) _)).mono ?_
  rintro e1 w1 ⟨a1,c1,a2,c2,rfl,hb1,hr1,ht1⟩
  have B1:=hid (show Box1 w w1 x from ⟨az (af (bZ (ak w _) _) hb1) 0,Rec.below ⟨_,_,_,_,_,_,ax w _ _⟩ hb1,aj (aj hb1)⟩)
  have H1:=hid hr1
  have T1:=hid ht1
  clear hb1 hr1 ht1 CP
  go_wp2_with fail
  go_meet
  case rel=>exact⟨a1,c1,a2,c2,rfl,rfl,rfl,rfl,H1.out,T1.out,B1.out⟩
 case rest =>
  obtain⟨a1,c1,a2,c2,rfl,rfl,rfl,rfl,hr1,ht1,hbx⟩:=hcut
  have H1:=hid hr1
  have B1:=hid hbx
  obtain⟨b,off,rfl,hc⟩:=hTu.out _ _ ht1
  have k0:=hbx.c0
  clear hr1 hbx ht1 hTu CP
  have hnn:(n:Int)-1=((n-1:Nat):Int):=by omega
  have hlt1:((n-1:Nat):Int)<(n:Int):=by omega
  go_upto_block 0 with fail
  go_cut [7] from 8 (fun v7 w'=>v7=.bool up∧Below wc.heap.size wc w')
  case first =>
   obtain⟨e0,e1,e2,e3⟩:=ups.out
   have hu:=hup.out
   have hw4:way=0∨way=1∨way=2∨way=3:=by omega
   rcases hw4 with rfl | rfl | rfl | rfl
   ·rw[e0] at hu
    subst hu
    clear e0 e1 e2 e3 hc
    go_wp2_with fail
    go_meet
    case rel=>exact⟨rfl,Below.refl _ _⟩
   ·rw[e1] at hu
    subst hu
    clear e0 e1 e2 e3 hc
    go_wp2_with fail
    go_meet
    case rel=>exact⟨rfl,Below.refl _ _⟩
   ·rw[e2] at hu
    subst hu
    clear e0 e1 e2 e3 hc
    go_wp2_with fail
    go_meet
    case rel=>exact⟨rfl,Below.refl _ _⟩
   ·rw[e3] at hu
    subst hu
    clear e0 e1 e2 e3
    go_wp2_with fail
    go_meet
    case rel=>exact⟨by simp;omega,Below.refl _ _⟩
  case rest =>
   obtain⟨rfl,hb⟩:=hcut
   replace H1:=hid (H1.out.below hb)
   replace B1:=hid (B1.out.below hb)
   clear hb hc k0 ups hup
   cases up with
   | true =>
    have HQ:=hid (show plainD x.neg (M+1) 0=d by rw[hQ.out];rfl)
    clear hQ
    go_wp2_with fail
    refine (CO.out _).mono ?_
    rintro e5 w5 ho
    obtain⟨a5,c5,rfl,hb5,hr5⟩:=ho.rd
    have H5:=hid hr5
    replace H1:=hid (H1.out.below hb5)
    replace B1:=hid (B1.out.below hb5)
    clear ho hb5 hr5 CO
    go_wp2_with fail
    refine (CA.out _ _ _ _ _ H1.out H5.out).mono ?_
    rintro e6 w6 ho
    obtain⟨a6,c6,rfl,hb6,hr6⟩:=ho.rd
    have H6:=hid hr6
    replace B1:=hid (B1.out.below hb6)
    clear ho hb6 hr6 CA H1 H5
    have k0:=B1.out.c0
    go_wp2_with fail
    refine (CM.out _ _ _ (M+1) H6.out (Or.inr rfl)).mono ?_
    rintro e7 w7 ⟨b7,c7,rfl,hb7,hr7⟩
    replace B1:=hid (B1.out.below hb7)
    rw[HQ.out] at hr7 ⊢
    have H7:=hid hr7
    clear hb7 hr7 CM H6 k0
    obtain⟨_,_,_,p0,p1,p2⟩:=B1.out.rc.cells.get
    have f0:=B1.out.rc.cells.frozen 0
    have f1:=B1.out.rc.cells.frozen 1
    have f2:=B1.out.rc.cells.frozen 2
    unfold refV
    go_wp2
    refine bodyPost_ret (v:=refV d b7 c7) (by simp[results,Tryz.results168,go_sem,p0,p1,p2,refV]) rfl ?_
    exact⟨b7,c7,rfl,aY B1.out.bel (by omega) _ _ _ _ _,H7.out.put B1.out.rc _ _ _ _ _⟩
   | false =>
    have HQ:=hid (show plainD x.neg M 0=d by rw[hQ.out];rfl)
    clear hQ CO CA
    have k0:=B1.out.c0
    go_wp2_with fail
    refine (CM.out _ _ _ M H1.out (Or.inl rfl)).mono ?_
    rintro e7 w7 ⟨b7,c7,rfl,hb7,hr7⟩
    replace B1:=hid (B1.out.below hb7)
    rw[HQ.out] at hr7 ⊢
    have H7:=hid hr7
    clear hb7 hr7 CM H1 k0
    obtain⟨_,_,_,p0,p1,p2⟩:=B1.out.rc.cells.get
    have f0:=B1.out.rc.cells.frozen 0
    have f1:=B1.out.rc.cells.frozen 1
    have f2:=B1.out.rc.cells.frozen 2
    unfold refV
    go_wp2
    refine bodyPost_ret (v:=refV d b7 c7) (by simp[results,Tryz.results168,go_sem,p0,p1,p2,refV]) rfl ?_
    exact⟨b7,c7,rfl,aY B1.out.bel (by omega) _ _ _ _ _,H7.out.put B1.out.rc _ _ _ _ _⟩
theorem sD (x:D)(a:Option Addr)(c:Nat)(w:World)(way:Nat)(hway:way≤3)(h:RdD w x a c)(px:IsPlain x)(bx:(Num.digs 10 x.m).length≤400∧-10400≤x.e∧x.e≤10001) :
  Calls Tryz.prog 168 #[refV x a c,.int .i64 way] w (OutRD w (roundD x way)):=by
 by_cases h0:0≤x.e
 ·exact oH x a c w way h h0
 ·exact oI x a c w way hway h px bx (by omega)
theorem yF (g:Bool)(a:Option Addr)(cap:Nat)(e:Int)(xs:List Nat)(w:World)(way:Nat)(hway:way≤3)(h:U32 w a xs) :
  Calls Tryz.prog 128 #[.agg #[.bool g,.slice a xs.length cap,.int .i64 e],.int .i64 way] w
   (OutDE w (roundR (takenE g xs.length (Num.worth xs) e) (takenD g xs.length (Num.worth xs) e) way).1 (roundR (takenE g xs.length (Num.worth xs) e) (takenD g xs.length (Num.worth xs) e) way).2):=by
 have CT:=fun W (hb:Below w.heap.size w W)=>kS g a cap e xs W (h.below hb)
 have bd:=eP (g:=g) (e:=e) h.lt
 have gd:=(mG g xs.length (Num.worth xs) e).good
 have hz:=bW g xs.length (Num.worth xs) e
 obtain⟨d,hd⟩:∃d,d=takenD g xs.length (Num.worth xs) e:=⟨_,rfl⟩
 obtain⟨er,her⟩:∃r,r=takenE g xs.length (Num.worth xs) e:=⟨_,rfl⟩
 rw[←hd,←her] at CT hz ⊢
 rw[←hd] at bd gd
 obtain⟨r,hr⟩:∃r,r=roundR er d way:=⟨_,rfl⟩
 rw[←hr]
 obtain⟨n,hn⟩:∃n,n=xs.length:=⟨_,rfl⟩
 rw[←hn] at CT ⊢
 replace CT:=hid CT
 replace bd:=hid bd
 replace gd:=hid gd
 replace hz:=hid hz
 replace hr:=hid hr
 clear h hd her hn
 go_enter Tryz.func128,Tryz.ntmps128
 go_upto_region 1 with fail
 go_cut [2,4,6,7] from 8 (fun v2 v4 v6 v7 w'=>∃N b c,v2=.pointer (some ⟨w.heap.size,0,none⟩)∧v4=.pointer (some ⟨w.heap.size+1,0,none⟩)∧v6=.pointer (some ⟨N,0,none⟩)∧v7=.int .i64 er∧HasR w' N d b c∧w.heap.size+1<N∧RdD w' d b c∧Rec w' (w.heap.size+1)∧Below w.heap.size w w')
 case first =>
  go_wp2_with fail
  refine (CT.out _ (((Below.refl _ _).alloc (Nat.le_refl _) _).alloc (by simp) _)).mono ?_
  rintro e1 w1 ⟨b1,c1,rfl,hb1,hr1⟩
  have HB1:=hid (aj (aj hb1))
  have hz1:w.heap.size+1<w1.heap.size:=by have:=hb1.size;simp at this;omega
  have HR:=hid ((show Rec ((w.alloc _).alloc _) (w.heap.size+1) from ⟨_,_,_,_,_,_,ax w _ _⟩).below hb1)
  have HI:=hid hr1
  clear hb1 hr1 CT
  unfold refV
  go_wp2_with fail
  go_meet
  case rel =>
   have k1:=(Below.refl w1.heap.size w1).alloc (Nat.le_refl _) (.cells #[.bool d.neg,.slice b1 (Num.digs 10 d.m).length c1,.int .i64 d.e] 109)
   exact⟨w1.heap.size,b1,c1,rfl,rfl,rfl,rfl,HasR.new _ _ _ _ _,hz1,HI.out.below k1,HR.out.below k1,ae HB1.out k1⟩
 case rest =>
  obtain⟨N,b,c,rfl,rfl,rfl,rfl,hblk,hNl,hrd,hrec,hb⟩:=hcut
  obtain⟨⟨k0,k1,k2⟩,_⟩:=hblk.get
  have z0:=hblk.lt
  obtain⟨r0,r1,r2,p0,p1,p2⟩:=hrec.cells.get
  have f0:=hrec.cells.frozen 0
  have f1:=hrec.cells.frozen 1
  have f2:=hrec.cells.frozen 2
  have HRD:=hid hrd
  have HREC:=hid hrec
  have HB:=hid hb
  clear hblk hrd hrec hb CT
  by_cases h0:er=0
  ·have hne:((er:Int) != 0)=false:=by rw[bne_eq_false_iff_eq];omega
   have CR:=sD d b c wc way hway HRD.out gd.out.1 bd.out
   have rb:=pJ way bd.out
   have hR:=hr.out
   rw[h0,yK gd.out] at hR
   obtain⟨q,hq⟩:∃q,q=roundD d way:=⟨_,rfl⟩
   rw[←hq] at CR rb hR
   obtain⟨t,ht⟩:∃t,t=tellR q:=⟨_,rfl⟩
   have CE:=fun W (ap:Option Addr) (cp:Nat) (hi:RdD W q ap cp)=>BR q ap cp W hi.1 (by omega) (by omega)
   rw[←ht] at CE hR
   unfold OutRD refV at CR
   unfold OutDE refV decV at CE
   have HRT:=hid hR
   replace CR:=hid CR
   replace CE:=hid CE
   clear h0 hr rb hq ht hR
   go_wp2_with fail
   refine CR.out.mono ?_
   rintro e3 w3 ⟨a3,c3,rfl,hb3,hr3⟩
   have HB3:=hid (ae HB.out hb3)
   have HRC3:=hid (HREC.out.below hb3)
   have HR3:=hid hr3
   clear hb3 hr3 CR
   go_wp2_with fail
   refine (CE.out _ _ _ HR3.out).mono ?_
   rintro e4 w4 ⟨a4,c4,rfl,ho4⟩
   have HB4:=hid (ae HB3.out ho4.1)
   have HRC4:=hid (HRC3.out.below ho4.1)
   have hle3:=HB3.out.size
   have hlt3:=HRC3.out.lt
   have HO4:=hid (ay (dQ (R:=w.heap.size+1) ho4.2 (by omega) (.bool t.1.neg) (.slice a4 (Num.limbs t.1.m).length c4) (.int .i64 t.1.e)) (show w.heap.size≤_ by omega))
   clear ho4 CE HR3 p0 p1 p2 f0 f1 f2 HB HREC HRD
   obtain⟨_,_,_,p0,p1,p2⟩:=HRC4.out.cells.get
   have f0:=HRC4.out.cells.frozen 0
   have f1:=HRC4.out.cells.frozen 1
   have f2:=HRC4.out.cells.frozen 2
   go_wp2_with fail
   refine bodyPost_ret (v:=.tuple #[decV t.1 a4 c4,.int .i64 t.2]) (by simp[results,Tryz.results128,go_sem,p0,p1,p2,decV]) rfl ?_
   rw[HRT.out]
   exact⟨a4,c4,rfl,aY HB4.out (by omega) _ _ _ _ _,HO4.out⟩
  ·have hne:((er:Int) != 0)=true:=by rw[bne_iff_ne];omega
   have HR:=hid (show r=(zeroD,er) by
    rw[hr.out,Aj h0]
    rcases hz.out with h | h
    ·exact absurd h h0
    ·rw[h.2])
   clear h0 hr hz
   go_wp2
   refine bodyPost_ret (v:=.tuple #[decV zeroD none 0,.int .i64 er]) (by simp[results,Tryz.results128,go_sem,p0,p1,p2,decV,zeroD];rfl) rfl ?_
   rw[HR.out]
   exact⟨none,0,rfl,aY HB.out (by omega) false none 0 0 0,World.ownsRow_nil _ _ _ _⟩
theorem EJ (g:Bool)(a:Option Addr)(cap:Nat)(e:Int)(xs:List Nat)(w:World)(h:U32 w a xs) :
  Calls Tryz.prog 129 #[.agg #[.bool g,.slice a xs.length cap,.int .i64 e]] w
   (OutIE w (intR (takenE g xs.length (Num.worth xs) e) (takenD g xs.length (Num.worth xs) e)).1 (intR (takenE g xs.length (Num.worth xs) e) (takenD g xs.length (Num.worth xs) e)).2):=by
 have CT:=fun W (hb:Below w.heap.size w W)=>kS g a cap e xs W (h.below hb)
 have bd:=eP (g:=g) (e:=e) h.lt
 have gd:=(mG g xs.length (Num.worth xs) e).good
 obtain⟨d,hd⟩:∃d,d=takenD g xs.length (Num.worth xs) e:=⟨_,rfl⟩
 obtain⟨er,her⟩:∃r,r=takenE g xs.length (Num.worth xs) e:=⟨_,rfl⟩
 rw[←hd,←her] at CT ⊢
 rw[←hd] at bd gd
 obtain⟨r,hr⟩:∃r,r=intR er d:=⟨_,rfl⟩
 rw[←hr]
 obtain⟨n,hn⟩:∃n,n=xs.length:=⟨_,rfl⟩
 rw[←hn] at CT ⊢
 unfold OutIE
 replace CT:=hid CT
 replace bd:=hid bd
 replace gd:=hid gd
 replace hr:=hid hr
 clear h hd her hn
 go_enter Tryz.func129,Tryz.ntmps129
 go_upto_region 1 with fail
 go_cut [1,4,5] from 9 (fun v1 v4 v5 w'=>∃N b c,v1=.pointer (some ⟨w.heap.size,0,none⟩)∧v4=.pointer (some ⟨N,0,none⟩)∧v5=.int .i64 er∧HasR w' N d b c∧RdD w' d b c∧Below w.heap.size w w')
 case first =>
  go_wp2_with fail
  refine (CT.out _ ((Below.refl _ _).alloc (Nat.le_refl _) _)).mono ?_
  rintro e1 w1 ⟨b1,c1,rfl,hb1,hr1⟩
  have HB1:=hid (aj hb1)
  have HI:=hid hr1
  clear hb1 hr1 CT
  unfold refV
  go_wp2_with fail
  go_meet
  case rel =>
   have k1:=(Below.refl w1.heap.size w1).alloc (Nat.le_refl _) (.cells #[.bool d.neg,.slice b1 (Num.digs 10 d.m).length c1,.int .i64 d.e] 109)
   exact⟨w1.heap.size,b1,c1,rfl,rfl,rfl,HasR.new _ _ _ _ _,HI.out.below k1,ae HB1.out k1⟩
 case rest =>
  obtain⟨N,b,c,rfl,rfl,rfl,hblk,hrd,hb⟩:=hcut
  have HN:=hid hblk
  have HRD:=hid hrd
  have HB:=hid hb
  clear hblk hrd hb CT
  obtain⟨⟨k0,k1,k2⟩,_⟩:=HN.out.get
  have z1:=HN.out.lt
  by_cases h0:er=0
  ·have hne:((er:Int) != 0)=false:=by rw[bne_eq_false_iff_eq];omega
   have hR:=hr.out
   unfold intR at hR
   rw[if_neg (by omega)] at hR
   by_cases he:d.e<0
   ·rw[if_pos he] at hR
    have HR:=hid hR
    clear hR h0 hr
    go_wp2
    refine bodyPost_ret (v:=.tuple #[.int .i64 0,.int .i64 9]) (by simp[results,Tryz.results129,go_sem]) rfl ?_
    rw[HR.out]
    exact⟨rfl,HB.out⟩
   ·rw[if_neg he] at hR
    have bx:=bd.out
    have CH:=fun W=>qJ d b c W (by omega) (by omega)
    unfold refV at CH
    have zx:(Num.digs 10 d.m).length=0 ↔ d.m=0:=by rw[List.length_eq_zero_iff];exact Num.digs_eq_nil (by decide)
    obtain⟨hU,hhU⟩:∃h,h=headD d:=⟨_,rfl⟩
    have hUe:hU=d.e+(Num.digs 10 d.m).length-1:=hhU
    rw[←hhU] at CH
    obtain⟨bad,hbad⟩:∃v,v=(decide (0<(Num.digs 10 d.m).length) && decide (16<hU)):=⟨_,rfl⟩
    obtain⟨L,hL⟩:∃L,L=(Num.digs 10 d.m).length:=⟨_,rfl⟩
    rw[←hL] at CH k1 hUe hbad hR zx
    have CH:=hid CH
    have HBAD:=hid hbad
    have HUE:=hid hUe
    have HLE:=hid hL
    have HRR:=hid hR
    have ZX:=hid zx
    have HB0:=hid he
    clear hhU hbad hUe hL hR zx hr h0 bx he
    go_upto_region 6 with fail
    go_cut [28] from 9 (fun v w'=>v=.bool bad∧Below wc.heap.size wc w')
    case first =>
     by_cases hl:0<L
     ·have il:(0:Int)<(L:Int):=by omega
      go_wp2_with fail
      refine (CH.out _).mono ?_
      rintro e3 w3 ⟨rfl,hb3⟩
      have B3:=hid hb3
      clear hb3 CH
      go_wp2_with fail
      go_meet
      case rel=>exact⟨by rw[HBAD.out];simp[hl],B3.out⟩
     ·have il:¬ (0:Int)<(L:Int):=by omega
      go_wp2_with fail
      go_meet
      case rel=>exact⟨by rw[HBAD.out];simp;omega,Below.refl _ _⟩
    case rest =>
     obtain⟨rfl,hb⟩:=hcut
     replace HN:=hid (HN.out.below hb)
     replace HRD:=hid (HRD.out.below hb)
     replace HB:=hid (ae HB.out hb)
     clear hb k0 k1 k2 z1 CH
     cases bad with
     | true =>
      have h17:16<d.e+(L:Int):=by
       have h1:=HBAD.out.symm
       simp only[Bool.and_eq_true,decide_eq_true_eq] at h1
       have:=HUE.out
       omega
      have HR:=hid (show r=(0,3) by rw[HRR.out,if_pos h17])
      clear h17 HRR
      go_wp2
      refine bodyPost_ret (v:=.tuple #[.int .i64 0,.int .i64 3]) (by simp[results,Tryz.results129,go_sem]) rfl ?_
      rw[HR.out]
      exact⟨rfl,HB.out⟩
     | false =>
      have h17:L=0∨d.e+(L:Int)≤17:=by
       have h1:=HBAD.out
       by_cases hl:0<L
       ·right
        simp[hl] at h1
        have:=HUE.out
        omega
       ·left;omega
      have hsh:d.m * 10 ^ d.e.toNat=wholeN d:=by
       show _=if 0≤d.e then _ else _
       rw[if_pos (by have:=HB0.out;omega)]
      have he0:0≤d.e:=by have:=HB0.out;omega
      have hW:(Num.digs 10 (wholeN d)).length≤17:=by
       rcases h17 with h | h
       ·rw[←hsh,ZX.out.1 h,Nat.zero_mul,Num.digs_zero];simp
       ·by_cases hm:d.m=0
        ·rw[←hsh,hm,Nat.zero_mul,Num.digs_zero];simp
        ·have h1:=Num.digs_length_mul_pow (b:=10) (by decide) hm d.e.toNat
         rw[hsh,←HLE.out] at h1
         omega
      have hWlt:=(Num.digs_length_le (b:=10) (by decide)).1 hW
      have hbig:16<d.e+(L:Int)→9007199254740992<wholeN d∨d.m=0:=fun h=>by
       by_cases hm:d.m=0
       ·exact Or.inr hm
       ·left
        have h1:=Num.digs_length_mul_pow (b:=10) (by decide) hm d.e.toNat
        rw[hsh,←HLE.out] at h1
        have h2:=Num.pow_le_of_lt_length (b:=10) (n:=wholeN d) (k:=16) (by decide) (by omega)
        omega
      have hzero:d.m=0→d.e=0∧L=0:=fun h=>by
       have:=gd.out.1.1 h
       exact⟨by rw[this];rfl,ZX.out.2 h⟩
      have hfin:r=if 9007199254740992<wholeN d then (0,3) else (if d.neg=true then -((wholeN d:Nat):Int) else ((wholeN d:Nat):Int),0):=by
       rw[HRR.out]
       by_cases h:16<d.e+(L:Int)
       ·rw[if_pos h]
        rcases hbig h with h1 | h1
        ·rw[if_pos h1]
        ·have:=hzero h1
         omega
       ·rw[if_neg h]
      have hmE:d.e.toNat≤1000000:=by have:=bd.out;omega
      have hmL:(Num.digs 10 d.m).length≤1000000:=by have:=bd.out;omega
      have CS:∀W,Below wc.heap.size wc W→Calls Tryz.prog 170 #[.slice b (Num.digs 10 d.m).length c,.int .i64 d.e] W (OutR8 W (Num.digs 10 (wholeN d))):=fun W hb=>by
       have h:=oJ b c d.m d.e.toNat W (HRD.out.below hb).1 HRD.out.2.2.2 (by omega) (by omega)
       rw[show ((d.e.toNat:Nat):Int)=d.e by omega,hsh] at h
       exact h
      obtain⟨⟨k0,k1,k2⟩,_⟩:=HN.out.get
      have z1:=HN.out.lt
      obtain⟨V,hV⟩:∃V,V=wholeN d:=⟨_,rfl⟩
      rw[←hV] at CS hfin hWlt hW
      have CS:=hid CS
      have HFIN:=hid hfin
      clear h17 hsh hbig hzero hfin hmE hmL hV HRR ZX HRD
      go_wp2_with fail
      refine (CS.out _ (Below.refl _ _)).mono ?_
      rintro e5 w5 ho
      obtain⟨a5,c5,rfl,hb5,hr5⟩:=ho.rd
      replace HN:=hid (HN.out.below hb5)
      replace HB:=hid (ae HB.out hb5)
      have CX:=fun j (hj:j<(Num.digs 10 V).length)=>hr5.1.spot hj
      have HS:=fun j (hj:j<(Num.digs 10 V).length)=>yH (m:=V) hj
      have BX:=fun k=>hr5.1.getD_lt k
      have hVL:V / 10 ^ (Num.digs 10 V).length=0:=Nat.div_eq_of_lt (Num.lt_pow_length (by decide) V)
      obtain⟨LV,hLV⟩:∃l,l=(Num.digs 10 V).length:=⟨_,rfl⟩
      rw[←hLV] at CX HS hVL hW ⊢
      replace CX:=hid CX
      replace HS:=hid HS
      replace BX:=hid BX
      replace hVL:=hid hVL
      clear ho hb5 hr5 CS k0 k1 k2 z1 hLV
      go_wp2
      go_loop [6,8] (fun nv iv=>∃k:Nat,k≤LV∧iv=.int .i64 ((k:Int)-1)∧nv=.int .i64 ((V / 10 ^ k:Nat):Int)) (fun _ iv=>(intOf iv+1).toNat)
      case atStart=>exact⟨LV,Nat.le_refl _,by go_num,by rw[hVL.out];rfl⟩
      case round =>
       obtain⟨k,hk,rfl,rfl⟩:=hrel
       by_cases hk0:k=0
       ·subst hk0
        have hV0:V / 10 ^ 0=V:=by rw[Nat.pow_zero,Nat.div_one]
        rw[hV0]
        obtain⟨⟨k0,k1,k2⟩,_⟩:=HN.out.get
        have z1:=HN.out.lt
        by_cases hbig:9007199254740992<V
        ·have HR:=hid (show r=(0,3) by rw[HFIN.out,if_pos hbig])
         have ib:(9007199254740992:Int)<(V:Int):=by omega
         clear HFIN hbig
         go_wp2
         refine bodyPost_ret (v:=.tuple #[.int .i64 0,.int .i64 3]) (by simp[results,Tryz.results129,go_sem]) rfl ?_
         rw[HR.out]
         exact⟨rfl,HB.out⟩
        ·have hR:=HFIN.out
         rw[if_neg hbig] at hR
         have ib:¬ (9007199254740992:Int)<(V:Int):=by omega
         clear HFIN hbig
         cases hg:d.neg with
         | true =>
          rw[hg] at hR k0
          have HR:=hid (show r=(-(V:Int),0) from hR)
          clear hR hg
          go_wp2
          refine bodyPost_ret (v:=.tuple #[.int .i64 (-(V:Int)),.int .i64 0]) (by simp[results,Tryz.results129,go_sem]) rfl ?_
          rw[HR.out]
          exact⟨rfl,HB.out⟩
         | false =>
          rw[hg] at hR k0
          have HR:=hid (show r=((V:Int),0) from hR)
          clear hR hg
          go_wp2
          refine bodyPost_ret (v:=.tuple #[.int .i64 (V:Int),.int .i64 0]) (by simp[results,Tryz.results129,go_sem]) rfl ?_
          rw[HR.out]
          exact⟨rfl,HB.out⟩
       ·obtain⟨j,rfl⟩:∃j,k=j+1:=⟨k-1,by omega⟩
        have hj:j<LV:=by omega
        obtain⟨b0,off,rfl,hc⟩:=CX.out j hj
        have hst:=HS.out j hj
        have hu9:=BX.out j
        obtain⟨u,hu⟩:∃u,u=(Num.digs 10 V).getD j 0:=⟨_,rfl⟩
        rw[←hu] at hc hst hu9
        have hle:=Nat.div_le_self V (10 ^ j)
        obtain⟨q,hq⟩:∃q,q=V / 10 ^ (j+1):=⟨_,rfl⟩
        rw[←hq] at hst ⊢
        have hq9:10 * q+u≤100000000000000000:=by omega
        have hi1:((j+1:Nat):Int)-1=(j:Int):=by omega
        have HST:=hid hst
        clear hst hu hq hle CX HS BX HFIN
        go_wp2
        go_round
        case rel=>exact⟨j,by omega,by go_num,by rw[HST.out];go_num⟩
        case measure=>simp[intOf]
  ·have hne:((er:Int) != 0)=true:=by rw[bne_iff_ne];omega
   have HR:=hid (show r=(0,er) by rw[hr.out];unfold intR;rw[if_pos h0])
   clear h0 hr
   go_wp2
   refine bodyPost_ret (v:=.tuple #[.int .i64 0,.int .i64 er]) (by simp[results,Tryz.results129,go_sem]) rfl ?_
   rw[HR.out]
   exact⟨rfl,HB.out⟩
end Go.Proofs.YtcgbmmalfbpjaaaGreatDoor
