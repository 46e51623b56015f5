/-  -/
import Derived.Test.YtcgbmmalfbpjaaaGreatDoorMa
import Derived.Test.YtcgbmmalfbpjaaaGreatDoorMb
set_option maxRecDepth 100000
set_option maxHeartbeats 16000000
namespace Go.Proofs.YtcgbmmalfbpjaaaGreatDoor
open Go.RowKit
def nearB (n:Nat) (e:Int):Bool:=decide (n≤200) && decide (-30000≤e) && decide (e≤30000)
theorem Bv (g:Bool)(a:Option Addr)(n cap:Nat)(e:Int)(w:World) :
  Calls Tryz.prog 147 #[.agg #[.bool g,.slice a n cap,.int .i64 e]] w fun en w'=>en=.returned (.bool (nearB n e))∧Below w.heap.size w w':=by
 by_cases h1:n≤200
 ·by_cases h2:-30000≤e
  ·have hr:nearB n e=decide (e≤30000):=by simp[nearB,h1,h2]
   rw[hr]
   clear hr
   go_enter Tryz.func147,Tryz.ntmps147
   go_wp2
   go_ret
   exact⟨rfl,(Below.refl _ _).alloc (Nat.le_refl _) _⟩
  ·have hr:nearB n e=false:=by simp[nearB,h2]
   rw[hr]
   clear hr
   go_enter Tryz.func147,Tryz.ntmps147
   go_wp2
   go_ret
   exact⟨rfl,(Below.refl _ _).alloc (Nat.le_refl _) _⟩
 ·have hr:nearB n e=false:=by simp[nearB,h1]
  rw[hr]
  clear hr
  go_enter Tryz.func147,Tryz.ntmps147
  go_wp2
  go_ret
  exact⟨rfl,(Below.refl _ _).alloc (Nat.le_refl _) _⟩
def tz (m:Nat):Nat:=((Num.digs 10 m).takeWhile (· == 0)).length
theorem Bz {d:Nat}(h:d<10):(Num.chr d == 48)=(d == 0):=by
 have:d=0∨d=1∨d=2∨d=3∨d=4∨d=5∨d=6∨d=7∨d=8∨d=9:=by omega
 rcases this with rfl | rfl | rfl | rfl | rfl | rfl | rfl | rfl | rfl | rfl<;>rfl
theorem BA (xs:List Nat)(h:∀x ∈ xs,x<10):((xs.map Num.chr).dropWhile (· == 48)).length+(xs.takeWhile (· == 0)).length=xs.length:=by
 induction xs with
 | nil=>rfl
 | cons x xs ih =>
  have h1:=Bz (h x (by simp))
  have h2:=ih (fun y hy=>h y (by simp[hy]))
  simp only[List.map_cons,List.dropWhile_cons,List.takeWhile_cons,h1]
  by_cases hx:(x == 0)=true
  ·simp only[hx,if_true,List.length_cons];omega
  ·simp[hx]
theorem qH (m:Nat)(hm:m≠0):(Lib.trimRightB (Lib.decDigits m) 48).length+tz m=(Lib.decDigits m).length:=by
 rw[Num.decDigits_digs m hm]
 unfold Lib.trimRightB tz
 have:=BA (Num.digs 10 m) (Num.digs_lt (by decide) m)
 simpa using this
theorem BB (m:Nat):tz m≤(Num.digs 10 m).length:=by
 unfold tz
 exact (List.takeWhile_prefix _).length_le
theorem sD (m:Nat)(hm:m≠0)(hl:(Num.digs 10 m).length≤1000000000)(w:World) :
  Calls Tryz.prog 113 #[.string ⟨(Lib.decDigits m).toArray⟩] w fun en w'=>en=.returned (.int .i64 (tz m))∧w=w':=by
 obtain⟨D,hD⟩:∃D,D=Lib.decDigits m:=⟨_,rfl⟩
 have hDl:D.length≤1000000000:=by rw[hD,Num.decDigits_len m hm];exact hl
 have C:=Tryz.strings_TrimRight_one ⟨D.toArray⟩ 48 (by decide) w (by simp[ByteArray.size];omega)
 obtain⟨T,hT⟩:∃T,T=Lib.trimRightB D 48:=⟨_,rfl⟩
 have hmath:T.length+tz m=D.length:=by rw[hT,hD];exact qH m hm
 rw[←hD]
 have e0:(⟨D.toArray⟩:ByteArray).data.toList=D:=rfl
 rw[e0,←hT] at C
 have C:=hid C
 clear hD hT e0
 have hmi:(D.length:Int)-(T.length:Int)=(tz m:Int):=by omega
 have HM:=hid hmi
 have hTl:T.length≤D.length:=by omega
 clear hmath hmi
 go_enter Tryz.func113,Tryz.ntmps113
 go_wp2_with (go_at_call 151;refine C.out.mono ?_;rintro e w' ⟨rfl,rfl⟩)
 go_ret
 exact⟨iy HM.out,rfl⟩
structure D where
 neg:Bool
 m:Nat
 e:Int
def plainD (neg:Bool) (m:Nat) (e:Int):D:=if m=0 then ⟨false,0,0⟩ else ⟨neg,m / 10 ^ tz m,e+tz m⟩
def decV (d:D) (a:Option Addr) (cap:Nat):Value:=.agg #[.bool d.neg,.slice a (Num.limbs d.m).length cap,.int .i64 d.e]
def OwnD (w w':World) (d:D) (a:Option Addr) (cap:Nat):Prop :=
 Below w.heap.size w w'∧w'.ownsRow w.heap.size 166 1 (.slice a (Num.limbs d.m).length cap) (Num.limbs d.m).length (u32s (Num.limbs d.m))
def OutD (w:World) (d:D) (e:Ending) (w':World):Prop:=∃a cap,e=.returned (decV d a cap)∧OwnD w w' d a cap
theorem ku (g:Bool)(a:Option Addr)(cap:Nat)(e:Int)(xs:List Nat)(w:World)(h:U32 w a xs)(hl:xs.length≤10000000)(hd:(Num.digs 10 (Num.worth xs)).length≤30000)(he:-3000000≤e∧e≤3000000)(htab:Pow w) :
  Calls Tryz.prog 71 #[.bool g,.slice a xs.length cap,.int .i64 e] w (OutD w (plainD g (Num.worth xs) e)):=by
 have l1:=dh h.lt (Nat.le_refl _)
 have CN:=fun W (hb:Below w.heap.size w W)=>bY a cap xs W (h.below hb) (by omega)
 obtain⟨m,hm⟩:∃m,m=Num.worth xs:=⟨_,rfl⟩
 rw[←hm] at CN l1 hd ⊢
 have HTAB:=hid htab
 have CN:=hid CN
 by_cases h0:m=0
 ·subst h0
  clear hm h htab
  go_enter Tryz.func71,Tryz.ntmps71
  go_wp2_with fail
  refine (CN.out _ ((Below.refl _ _).alloc (Nat.le_refl _) _)).mono ?_
  rintro e w1 ⟨a1,c1,rfl,hb1,ho1⟩
  obtain⟨hc,hf⟩:=bcell hb1
  go_wp2
  refine bodyPost_ret (v:=.agg #[.bool false,.slice none 0 0,.int .i64 0]) (by simp[results,Tryz.results71,go_sem,hc]) rfl ⟨none,0,rfl,?_,World.ownsRow_nil _ _ _ _⟩
  exact (((ak hb1).setCell (Nat.le_refl _) _).setCell (Nat.le_refl _) _).setCell (Nat.le_refl _) _
 ·have hpl:plainD g m e=⟨g,m / 10 ^ tz m,e+tz m⟩:=by unfold plainD;rw[if_neg h0]
  have htz:=BB m
  have CC:∀W a1 c1 n,n=tz m→U32 W a1 (Num.limbs m)→Calls Tryz.prog 115 #[.slice a1 (Num.limbs m).length c1,.int .i64 n] W (OutUUE W (Num.limbs (m / 10 ^ n)) (Num.limbs (m % 10 ^ n)) 0):=fun W a1 c1 n hn hu=>by
   have:=sF a1 c1 n (Num.limbs m) W hu (by omega) (by omega) (by rw[Num.worth_limbs];exact h0)
   rwa [Num.worth_limbs] at this
  have CT:∀W a1 c1,U32 W a1 (Num.limbs m)→Pow W→Calls Tryz.prog 114 #[.slice a1 (Num.limbs m).length c1] W fun e w'=>e=.returned (.string ⟨(Lib.decDigits m).toArray⟩)∧Below W.heap.size W w':=fun W a1 c1 hu hp=>by
   have:=oV a1 c1 (Num.limbs m) W hu (by omega) hp
   rwa [Num.worth_limbs] at this
  have CNG:=fun W=>sD m h0 (by omega) W
  obtain⟨n,hn⟩:∃n,n=tz m:=⟨_,rfl⟩
  have hL0:((Num.limbs m).length:Int)≠0:=by
   intro e
   exact h0 ((Num.digs_eq_nil Num.two_le_B9).1 (List.length_eq_zero_iff.1 (Int.ofNat_eq_zero.1 e)))
  have hL0':(((Num.limbs m).length:Int) == 0)=false:=by rw[beq_eq_false_iff_ne];exact hL0
  obtain⟨M,hM⟩:∃M,M=Num.limbs (m / 10 ^ n):=⟨_,rfl⟩
  have hCC:=fun W a1 c1=>CC W a1 c1 n hn
  rw[←hn] at CNG hpl htz
  rw[hpl]
  rw[←hM] at hCC
  obtain⟨T,hT⟩:∃T,T=Lib.decDigits m:=⟨_,rfl⟩
  rw[←hT] at CNG CT
  obtain⟨X,hX⟩:∃X,X=Num.limbs m:=⟨_,rfl⟩
  have UX:∀W b a1 c1,W.ownsRow b 166 1 (.slice a1 X.length c1) X.length (u32s X)→U32 W a1 X:=fun W b a1 c1 ho=>by rw[hX] at ho ⊢;exact aS ho
  rw[←hX] at CN CT hCC hL0'
  have CN:=hid CN
  have CT:=hid CT
  have CNG:=hid CNG
  have CC:=hid hCC
  have UX:=hid UX
  have HM:=hid hM
  clear hm h htab h0 hT hX hn hpl hM hL0 hCC
  go_enter Tryz.func71,Tryz.ntmps71
  go_wp2_with fail
  refine (CN.out _ ((Below.refl _ _).alloc (Nat.le_refl _) _)).mono ?_
  rintro e1 w1 ⟨a1,c1,rfl,hb1,ho1⟩
  have HO1:=hid (aG ho1 (show w.heap.size≤_ by simp))
  have HB1:=hid (ak hb1)
  have HK1:=hid (af (aj w _) hb1)
  have hz1:w.heap.size+1≤w1.heap.size:=by simpa using hb1.size
  clear hb1 ho1
  go_wp2_with fail
  refine (CT.out w1 a1 c1 (UX.out _ _ _ _ HO1.out) (HTAB.out.next HB1.out)).mono ?_
  rintro e2 w2 ⟨rfl,hb2⟩
  have HO2:=hid (aH HO1.out hb2)
  have HB2:=hid (ae HB1.out hb2)
  have HK2:=hid (af HK1.out hb2)
  have hz2:w.heap.size+1≤w2.heap.size:=Nat.le_trans hz1 hb2.size
  clear hb2 HO1 HB1 HK1
  go_wp2_with fail
  refine (CNG.out w2).mono ?_
  rintro e3 w3 ⟨rfl,rfl⟩
  go_wp2_with fail
  refine (CC.out w2 a1 c1 (UX.out _ _ _ _ HO2.out)).mono ?_
  rintro e4 w4 ⟨a4,c4,a5,c5,rfl,hb4,ho4,ho5⟩
  have HO4:=hid (aG ho4 hz2)
  have HB4:=hid (ae HB2.out hb4)
  have hk4:=aN (af HK2.out hb4)
  obtain⟨⟨k0,k1,k2⟩,f0,f1,f2⟩:=hk4
  clear hb4 ho4 ho5 HO2 HB2 HK2
  go_wp2
  refine bodyPost_ret (v:=.agg #[.bool g,.slice a4 M.length c4,.int .i64 (e+n)]) (by simp[results,Tryz.results71,go_sem,k0,k1,k2]) rfl ?_
  rw[HM.out] at HO4 ⊢
  refine⟨a4,c4,rfl,?_,?_⟩
  ·exact ((HB4.out.setCell (Nat.le_refl _) _).setCell (Nat.le_refl _) _).setCell (Nat.le_refl _) _
  ·refine aG (base:=w.heap.size+1) ?_ (by omega)
   exact ownsRow_setCell_below (ownsRow_setCell_below (ownsRow_setCell_below HO4.out (Nat.lt_succ_self _) _) (Nat.lt_succ_self _) _) (Nat.lt_succ_self _) _
structure InD (w:World) (d:D) (a:Option Addr) (cap:Nat):Prop where
 u:U32 w a (Num.limbs d.m)
theorem InD.below {w w':World}{d:D}{a:Option Addr}{cap:Nat}(h:InD w d a cap)(hb:Below w.heap.size w w'):InD w' d a cap:=⟨h.u.below hb⟩
theorem OwnD.inD {w w':World}{d:D}{a:Option Addr}{cap:Nat}(h:OwnD w w' d a cap):InD w' d a cap:=⟨aS h.2⟩
theorem kz {w w':World}{o:Obj}(h:Below (w.alloc o).drew.heap.size (w.alloc o).drew w'):Below w.heap.size w w' :=
 (((Below.refl _ _).alloc (Nat.le_refl _) o).drew).trans (h.mono (by simp))
theorem FB {w W' w1:World}{N:Nat}{x y:Value}(h:W'.cell? ⟨N,1,none⟩=some x∧W'.cell? ⟨N,2,none⟩=some y∧Below w.heap.size w W')(hb:Below W'.heap.size W' w1) :
  w1.cell? ⟨N,1,none⟩=some x∧w1.cell? ⟨N,2,none⟩=some y∧Below w.heap.size w w1 :=
 ⟨(hb.cell (ax h.1)).trans h.1,(hb.cell (ax h.2.1)).trans h.2.1,ae h.2.2 hb⟩
theorem sG (g:Bool)(a:Option Addr)(cap:Nat)(e:Int)(xs:List Nat)(w:World)(h:U32 w a xs)(hl:xs.length≤10000000)(he:-3000000≤e∧e≤3000000)(hd:(Num.digs 10 (Num.worth xs)).length≤1000000000)(htab:Pow w) :
  Calls Tryz.prog 172 #[.agg #[.bool g,.slice a xs.length cap,.int .i64 e]] w fun en w'=>en=.returned (.int .i64 (e+(Num.digs 10 (Num.worth xs)).length-1))∧Below w.heap.size w w':=by
 have CD:=fun W (hb:Below w.heap.size w W)=>gU a cap xs W (h.below hb) (by omega) (htab.next hb)
 obtain⟨n,hn⟩:∃n,n=(Num.digs 10 (Num.worth xs)).length:=⟨_,rfl⟩
 rw[←hn] at CD hd ⊢
 have CD:=hid CD
 clear hn h htab
 have hw1:IntKind.i64.wrap (e+(n:Int))=e+(n:Int):=IntWalk.i64_in _ (by omega)
 have hw2:IntKind.i64.wrap (e+(n:Int)-1)=e+(n:Int)-1:=IntWalk.i64_in _ (by omega)
 go_enter Tryz.func172,Tryz.ntmps172
 go_wp2_with fail
 go_region_held3 (fun w'=>w'.cell? ⟨w.heap.size,1,none⟩=some (.slice a xs.length cap)∧w'.cell? ⟨w.heap.size,2,none⟩=some (.int .i64 e)∧Below w.heap.size w w') (first | (exact⟨by simp,by simp,((Below.refl _ _).alloc (Nat.le_refl _) _).drew⟩) | (exact FB (by assumption) (by assumption))) ((go_at_call 161;refine (CD.out _ ?_).mono ?_;(simp only[*]);rintro e w' ⟨rfl,hb⟩))
 clear hw1 hw2
 go_wp2
 go_ret
 exact⟨rfl,kz hb⟩
theorem iP (m:Nat):(Num.digs 10 m).length≤9 * (Num.limbs m).length:=by
 rw[Num.digs_length_le (by decide)]
 have h1:=aT.1 (Nat.le_refl (Num.limbs m).length)
 have h2:Num.B9 ^ (Num.limbs m).length=10 ^ (9 * (Num.limbs m).length):=by rw[Nat.pow_mul];rfl
 rwa [h2] at h1
def fitsB (d:D):Bool:=decide (d.m=0) || (decide ((Num.digs 10 d.m).length≤400) && decide (-10000≤d.e+(Num.digs 10 d.m).length-1) && decide (d.e+(Num.digs 10 d.m).length-1≤10000))
theorem BC (d:D)(a:Option Addr)(cap:Nat)(w:World)(h:InD w d a cap)(hl:(Num.limbs d.m).length≤10000000)(he:-3000000≤d.e∧d.e≤3000000)(htab:Pow w) :
  Calls Tryz.prog 148 #[decV d a cap] w fun en w'=>en=.returned (.bool (fitsB d))∧Below w.heap.size w w':=by
 obtain⟨g,m,e⟩:=d
 simp only at he hl
 unfold decV
 dsimp only
 by_cases h0:m=0
 ·subst h0
  have hf:fitsB ⟨g,0,e⟩=true:=by simp[fitsB]
  rw[hf]
  have hL:Num.limbs 0=[]:=rfl
  rw[hL]
  clear hf h hL
  go_enter Tryz.func148,Tryz.ntmps148
  go_wp2
  go_ret
  exact⟨rfl,(Below.refl _ _).alloc (Nat.le_refl _) _⟩
 ·have hu:U32 w a (Num.limbs m):=h.u
  have hdl9:=iP m
  have hdl:(Num.digs 10 m).length≤1000000000:=by omega
  have CD:=fun W (hb:Below w.heap.size w W)=>gU a cap (Num.limbs m) W (hu.below hb) (by omega) (htab.next hb)
  have CH:=fun W (hb:Below w.heap.size w W)=>sG g a cap e (Num.limbs m) W (hu.below hb) hl he (by rw[Num.worth_limbs];exact hdl) (htab.next hb)
  rw[Num.worth_limbs] at CD CH
  have hf:fitsB ⟨g,m,e⟩=(decide ((Num.digs 10 m).length≤400) && decide (-10000≤e+(Num.digs 10 m).length-1) && decide (e+(Num.digs 10 m).length-1≤10000)):=by simp[fitsB,h0]
  rw[hf]
  obtain⟨n,hn⟩:∃n,n=(Num.digs 10 m).length:=⟨_,rfl⟩
  rw[←hn] at CD CH hdl ⊢
  have hL0:(((Num.limbs m).length:Int) == 0)=false:=by
   rw[beq_eq_false_iff_ne];intro e
   exact h0 ((Num.digs_eq_nil Num.two_le_B9).1 (List.length_eq_zero_iff.1 (Int.ofNat_eq_zero.1 e)))
  obtain⟨L,hL⟩:∃L,L=(Num.limbs m).length:=⟨_,rfl⟩
  rw[←hL] at CD CH hL0 hl ⊢
  have CD:=hid CD
  have CH:=hid CH
  clear hf hn hL hu h htab h0
  obtain⟨H,hH⟩:∃H,H=e+(n:Int)-1:=⟨_,rfl⟩
  rw[←hH] at CH ⊢
  clear hH
  obtain⟨b,hb⟩:∃b:Bool,(decide (n≤400) && decide (-10000≤H) && decide (H≤10000))=b:=⟨_,rfl⟩
  rw[hb]
  have HBB:=hid hb
  clear hb
  have d:(n≤400∧-10000≤H)∨(n≤400∧H≤-10001)∨401≤n:=by omega
  rcases d with ⟨h1,h2⟩ | ⟨h1,h2⟩ | h1
  all_goals
   go_enter Tryz.func148,Tryz.ntmps148
   go_wp2_with fail
   refine (CH.out _ ((Below.refl _ _).alloc (Nat.le_refl _) _)).mono ?_
   rintro e1 w1 ⟨rfl,hb1⟩
   have HB1:=hid (ak hb1)
   have hk:=ay (af (aj w _) hb1) 1
   clear hb1
   go_wp2_with fail
   refine (CD.out w1 HB1.out).mono ?_
   rintro e2 w2 ⟨rfl,hb2⟩
   have HB2:=hid (ae HB1.out hb2)
   clear hb2 hk HB1
   go_wp2
   go_ret
   exact⟨dF (by rw[←HBB.out];first | (simp;omega) | (simp;done)),HB2.out⟩
def zeroD:D:=⟨false,0,0⟩
def takenE (g:Bool) (n m:Nat) (e:Int):Nat:=if nearB n e=true then (if fitsB (plainD g m e)=true then 0 else 3) else 1
def takenD (g:Bool) (n m:Nat) (e:Int):D:=if nearB n e=true then (if fitsB (plainD g m e)=true then plainD g m e else zeroD) else zeroD
def OutDE (w:World) (d:D) (err:Nat) (e:Ending) (w':World):Prop:=∃a cap,e=.returned (.tuple #[decV d a cap,.int .i64 err])∧OwnD w w' d a cap
theorem iZ {xs:List Nat}(h:∀x ∈ xs,x<4294967296)(hl:xs.length≤200):(Num.digs 10 (Num.worth xs)).length≤1809∧(Num.limbs (Num.worth xs)).length≤201:=by
 have h1:=dh h (Nat.le_refl _)
 have h2:=iP (Num.worth xs)
 omega
theorem eX {n:Nat}{e:Int}:nearB n e=true ↔ n≤200∧-30000≤e∧e≤30000:=by simp[nearB,and_assoc]
theorem yf (g:Bool)(m:Nat)(e:Int)(hd:(Num.digs 10 m).length≤30000)(he:-30000≤e∧e≤30000):-30000≤(plainD g m e).e∧(plainD g m e).e≤60000:=by
 unfold plainD
 split
 ·simp
 ·have:=BB m;dsimp only;omega
theorem fO (g:Bool)(m:Nat)(e:Int):(plainD g m e).m≤m:=by
 unfold plainD
 split
 ·simp
 ·exact Nat.div_le_self _ _
theorem kC (g:Bool)(a:Option Addr)(cap:Nat)(e:Int)(xs:List Nat)(w:World)(h:U32 w a xs)(htab:Pow w) :
  Calls Tryz.prog 109 #[.agg #[.bool g,.slice a xs.length cap,.int .i64 e]] w (OutDE w (takenD g xs.length (Num.worth xs) e) (takenE g xs.length (Num.worth xs) e)):=by
 have CN:=fun W=>Bv g a xs.length cap e W
 by_cases hn:nearB xs.length e=true
 ·obtain⟨h1,h2,h3⟩:=eX.1 hn
  obtain⟨hb1,hb2⟩:=iZ h.lt h1
  have CP:=fun W (hb:Below w.heap.size w W)=>ku g a cap e xs W (h.below hb) (by omega) (by omega) (by omega) (htab.next hb)
  have pe:=yf g (Num.worth xs) e (by omega) ⟨h2,h3⟩
  have pm:=fO g (Num.worth xs) e
  have hD:takenD g xs.length (Num.worth xs) e=if fitsB (plainD g (Num.worth xs) e)=true then plainD g (Num.worth xs) e else zeroD:=by unfold takenD;rw[if_pos hn]
  have hE:takenE g xs.length (Num.worth xs) e=if fitsB (plainD g (Num.worth xs) e)=true then 0 else 3:=by unfold takenE;rw[if_pos hn]
  have hlm:(Num.limbs (plainD g (Num.worth xs) e).m).length≤201:=Nat.le_trans (Num.digs_length_mono Num.two_le_B9 pm) hb2
  rw[hD,hE]
  rw[hn] at CN
  obtain⟨d,hd⟩:∃d,d=plainD g (Num.worth xs) e:=⟨_,rfl⟩
  rw[←hd] at CP pe hlm ⊢
  have CF:=fun W a1 c1 (hi:InD W d a1 c1) (hp:Pow W)=>BC d a1 c1 W hi (by omega) (by omega) hp
  have CP:=hid CP
  have CN:=hid CN
  have HTAB:=hid htab
  clear hD hE hn hd pm h htab h1 hb1 hb2 h2 h3
  by_cases hf:fitsB d=true
  ·rw[if_pos hf,if_pos hf]
   rw[hf] at CF
   have CF:=hid CF
   clear hf
   go_enter Tryz.func109,Tryz.ntmps109
   go_wp2_with fail
   refine (CN.out _).mono ?_
   rintro e1 w1 ⟨rfl,hb1⟩
   have HB1:=hid (ak (ak hb1))
   have hk:=aN (af (dU (aj w _) _) hb1)
   have HK:=hid (af (aB w _ _) hb1)
   have hz1:w.heap.size+2≤w1.heap.size:=by simpa using hb1.size
   obtain⟨⟨k0,k1,k2⟩,_⟩:=hk
   clear hb1 CN
   go_wp2_with fail
   refine (CP.out w1 HB1.out).mono ?_
   rintro e2 w2 ⟨a1,c1,he,ho⟩
   unfold decV at he
   subst he
   have HK2:=hid (af HK.out ho.1)
   have HO:=hid (aG ho.2 hz1)
   have HB2:=hid (ae HB1.out ho.1)
   have HI:=hid ho.inD
   have hz2:w.heap.size+2≤w2.heap.size:=Nat.le_trans hz1 ho.1.size
   clear ho k0 k1 k2 HK CP HB1 hz1
   go_wp2_with fail
   refine (CF.out _ a1 c1 (HI.out.below ((Below.refl _ _).alloc (Nat.le_refl _) _)) ((HTAB.out.next HB2.out).alloc _)).mono ?_
   rintro e3 w3 ⟨rfl,hb3⟩
   have hp:=aN (af (aj w2 _) hb3)
   have hk:=aN (af (dU HK2.out _) hb3)
   have HO3:=hid (aH HO.out (ak hb3))
   have HB3:=hid (ae HB2.out (ak hb3))
   obtain⟨⟨p0,p1,p2⟩,_⟩:=hp
   obtain⟨⟨k0,k1,k2⟩,f0,f1,f2⟩:=hk
   clear hb3 HI HK2 HO HB2 CF
   go_wp2
   refine bodyPost_ret (v:=.tuple #[decV d a1 c1,.int .i64 0]) (by simp[results,Tryz.results109,go_sem,k0,k1,k2,decV]) rfl ?_
   refine⟨a1,c1,rfl,?_,?_⟩
   ·exact ((HB3.out.setCell (Nat.le_succ _) _).setCell (Nat.le_succ _) _).setCell (Nat.le_succ _) _
   ·refine aG (base:=w.heap.size+2) ?_ (by omega)
    exact ownsRow_setCell_below (ownsRow_setCell_below (ownsRow_setCell_below HO3.out (Nat.lt_succ_self _) _) (Nat.lt_succ_self _) _) (Nat.lt_succ_self _) _
  ·rw[if_neg hf,if_neg hf]
   have hf':fitsB d=false:=by simpa using hf
   rw[hf'] at CF
   have CF:=hid CF
   clear hf hf'
   go_enter Tryz.func109,Tryz.ntmps109
   go_wp2_with fail
   refine (CN.out _).mono ?_
   rintro e1 w1 ⟨rfl,hb1⟩
   have HB1:=hid (ak (ak hb1))
   have hk:=aN (af (dU (aj w _) _) hb1)
   have HK:=hid (af (aB w _ _) hb1)
   have hz1:w.heap.size+2≤w1.heap.size:=by simpa using hb1.size
   obtain⟨⟨k0,k1,k2⟩,_⟩:=hk
   clear hb1 CN
   go_wp2_with fail
   refine (CP.out w1 HB1.out).mono ?_
   rintro e2 w2 ⟨a1,c1,he,ho⟩
   unfold decV at he
   subst he
   have HK2:=hid (af HK.out ho.1)
   have HO:=hid (aG ho.2 hz1)
   have HB2:=hid (ae HB1.out ho.1)
   have HI:=hid ho.inD
   have hz2:w.heap.size+2≤w2.heap.size:=Nat.le_trans hz1 ho.1.size
   clear ho k0 k1 k2 HK CP HB1 hz1
   go_wp2_with fail
   refine (CF.out _ a1 c1 (HI.out.below ((Below.refl _ _).alloc (Nat.le_refl _) _)) ((HTAB.out.next HB2.out).alloc _)).mono ?_
   rintro e3 w3 ⟨rfl,hb3⟩
   have hp:=aN (af (aj w2 _) hb3)
   have hk:=aN (af (dU HK2.out _) hb3)
   have HO3:=hid (aH HO.out (ak hb3))
   have HB3:=hid (ae HB2.out (ak hb3))
   obtain⟨⟨p0,p1,p2⟩,_⟩:=hp
   obtain⟨⟨k0,k1,k2⟩,f0,f1,f2⟩:=hk
   clear hb3 HI HK2 HO HB2 CF
   go_wp2
   refine bodyPost_ret (v:=.tuple #[decV zeroD none 0,.int .i64 3]) (by simp[results,Tryz.results109,go_sem,k0,k1,k2,decV,zeroD];rfl) rfl ?_
   refine⟨none,0,rfl,?_,World.ownsRow_nil _ _ _ _⟩
   ·exact ((HB3.out.setCell (Nat.le_succ _) _).setCell (Nat.le_succ _) _).setCell (Nat.le_succ _) _
 ·have hn':nearB xs.length e=false:=by simpa using hn
  have hD:takenD g xs.length (Num.worth xs) e=zeroD:=by unfold takenD;rw[if_neg hn]
  have hE:takenE g xs.length (Num.worth xs) e=1:=by unfold takenE;rw[if_neg hn]
  rw[hD,hE]
  rw[hn'] at CN
  have CN:=hid CN
  clear hn hn' hD hE h htab
  go_enter Tryz.func109,Tryz.ntmps109
  go_wp2_with fail
  refine (CN.out _).mono ?_
  rintro e1 w1 ⟨rfl,hb1⟩
  have HB1:=hid (ak (ak hb1))
  have hk:=aN (af (aB w _ _) hb1)
  obtain⟨⟨k0,k1,k2⟩,f0,f1,f2⟩:=hk
  clear hb1 CN
  go_wp2
  refine bodyPost_ret (v:=.tuple #[decV zeroD none 0,.int .i64 1]) (by simp[results,Tryz.results109,go_sem,k0,k1,k2,decV,zeroD];rfl) rfl ?_
  refine⟨none,0,rfl,?_,World.ownsRow_nil _ _ _ _⟩
  exact ((HB1.out.setCell (Nat.le_succ _) _).setCell (Nat.le_succ _) _).setCell (Nat.le_succ _) _
theorem mD (g:Bool)(a:Option Addr)(cap:Nat)(e:Int)(xs:List Nat)(w:World)(h:U32 w a xs)(htab:Pow w) :
  Calls Tryz.prog 160 #[.agg #[.bool g,.slice a xs.length cap,.int .i64 e]] w (OutDE w (takenD g xs.length (Num.worth xs) e) (takenE g xs.length (Num.worth xs) e)):=by
 have C:=fun W (hb:Below w.heap.size w W)=>kC g a cap e xs W (h.below hb) (htab.next hb)
 obtain⟨d,hd⟩:∃d,d=takenD g xs.length (Num.worth xs) e:=⟨_,rfl⟩
 obtain⟨er,he⟩:∃er,er=takenE g xs.length (Num.worth xs) e:=⟨_,rfl⟩
 rw[←hd,←he] at C ⊢
 have C:=hid C
 clear hd he h htab
 go_enter Tryz.func160,Tryz.ntmps160
 go_wp2_with fail
 refine (C.out _ (((Below.refl _ _).alloc (Nat.le_refl _) _).alloc (by simp) _)).mono ?_
 rintro e1 w1 ⟨a1,c1,he,ho⟩
 unfold decV at he
 subst he
 have HB:=hid (ak (ak ho.1))
 have HO:=hid (aG ho.2 (show w.heap.size+2≤_ by simp))
 have hk:=aN (af (aB w _ _) ho.1)
 obtain⟨⟨k0,k1,k2⟩,f0,f1,f2⟩:=hk
 clear ho C
 go_wp2
 refine bodyPost_ret (v:=.tuple #[decV d a1 c1,.int .i64 er]) (by simp[results,Tryz.results160,go_sem,k0,k1,k2,decV]) rfl ?_
 refine⟨a1,c1,rfl,?_,?_⟩
 ·exact ((HB.out.setCell (Nat.le_succ _) _).setCell (Nat.le_succ _) _).setCell (Nat.le_succ _) _
 ·refine aG (base:=w.heap.size+2) ?_ (by omega)
  exact ownsRow_setCell_below (ownsRow_setCell_below (ownsRow_setCell_below HO.out (Nat.lt_succ_self _) _) (Nat.lt_succ_self _) _) (Nat.lt_succ_self _) _
theorem oW {s:ByteArray}{l:List UInt8}(h:s.data.toList=l):s=⟨l.toArray⟩:=by
 subst h;obtain⟨⟨l⟩⟩:=s;rfl
theorem aQ (s t:ByteArray):(s ++ t).data.toList=s.data.toList ++ t.data.toList:=by simp[ByteArray.data_append]
theorem jy {s:ByteArray}{l:List UInt8}(h:s.data.toList=l):Ending.returned (.string s)=.returned (.string ⟨l.toArray⟩):=by rw[oW h]
theorem sH (h:Int)(hh:-1000000≤h∧h≤1000000):(Lib.itoa h).length≤8:=by
 unfold Lib.itoa
 split
 ·have:=Num.decDigits_le h.natAbs 7 (by decide) (by omega)
  simp;omega
 ·have:=Num.decDigits_le h.toNat 7 (by decide) (by omega)
  omega
theorem jb (Z:List UInt8)(p n:Nat)(h:Z.length=n):((Z.drop 0).take (p-0) ++ [46]) ++ (Z.drop p).take (n-p)=Z.take p ++ 46 :: Z.drop p:=by
 rw[List.take_of_length_le (l:=Z.drop p) (by rw[List.length_drop];omega)];simp
def figL (m:List UInt8) (exp h:Int):List UInt8 :=
 if 0≤exp∧h≤20 then m ++ List.replicate exp.toNat 48
 else if exp<0∧-7≤h then
  let z:=List.replicate (1-exp-m.length).toNat 48 ++ m
  z.take (z.length+exp).toNat ++ 46 :: z.drop (z.length+exp).toNat
 else (if 1<m.length then m.take 1 ++ 46 :: m.drop 1 else m) ++ 101 :: Lib.itoa h
theorem sJ (s:ByteArray)(exp h:Int)(w:World)(hs:1≤s.size∧s.size≤1000000)(he:-1000000≤exp∧exp≤1000000)(hh:-1000000≤h∧h≤1000000)(htab:Pow w) :
  Calls Tryz.prog 195 #[.string s,.int .i64 exp,.int .i64 h] w fun en w'=>en=.returned (.string ⟨(figL s.data.toList exp h).toArray⟩)∧Below w.heap.size w w':=by
 have hls:s.data.toList.length=s.size:=rfl
 obtain⟨F,hF⟩:∃F,F=figL s.data.toList exp h:=⟨_,rfl⟩
 rw[←hF]
 have HF:=hid hF
 have HLS:=hid hls
 have HTAB:=hid htab
 clear hF hls htab
 by_cases c1:0≤exp∧h≤20
 ·obtain⟨c1a,c1b⟩:=c1
  obtain⟨x,rfl⟩:∃x:Nat,exp=x:=⟨exp.toNat,by omega⟩
  have CR:=Tryz.strings_Repeat ⟨#[48]⟩ x w (by omega) (by simp[ByteArray.size];omega)
  obtain⟨R,hR⟩:∃R:ByteArray,R=⟨(Lib.repeatL (ByteArray.data ⟨#[48]⟩).toList x).toArray⟩:=⟨_,rfl⟩
  rw[←hR] at CR
  have CR:=hid CR
  have HR:=hid (show R.data.toList=List.replicate x 48 by rw[hR];simp[Num.repeatL_one])
  have hRl:R.size≤1000000:=by rw[hR];simp[ByteArray.size,Num.repeatL_one];omega
  clear hR
  go_enter Tryz.func195,Tryz.ntmps195
  go_wp2_with fail
  refine CR.out.mono ?_
  rintro e1 w1 ⟨rfl,hb1⟩
  have HB1:=hid hb1
  clear hb1 CR
  go_wp2
  go_ret
  refine⟨jy ?_,HB1.out⟩
  rw[aQ,HR.out,HF.out]
  simp[figL,c1b]
 ·by_cases c2:exp<0∧-7≤h
  ·obtain⟨c2a,c2b⟩:=c2
   have hF2:F=((List.replicate (1-exp-s.data.toList.length).toNat 48 ++ s.data.toList).take ((List.replicate (1-exp-s.data.toList.length).toNat 48 ++ s.data.toList).length+exp).toNat ++ 46 :: (List.replicate (1-exp-s.data.toList.length).toNat 48 ++ s.data.toList).drop ((List.replicate (1-exp-s.data.toList.length).toNat 48 ++ s.data.toList).length+exp).toNat):=by
    rw[HF.out];unfold figL
    rw[if_neg (by omega),if_pos ⟨c2a,c2b⟩]
   rw[HLS.out] at hF2
   by_cases c3:0<1-exp-(s.size:Int)
   ·obtain⟨x,hx⟩:∃x:Nat,1-exp-(s.size:Int)=x:=⟨(1-exp-(s.size:Int)).toNat,by omega⟩
    have CR:=Tryz.strings_Repeat ⟨#[48]⟩ x w (by omega) (by simp[ByteArray.size];omega)
    rw[←hx] at CR
    obtain⟨R,hR⟩:∃R:ByteArray,R=⟨(Lib.repeatL (ByteArray.data ⟨#[48]⟩).toList x).toArray⟩:=⟨_,rfl⟩
    rw[←hR] at CR
    have CR:=hid CR
    have HR:=hid (show R.data.toList=List.replicate x 48 by rw[hR];simp[Num.repeatL_one])
    have hRl:R.size=x:=by rw[hR];simp[ByteArray.size,Num.repeatL_one]
    have hxb:x≤2000000:=by omega
    have ha0:0≤(x:Int)+(s.size:Int)+exp:=by omega
    have ha1:(x:Int)+(s.size:Int)+exp≤(x:Int)+(s.size:Int):=by omega
    have ha2:(x:Int)+(s.size:Int)+exp≤2000000:=by omega
    rw[hx] at hF2
    have HX:=hid hx
    have HF2:=hid hF2
    clear hx hR hF2 HF
    go_enter Tryz.func195,Tryz.ntmps195
    go_wp2_with fail
    refine CR.out.mono ?_
    rintro e1 w1 ⟨rfl,hb1⟩
    have HB1:=hid hb1
    clear hb1 CR
    go_wp2_with fail
    go_quiet (fail)
    go_wp2
    go_ret
    refine⟨jy ?_,below_drewN HB1.out nq⟩
    have hd46:(ByteArray.mk #[46]).data.toList=[46]:=rfl
    rw[aQ,aQ,Lib.extract_data,Lib.extract_data,aQ,HR.out,hd46,jb _ _ _ (by rw[List.length_append,List.length_replicate,HLS.out]),HF2.out,Int.toNat_natCast,List.length_append,List.length_replicate,HLS.out,Int.natCast_add]
   ·have hz:(1-exp-(s.size:Int)).toNat=0:=by omega
    rw[hz,List.replicate_zero,List.nil_append,HLS.out] at hF2
    have ha0:0≤(s.size:Int)+exp:=by omega
    have ha1:(s.size:Int)+exp≤(s.size:Int):=by omega
    have c3':1-exp-(s.size:Int)≤0:=by omega
    have HF2:=hid hF2
    clear hF2 HF hz c3
    go_enter Tryz.func195,Tryz.ntmps195
    go_wp2_with fail
    go_quiet (fail)
    go_wp2
    go_ret
    refine⟨jy ?_,below_drewN (Below.refl _ _) nq⟩
    have hd46:(ByteArray.mk #[46]).data.toList=[46]:=rfl
    rw[aQ,aQ,Lib.extract_data,Lib.extract_data,hd46,jb _ _ _ HLS.out,HF2.out]
  ·have hF2:F=(if 1<s.data.toList.length then s.data.toList.take 1 ++ 46 :: s.data.toList.drop 1 else s.data.toList) ++ 101 :: Lib.itoa h:=by
    rw[HF.out];unfold figL
    rw[if_neg c1,if_neg c2]
   rw[HLS.out] at hF2
   have CI:=fun W (hb:Below w.heap.size w W)=>Tryz.strconv_Itoa h (by omega) (by omega) W (HTAB.out.next hb)
   obtain⟨I,hI⟩:∃I:ByteArray,I=⟨(Lib.itoa h).toArray⟩:=⟨_,rfl⟩
   rw[←hI] at CI
   have hIl:I.size≤8:=by rw[hI];exact sH h hh
   have HI:=hid (show I.data.toList=Lib.itoa h by rw[hI])
   have CI:=hid CI
   have HC1:=hid c1
   have HC2:=hid c2
   clear hI c1 c2 HF
   by_cases h1:1<s.size
   ·rw[if_pos h1] at hF2
    have HF2:=hid hF2
    clear hF2
    have d1:(exp<0∧h≤-8)∨(0≤exp∧21≤h):=by have:=HC1.out;have:=HC2.out;omega
    rcases d1 with ⟨e1,e2⟩ | ⟨e1,e2⟩
    all_goals
     go_enter Tryz.func195,Tryz.ntmps195
     go_wp2_with fail
     go_quiet (fail)
     go_wp2_with fail
     refine (CI.out _ (below_drewN (Below.refl _ _) nq)).mono ?_
     rintro e3 w3 ⟨rfl,k2,os,rfl⟩
     go_wp2
     go_ret
     refine⟨jy ?_,jd _ _ _⟩
     have hd46:(ByteArray.mk #[46]).data.toList=[46]:=rfl
     have hd101:(ByteArray.mk #[101]).data.toList=[101]:=rfl
     rw[aQ,aQ,aQ,aQ,Lib.extract_data,Lib.extract_data,hd46,hd101,HI.out,jb _ _ _ HLS.out,HF2.out,List.append_assoc]
     rfl
   ·rw[if_neg h1] at hF2
    have HF2:=hid hF2
    clear hF2
    have h1':s.size≤1:=by omega
    clear h1
    have d1:(exp<0∧h≤-8)∨(0≤exp∧21≤h):=by have:=HC1.out;have:=HC2.out;omega
    rcases d1 with ⟨e1,e2⟩ | ⟨e1,e2⟩
    all_goals
     go_enter Tryz.func195,Tryz.ntmps195
     go_wp2_with fail
     refine (CI.out _ (Below.refl _ _)).mono ?_
     rintro e3 w3 ⟨rfl,k2,os,rfl⟩
     go_wp2
     go_ret
     refine⟨jy ?_,jd _ _ _⟩
     have hd101:(ByteArray.mk #[101]).data.toList=[101]:=rfl
     rw[aQ,aQ,hd101,HI.out,HF2.out,List.append_assoc]
     rfl
theorem EW {w W' w1:World}{N:Nat}{z x y:Value}(h:W'.cell? ⟨N,0,none⟩=some z∧W'.cell? ⟨N,1,none⟩=some x∧W'.cell? ⟨N,2,none⟩=some y∧Below w.heap.size w W')(hb:Below W'.heap.size W' w1) :
  w1.cell? ⟨N,0,none⟩=some z∧w1.cell? ⟨N,1,none⟩=some x∧w1.cell? ⟨N,2,none⟩=some y∧Below w.heap.size w w1 :=
 ⟨(hb.cell (ax h.1)).trans h.1,(hb.cell (ax h.2.1)).trans h.2.1,(hb.cell (ax h.2.2.1)).trans h.2.2.1,ae h.2.2.2 hb⟩
def textL (d:D):List UInt8:=if d.m=0 then [48] else (if d.neg=true then [45] else []) ++ figL (Lib.decDigits d.m) d.e (d.e+(Num.digs 10 d.m).length-1)
def OutSE (w:World) (l:List UInt8) (err:Nat) (e:Ending) (w':World):Prop:=e=.returned (.tuple #[.string ⟨l.toArray⟩,.int .i64 err])∧Below w.heap.size w w'
theorem iY {g:Bool}{n m:Nat}{e:Int}(h:takenE g n m e=0):nearB n e=true∧takenD g n m e=plainD g m e∧fitsB (plainD g m e)=true:=by
 unfold takenE at h
 split at h
 ·rename_i h1
  split at h
  ·rename_i h2
   exact⟨h1,by unfold takenD;rw[if_pos h1,if_pos h2],h2⟩
  ·cases h
 ·cases h
theorem jA (g:Bool)(n m:Nat)(e:Int):takenE g n m e=0∨(takenE g n m e≠0∧takenD g n m e=zeroD):=by
 unfold takenE takenD
 split
 ·split
  ·exact .inl rfl
  ·exact .inr ⟨by decide,rfl⟩
 ·exact .inr ⟨by decide,rfl⟩
theorem rV {d:D}(h:fitsB d=true)(h0:d.m≠0):(Num.digs 10 d.m).length≤400∧-10000≤d.e+(Num.digs 10 d.m).length-1∧d.e+(Num.digs 10 d.m).length-1≤10000:=by
 simpa[fitsB,h0,and_assoc] using h
theorem BF (m:List UInt8)(exp h:Int)(k:Nat)(hm:m.length≤k)(he:-20000≤exp∧exp≤20000)(hh:-1000000≤h∧h≤1000000):(figL m exp h).length≤k+30000:=by
 unfold figL
 have:=sH h hh
 split
 ·simp;omega
 ·split
  ·simp;omega
  ·split<;>simp<;>omega
theorem BG (g:Bool)(a:Option Addr)(cap:Nat)(e:Int)(xs:List Nat)(w:World)(h:U32 w a xs)(htab:Pow w) :
  Calls Tryz.prog 162 #[.agg #[.bool g,.slice a xs.length cap,.int .i64 e]] w
   (OutSE w (if takenE g xs.length (Num.worth xs) e=0 then textL (takenD g xs.length (Num.worth xs) e) else []) (takenE g xs.length (Num.worth xs) e)):=by
 have C:=fun W (hb:Below w.heap.size w W)=>kC g a cap e xs W (h.below hb) (htab.next hb)
 rcases jA g xs.length (Num.worth xs) e with h0 | ⟨h0,hz⟩
 ·obtain⟨hn,hd,hf⟩:=iY h0
  rw[if_pos h0,h0]
  rw[h0] at C
  obtain⟨h1,h2,h3⟩:=eX.1 hn
  obtain⟨hb1,hb2⟩:=iZ h.lt h1
  have pm:=fO g (Num.worth xs) e
  have hlm:(Num.limbs (plainD g (Num.worth xs) e).m).length≤201:=Nat.le_trans (Num.digs_length_mono Num.two_le_B9 pm) hb2
  have pe:=yf g (Num.worth xs) e (by omega) ⟨h2,h3⟩
  rw[←hd] at hlm hf pe
  obtain⟨d,hdd⟩:∃d,d=takenD g xs.length (Num.worth xs) e:=⟨_,rfl⟩
  rw[←hdd] at C hlm hf pe ⊢
  have HTAB:=hid htab
  have C:=hid C
  clear h htab h0 hn hd h1 h2 h3 hb1 hb2 pm hdd
  by_cases hm:d.m=0
  ·have ht:textL d=[48]:=by unfold textL;rw[if_pos hm]
   rw[ht]
   have hL:Num.limbs d.m=[]:=by rw[hm];rfl
   have HL:=hid hL
   clear ht hm hL
   go_enter Tryz.func162,Tryz.ntmps162
   go_wp2_with fail
   refine (C.out _ ((Below.refl _ _).alloc (Nat.le_refl _) _)).mono ?_
   rintro e1 w1 ⟨a1,c1,he,ho⟩
   unfold decV at he
   rw[HL.out] at he
   subst he
   have HB:=hid (ak ho.1)
   clear ho C
   go_wp2
   go_ret2
   exact⟨rfl,HB.out.alloc (HB.out.size) _⟩
  ·have ff:=rV hf hm
   have hn1:1≤(Num.digs 10 d.m).length:=Num.length_pos (by decide) hm
   obtain⟨F,hF⟩:∃F,F=figL (Lib.decDigits d.m) d.e (d.e+(Num.digs 10 d.m).length-1):=⟨_,rfl⟩
   obtain⟨Z,hZ⟩:∃Z,Z=textL d:=⟨_,rfl⟩
   have ht:Z=(if d.neg=true then [45] else []) ++ F:=by rw[hZ];unfold textL;rw[if_neg hm,hF]
   rw[←hZ]
   have HZ:=hid ht
   have CT:=fun W a1 c1 (hi:InD W d a1 c1) (hp:Pow W)=>oV a1 c1 (Num.limbs d.m) W hi.u (by omega) hp
   have CH:=fun W a1 c1 (hi:InD W d a1 c1) (hp:Pow W)=>sG d.neg a1 c1 d.e (Num.limbs d.m) W hi.u (by omega) (by omega) (by rw[Num.worth_limbs];omega) hp
   have CG:=fun W (hp:Pow W)=>sJ ⟨(Lib.decDigits d.m).toArray⟩ d.e (d.e+(Num.digs 10 d.m).length-1) W (by
    have:=Num.decDigits_len d.m hm
    simp[ByteArray.size];omega) (by omega) (by omega) hp
   simp only[Num.worth_limbs] at CT CH
   have hdl:=Num.decDigits_len d.m hm
   have hFl:F.length≤400+30000:=by rw[hF];exact BF _ _ _ 400 (by omega) (by omega) (by omega)
   obtain⟨H,hH⟩:∃H,H=d.e+(Num.digs 10 d.m).length-1:=⟨_,rfl⟩
   obtain⟨T,hT⟩:∃T:ByteArray,T=⟨(Lib.decDigits d.m).toArray⟩:=⟨_,rfl⟩
   have hTd:T.data.toList=Lib.decDigits d.m:=by rw[hT]
   simp only[←hT,←hH] at CT CH CG hF
   simp only[←hF] at CG
   have hL0:(((Num.limbs d.m).length:Int) == 0)=false:=by
    rw[beq_eq_false_iff_ne];intro e
    exact hm ((Num.digs_eq_nil Num.two_le_B9).1 (List.length_eq_zero_iff.1 (Int.ofNat_eq_zero.1 e)))
   obtain⟨L,hL⟩:∃L,L=Num.limbs d.m:=⟨_,rfl⟩
   have HIN:=hid (fun W a1 c1 (hi:InD W d a1 c1)=>hi.below (w':=W))
   obtain⟨gn,hgn⟩:∃gn,gn=d.neg:=⟨_,rfl⟩
   rw[←hL] at CT CH hL0
   simp only[←hgn] at CH
   have HZ:=hid (show Z=(if gn=true then [45] else []) ++ F by rw[hgn];exact ht)
   have HG:=hid hgn
   have CT:=hid CT
   have CH:=hid CH
   have CG:=hid CG
   have HLL:=hid hL
   clear ff hn1 hF ht hZ hdl hH hT hTd hL hm hf hgn
   cases gn
   all_goals
    go_enter Tryz.func162,Tryz.ntmps162
    go_wp2_with fail
    refine (C.out _ ((Below.refl _ _).alloc (Nat.le_refl _) _)).mono ?_
    rintro e1 w1 ⟨a1,c1,he,ho⟩
    have HI:=hid ho.inD
    unfold decV at he
    rw[←HLL.out,←HG.out] at he
    subst he
    have HB:=hid (ak ho.1)
    have hp1:=HTAB.out.next HB.out
    have HP:=hid hp1
    clear ho hp1
    go_wp2_with fail
   ·go_region_held3 (fun w'=>w'.cell? ⟨w1.heap.size,0,none⟩=some (.bool false)∧w'.cell? ⟨w1.heap.size,1,none⟩=some (.slice a1 L.length c1)∧w'.cell? ⟨w1.heap.size,2,none⟩=some (.int .i64 d.e)∧Below w1.heap.size w1 w') (first | (exact⟨by simp,by simp,by simp,((Below.refl _ _).alloc (Nat.le_refl _) _).drew⟩) | (exact EW (by assumption) (by assumption))) ((first | (go_at_call 114;refine (CT.out _ a1 c1 (HI.out.below ?_) (HP.out.next ?_)).mono ?_;(simp only[*]);(simp only[*]);rintro e w' ⟨rfl,hb⟩) | (go_at_call 172;refine (CH.out _ a1 c1 (HI.out.below ?_) (HP.out.next ?_)).mono ?_;(simp only[*]);(simp only[*]);rintro e w' ⟨rfl,hb⟩) | (go_at_call 195;refine (CG.out _ (HP.out.next ?_)).mono ?_;(simp only[*]);rintro e w' ⟨rfl,hb⟩)))
    have hH:w'.cell? ⟨w1.heap.size,0,none⟩=some (.bool false)∧w'.cell? ⟨w1.heap.size,1,none⟩=some (.slice a1 L.length c1)∧w'.cell? ⟨w1.heap.size,2,none⟩=some (.int .i64 d.e)∧Below w1.heap.size w1 w':=by assumption
    have k0:=hH.1
    have HBB:=hid (ae HB.out hH.2.2.2)
    have HZ':=hid (show Z=F by simpa using HZ.out)
    clear hH
    go_wp2
    go_ret2
    exact⟨by rw[HZ'.out];rfl,HBB.out⟩
   ·go_region_held3 (fun w'=>w'.cell? ⟨w1.heap.size,0,none⟩=some (.bool true)∧w'.cell? ⟨w1.heap.size,1,none⟩=some (.slice a1 L.length c1)∧w'.cell? ⟨w1.heap.size,2,none⟩=some (.int .i64 d.e)∧Below w1.heap.size w1 w') (first | (exact⟨by simp,by simp,by simp,((Below.refl _ _).alloc (Nat.le_refl _) _).drew⟩) | (exact EW (by assumption) (by assumption))) ((first | (go_at_call 114;refine (CT.out _ a1 c1 (HI.out.below ?_) (HP.out.next ?_)).mono ?_;(simp only[*]);(simp only[*]);rintro e w' ⟨rfl,hb⟩) | (go_at_call 172;refine (CH.out _ a1 c1 (HI.out.below ?_) (HP.out.next ?_)).mono ?_;(simp only[*]);(simp only[*]);rintro e w' ⟨rfl,hb⟩) | (go_at_call 195;refine (CG.out _ (HP.out.next ?_)).mono ?_;(simp only[*]);rintro e w' ⟨rfl,hb⟩)))
    have hH:w'.cell? ⟨w1.heap.size,0,none⟩=some (.bool true)∧w'.cell? ⟨w1.heap.size,1,none⟩=some (.slice a1 L.length c1)∧w'.cell? ⟨w1.heap.size,2,none⟩=some (.int .i64 d.e)∧Below w1.heap.size w1 w':=by assumption
    have k0:=hH.1
    have HBB:=hid (ae HB.out hH.2.2.2)
    have HZ':=hid (show Z=45 :: F by simpa using HZ.out)
    clear hH
    obtain⟨S,hS⟩:∃S:ByteArray,S=⟨F.toArray⟩:=⟨_,rfl⟩
    have hSl:S.size≤400+30000:=by rw[hS];simpa[ByteArray.size] using hFl
    have HS:=hid (show S.data.toList=F by rw[hS])
    rw[←hS]
    clear hS
    go_wp2
    go_ret2
    refine⟨?_,HBB.out⟩
    have e1:(ByteArray.mk #[45] ++ S)=⟨Z.toArray⟩:=oW (by rw[aQ,HS.out,HZ'.out];rfl)
    rw[←e1]
    rfl
 ·rw[if_neg h0]
  rw[hz] at C
  obtain⟨er,her⟩:∃er,er=takenE g xs.length (Num.worth xs) e:=⟨_,rfl⟩
  rw[←her] at C h0 ⊢
  have h0':((er:Int) != 0)=true:=by simpa using h0
  have C:=hid C
  clear h htab h0 hz her
  go_enter Tryz.func162,Tryz.ntmps162
  go_wp2_with fail
  refine (C.out _ ((Below.refl _ _).alloc (Nat.le_refl _) _)).mono ?_
  rintro e1 w1 ⟨a1,c1,he,ho⟩
  unfold decV at he
  subst he
  have HB:=hid (ak ho.1)
  clear ho C
  go_wp2
  go_ret2
  exact⟨rfl,HB.out.alloc (HB.out.size) _⟩
theorem jB (k:Nat)(hk:k≤9223372036854775808):(Num.digs 10 k).length≤19:=(Num.digs_length_le (by decide)).2 (by omega)
theorem sK (k:Nat)(hk:k≤9223372036854775808):(Num.limbs k).length≤3:=aT.2 (by rw[Num.B9_eq];omega)
theorem jf (k:Nat)(w:World)(hk:k≤9223372036854775807)(htab:Pow w) :
  Calls Tryz.prog 44 #[.int .i64 k] w (OutD w (plainD false k 0)):=by
 have h1:=jB k (by omega)
 have h2:=sK k (by omega)
 have CO:=fun W=>yj k W (by omega)
 have CP:=fun W a1 c1 (h:U32 W a1 (Num.limbs k)) (hp:Pow W)=>ku false a1 c1 0 (Num.limbs k) W h (by omega) (by rw[Num.worth_limbs];omega) (by omega) hp
 simp only[Num.worth_limbs] at CP
 have UX:∀W b a1 c1,W.ownsRow b 166 1 (.slice a1 (Num.limbs k).length c1) (Num.limbs k).length (u32s (Num.limbs k))→U32 W a1 (Num.limbs k):=fun W b a1 c1 ho=>aS ho
 obtain⟨L,hL⟩:∃L,L=Num.limbs k:=⟨_,rfl⟩
 obtain⟨d,hd⟩:∃d,d=plainD false k 0:=⟨_,rfl⟩
 rw[←hd] at CP ⊢
 rw[←hL] at CO CP UX
 have CO:=hid CO
 have CP:=hid CP
 have UX:=hid UX
 have HTAB:=hid htab
 have hk':(k:Int)≤9223372036854775807:=by omega
 clear h1 h2 htab hL hd
 go_enter Tryz.func44,Tryz.ntmps44
 go_wp2_with fail
 refine (CO.out _).mono ?_
 rintro e1 w1 ⟨a1,c1,rfl,hb1,ho1⟩
 have HB1:=hid (ak hb1)
 have HU:=hid (UX.out _ _ _ _ ho1)
 have HK:=hid (af (aj w _) hb1)
 have hz1:w.heap.size+1≤w1.heap.size:=by simpa using hb1.size
 clear hb1 ho1 CO
 go_wp2_with fail
 refine (CP.out w1 a1 c1 HU.out (HTAB.out.next HB1.out)).mono ?_
 rintro e2 w2 ⟨a2,c2,he,ho⟩
 unfold decV at he
 subst he
 have HB2:=hid (ae HB1.out ho.1)
 have HO2:=hid (aG ho.2 hz1)
 obtain⟨⟨k0,k1,k2⟩,f0,f1,f2⟩:=aN (af HK.out ho.1)
 clear ho HK CP HB1
 go_wp2
 refine bodyPost_ret (v:=decV d a2 c2) (by simp[results,Tryz.results44,go_sem,k0,k1,k2,decV]) rfl ?_
 refine⟨a2,c2,rfl,?_,?_⟩
 ·exact ((HB2.out.setCell (Nat.le_refl _) _).setCell (Nat.le_refl _) _).setCell (Nat.le_refl _) _
 ·refine aG (base:=w.heap.size+1) ?_ (by omega)
  exact ownsRow_setCell_below (ownsRow_setCell_below (ownsRow_setCell_below HO2.out (Nat.lt_succ_self _) _) (Nat.lt_succ_self _) _) (Nat.lt_succ_self _) _
theorem vU (k:Nat)(w:World)(hk1:1≤k)(hk:k≤9223372036854775808)(htab:Pow w) :
  Calls Tryz.prog 44 #[.int .i64 (-(k:Int))] w (OutD w (plainD true k 0)):=by
 have h1:=jB k (by omega)
 have h2:=sK k (by omega)
 have CO:=fun W=>yj k W (by omega)
 have CP:=fun W a1 c1 (h:U32 W a1 (Num.limbs k)) (hp:Pow W)=>ku true a1 c1 0 (Num.limbs k) W h (by omega) (by rw[Num.worth_limbs];omega) (by omega) hp
 simp only[Num.worth_limbs] at CP
 have UX:∀W b a1 c1,W.ownsRow b 166 1 (.slice a1 (Num.limbs k).length c1) (Num.limbs k).length (u32s (Num.limbs k))→U32 W a1 (Num.limbs k):=fun W b a1 c1 ho=>aS ho
 obtain⟨L,hL⟩:∃L,L=Num.limbs k:=⟨_,rfl⟩
 obtain⟨d,hd⟩:∃d,d=plainD true k 0:=⟨_,rfl⟩
 rw[←hd] at CP ⊢
 rw[←hL] at CO CP UX
 have hwr:IntKind.u64.wrap (-IntKind.u64.wrap (-(k:Int)))=(k:Int):=by rw[IntKind.wrap_u64,IntKind.wrap_u64];omega
 have CO:=hid CO
 have CP:=hid CP
 have UX:=hid UX
 have HTAB:=hid htab
 have hk':-(k:Int)<0:=by omega
 clear h1 h2 htab hL hd hk hk1
 go_enter Tryz.func44,Tryz.ntmps44
 go_wp2_with fail
 refine (CO.out _).mono ?_
 rintro e1 w1 ⟨a1,c1,rfl,hb1,ho1⟩
 have HB1:=hid (ak hb1)
 have HU:=hid (UX.out _ _ _ _ ho1)
 have HK:=hid (af (aj w _) hb1)
 have hz1:w.heap.size+1≤w1.heap.size:=by simpa using hb1.size
 clear hb1 ho1 CO
 go_wp2_with fail
 refine (CP.out w1 a1 c1 HU.out (HTAB.out.next HB1.out)).mono ?_
 rintro e2 w2 ⟨a2,c2,he,ho⟩
 unfold decV at he
 subst he
 have HB2:=hid (ae HB1.out ho.1)
 have HO2:=hid (aG ho.2 hz1)
 obtain⟨⟨k0,k1,k2⟩,f0,f1,f2⟩:=aN (af HK.out ho.1)
 clear ho HK CP HB1
 go_wp2
 refine bodyPost_ret (v:=decV d a2 c2) (by simp[results,Tryz.results44,go_sem,k0,k1,k2,decV]) rfl ?_
 refine⟨a2,c2,rfl,?_,?_⟩
 ·exact ((HB2.out.setCell (Nat.le_refl _) _).setCell (Nat.le_refl _) _).setCell (Nat.le_refl _) _
 ·refine aG (base:=w.heap.size+1) ?_ (by omega)
  exact ownsRow_setCell_below (ownsRow_setCell_below (ownsRow_setCell_below HO2.out (Nat.lt_succ_self _) _) (Nat.lt_succ_self _) _) (Nat.lt_succ_self _) _
def mayB (g:Bool) (xs:List Nat) (e:Int):Bool:=decide (takenE g xs.length (Num.worth xs) e=0∧(takenD g xs.length (Num.worth xs) e).neg=g∧(takenD g xs.length (Num.worth xs) e).e=e∧Num.limbs (takenD g xs.length (Num.worth xs) e).m=xs)
end Go.Proofs.YtcgbmmalfbpjaaaGreatDoor
