/-  -/
import Derived.Test.YtcgbmmalfbpjaaaGreatDoorMe
import Derived.Test.YtcgbmmalfbpjaaaGreatDoorMf
import Derived.Test.YtcgbmmalfbpjaaaGreatDoorMg
import Derived.Deep.CutBlock
import Derived.Deep.RegionHeld3
set_option maxRecDepth 100000
set_option maxHeartbeats 16000000
namespace Go.Proofs.YtcgbmmalfbpjaaaGreatDoor
open Go.RowKit
theorem xh {n:Nat}(h:n≠0):1≤(Num.digs 10 n).length:=Num.length_pos (by decide) h
theorem Ak (k:Nat):(Num.digs 10 (5 * 10 ^ k)).length=1+k:=Num.digs_length_mul_pow (by decide) (by decide) k
theorem xm (k:Nat)(hk:k≤30000):(Num.limbs (5 * 10 ^ k)).length≤4000:=jZ (K:=30001) (by rw[Ak];omega) (by decide)
theorem xn (x y:Nat):(x<y∧cmpN x y=-1)∨(x=y∧cmpN x y=0)∨(y<x∧cmpN x y=1):=by
 rcases Nat.lt_trichotomy x y with h | h | h
 ·exact .inl ⟨h,jJ h⟩
 ·exact .inr (.inl ⟨h,iG.2 h⟩)
 ·exact .inr (.inr ⟨h,jK h⟩)
theorem Dt {Q V:Nat}(h2:(Num.digs 10 Q).length≤436)(hV:V≤Q+1):(Num.limbs V).length≤60:=by
 obtain⟨j,hj⟩:∃j:Nat,j=436:=⟨_,rfl⟩
 have h3:=(Num.digs_length_le (b:=10) (by decide)).1 (Nat.le_trans h2 (Nat.le_of_eq hj.symm))
 have h4:V<10 ^ (j+1):=by rw[Nat.pow_succ];omega
 have h5:=(Num.digs_length_le (b:=10) (by decide)).2 h4
 exact jZ (K:=437) (J:=60) (by omega) (by decide)
def wholeN (d:D):Nat:=if 0≤d.e then d.m * 10 ^ d.e.toNat else d.m / 10 ^ (-d.e).toNat
def offN (d:D):Nat:=if 0≤d.e then 0 else d.m % 10 ^ (-d.e).toNat
def restB (d:D):Bool:=decide (0<offN d)
def halfB (d:D):Bool:=decide (d.e<0) && decide (5 * 10 ^ ((-d.e).toNat-1)≤offN d)
theorem xq (d:D)(a:Option Addr)(cap:Nat)(w:World)(h:InD w d a cap)(hd:IsPlain d)(hf:fitsB d=true) :
  Calls Tryz.prog 193 #[decV d a cap] w fun en w'=>∃a1 c1,en=.returned (.tuple #[.slice a1 (Num.limbs (wholeN d)).length c1,.bool (restB d),.bool (halfB d)])∧Below w.heap.size w w' ∧
   w'.ownsRow w.heap.size 166 1 (.slice a1 (Num.limbs (wholeN d)).length c1) (Num.limbs (wholeN d)).length (u32s (Num.limbs (wholeN d))):=by
 have bd:=dN hd hf
 have lm:=jY bd.1
 obtain⟨g,m,e⟩:=d
 simp only at bd lm
 have hu:=h.u
 simp only at hu
 by_cases h0:0≤e
 ·obtain⟨k,rfl⟩:∃k:Nat,e=(k:Int):=⟨e.toNat,by omega⟩
  have hk:k≤30000:=by omega
  have e1:wholeN ⟨g,m,(k:Int)⟩=m * 10 ^ k:=by unfold wholeN;simp
  have e2:restB ⟨g,m,(k:Int)⟩=false:=by unfold restB offN;simp
  have e3:halfB ⟨g,m,(k:Int)⟩=false:=by unfold halfB;rw[decide_eq_false (by simp only;omega)];rfl
  rw[e1,e2,e3]
  have CS:=fun W (hb:Below w.heap.size w W)=>mZ a cap k (Num.limbs m) W (hu.below hb) (by omega) hk
  rw[Num.worth_limbs] at CS
  obtain⟨V,hV⟩:∃V,V=m * 10 ^ k:=⟨_,rfl⟩
  rw[←hV] at CS ⊢
  unfold OutUE at CS
  replace CS:=hid CS
  have hk0:(0:Int)≤(k:Nat):=by omega
  unfold decV
  dsimp only
  clear h hd hf bd hu e1 e2 e3 hV h0
  go_enter Tryz.func193,Tryz.ntmps193
  go_wp2_with fail
  refine (CS.out _ ((Below.refl _ _).alloc (Nat.le_refl _) _)).mono ?_
  rintro e1 w1 ⟨a1,c1,rfl,hb1,ho1⟩
  have HB1:=hid (ak hb1)
  have HO1:=hid (aG ho1 (show w.heap.size≤_ by simp))
  clear hb1 ho1 CS
  go_wp2
  refine bodyPost_ret (v:=.tuple #[.slice a1 (Num.limbs V).length c1,.bool false,.bool false]) (by simp[results,Tryz.results193,go_sem]) rfl ?_
  exact⟨a1,c1,rfl,HB1.out,HO1.out⟩
 ·obtain⟨k,hk⟩:∃k:Nat,-e=((k+1:Nat):Int):=⟨(-e).toNat-1,by omega⟩
  have hk3:k+1≤30000:=by omega
  have hkn:(-e).toNat=k+1:=by omega
  have hm:m≠0:=by
   intro e0
   have:=hd.1 e0
   unfold zeroD at this
   simp only[D.mk.injEq] at this
   omega
  have e1:wholeN ⟨g,m,e⟩=m / 10 ^ (k+1):=by
   unfold wholeN;rw[if_neg h0];simp only[hkn]
  have eo:offN ⟨g,m,e⟩=m % 10 ^ (k+1):=by
   unfold offN;rw[if_neg h0];simp only[hkn]
  have e2:restB ⟨g,m,e⟩=decide (0<m % 10 ^ (k+1)):=by unfold restB;rw[eo]
  have e3:halfB ⟨g,m,e⟩=decide (5 * 10 ^ k≤m % 10 ^ (k+1)):=by
   unfold halfB;rw[eo,decide_eq_true (by simp only;omega),Bool.true_and];simp only[hkn,Nat.add_sub_cancel]
  rw[e1,e2,e3]
  have CC:=fun W (hb:Below w.heap.size w W)=>sF a cap (k+1) (Num.limbs m) W (hu.below hb) (by omega) hk3 (by rw[Num.worth_limbs];exact hm)
  rw[Num.worth_limbs] at CC
  have CS:=fun W N (hu:U32 W (some ⟨N,0,none⟩) [5])=>mZ (some ⟨N,0,none⟩) 1 k [5] W hu (by simp) (by omega)
  rw[show Num.worth [5]=5 from rfl] at CS
  obtain⟨K,hK⟩:∃K,K=m / 10 ^ (k+1):=⟨_,rfl⟩
  obtain⟨o,ho⟩:∃o,o=m % 10 ^ (k+1):=⟨_,rfl⟩
  obtain⟨f,hf'⟩:∃f,f=5 * 10 ^ k:=⟨_,rfl⟩
  have lo:(Num.limbs o).length≤45:=Nat.le_trans (Num.digs_length_mono Num.two_le_B9 (by rw[ho];exact Nat.mod_le _ _)) lm
  have lf:(Num.limbs f).length≤4000:=by rw[hf'];exact xm k (by omega)
  rw[←hK,←ho] at CC
  rw[←hf'] at CS
  rw[←hK,←ho,←hf']
  have CP:=fun W a1 c1 a2 c2 (h1:U32 W a1 (Num.limbs o)) (h2:U32 W a2 (Num.limbs f))=>Ce a1 a2 c1 c2 (Num.limbs o) (Num.limbs f) W h1 h2 (by omega) (by omega)
  rw[Num.worth_limbs,Num.worth_limbs] at CP
  have hr:decide (0<(Num.limbs o).length)=decide (0<o):=by
   rw[decide_eq_decide];have:=mF o;omega
  have hh:decide ((0:Int)≤cmpN o f)=decide (f≤o):=by
   rw[decide_eq_decide]
   rcases xn o f with ⟨h1,h2⟩ | ⟨h1,h2⟩ | ⟨h1,h2⟩<;>rw[h2]<;>omega
  unfold OutUUE at CC
  unfold OutUE at CS
  replace CS:=hid CS
  replace CP:=hid CP
  have HRr:=hid hr
  have HHh:=hid hh
  have hneg:¬ (0:Int)≤e:=h0
  obtain⟨j,hj⟩:∃j,j=k+1:=⟨_,rfl⟩
  rw[←hj] at CC
  have hej:-e=(j:Int):=by omega
  have hbig:¬ (30000:Int)<(j:Int):=by omega
  have hjk:(j:Int)-1=(k:Int):=by omega
  have hjb:0≤j∧j≤30000:=by omega
  have heb:-30000≤e:=by omega
  replace CC:=hid CC
  unfold decV
  dsimp only
  clear h hd hf bd hu e1 e2 e3 eo hK ho hf' hm hr hh hk h0 hkn hj
  go_enter Tryz.func193,Tryz.ntmps193
  go_wp2_with fail
  try rw[hej]
  refine (CC.out _ ((Below.refl _ _).alloc (Nat.le_refl _) _)).mono ?_
  rintro e1 w1 ⟨a7,c7,a8,c8,rfl,hb1,ho7,ho8⟩
  have HB1:=hid (ak hb1)
  have HO7:=hid (aG ho7 (show w.heap.size≤_ by simp))
  have HO8:=hid ho8
  clear hb1 ho7 ho8 CC
  go_wp2_with fail
  try rw[hjk]
  refine (CS.out _ _ (yU (by decide) (ay (aj w1 _) 0))).mono ?_
  rintro e2 w2 ⟨a9,c9,rfl,hb2,ho9⟩
  have HB2:=hid (ak hb2)
  have HO9:=hid ho9
  clear hb2 ho9 CS
  go_wp2_with fail
  refine (CP.out _ _ _ _ _ ((aS HO8.out).below HB2.out) (aS HO9.out)).mono ?_
  rintro e3 w3 ⟨rfl,hb3⟩
  have HB3:=hid (ae (ae HB1.out HB2.out) hb3)
  have HO:=hid (aH (aH HO7.out HB2.out) hb3)
  clear hb3 HO7 HO8 HO9 HB1 HB2 CP
  go_wp2
  refine bodyPost_ret (v:=.tuple #[.slice a7 (Num.limbs K).length c7,.bool (decide (0<(Num.limbs o).length)),.bool (decide ((0:Int)≤cmpN o f))]) (by simp[results,Tryz.results193,go_sem]) rfl ?_
  rw[HRr.out,HHh.out]
  exact⟨a7,c7,rfl,HB3.out,HO.out⟩
end Go.Proofs.YtcgbmmalfbpjaaaGreatDoor
