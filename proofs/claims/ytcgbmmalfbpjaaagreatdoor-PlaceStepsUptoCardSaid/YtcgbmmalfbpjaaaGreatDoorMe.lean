/-  -/
import Derived.Test.YtcgbmmalfbpjaaaGreatDoorMd
import Derived.Test.YtcgbmmalfbpjaaaGreatDoorMc
import Derived.Test.YtcgbmmalfbpjaaaGreatDoorMb
import Derived.Deep.CutBlock
import Derived.Deep.RegionLaw
namespace Go.Proofs.YtcgbmmalfbpjaaaGreatDoor
open Go.RowKit
theorem qNe {m:Nat}(h:m % 10≠0):tz m=0:=by
 have hm:m≠0:=fun e=>h (by rw[e])
 unfold tz
 rw[Num.digs_pos (by decide) hm,List.takeWhile_cons]
 simp[h]
theorem qHX {m:Nat}(hm:m≠0):tz (10 * m)=1+tz m:=by
 unfold tz
 rw[Num.digs_pos (by decide) (show 10 * m≠0 by omega),List.takeWhile_cons,Nat.mul_mod_right,Nat.mul_div_cancel_left m (by decide)]
 simp;omega
theorem tz_pow {m:Nat}(hm:m≠0)(k:Nat):tz (m * 10 ^ k)=k+tz m:=by
 induction k with
 | zero=>simp
 | succ k ih =>
  have h0:m * 10 ^ k≠0:=Nat.mul_ne_zero hm (Nat.ne_of_gt (Nat.pow_pos (by decide)))
  rw[Nat.pow_succ,←Nat.mul_assoc,Nat.mul_comm,qHX h0,ih];omega
theorem qHY {m:Nat}(hm:m≠0):m / 10 ^ tz m * 10 ^ tz m=m∧tz (m / 10 ^ tz m)=0∧m / 10 ^ tz m≠0:=by
 induction m using Num.digs_ind (b:=10) (by decide) with
 | h0=>exact absurd rfl hm
 | h1 m hm' ih =>
  by_cases h:m % 10=0
  ·obtain⟨q,hq⟩:∃q,q=m / 10:=⟨_,rfl⟩
   have hmq:m=10 * q:=by omega
   have hq0:q≠0:=by omega
   rw[←hq] at ih
   obtain⟨i1,i2,i3⟩:=ih hq0
   have e:m / 10 ^ tz m=q / 10 ^ tz q:=by
    rw[hmq,qHX hq0,Nat.pow_add,Nat.pow_one,Nat.mul_div_mul_left _ _ (by decide)]
   rw[e]
   refine⟨?_,i2,i3⟩
   rw[hmq,qHX hq0,Nat.pow_add,Nat.pow_one,Nat.mul_comm 10 (10 ^ _),←Nat.mul_assoc,i1,Nat.mul_comm]
  ·rw[qNe h];simp[qNe h,hm]
def IsPlain (d:D):Prop:=(d.m=0→d=zeroD)∧tz d.m=0
theorem qER:IsPlain zeroD:=⟨fun _=>rfl,rfl⟩
theorem qDK (g:Bool)(e:Int):plainD g 0 e=zeroD:=by unfold plainD;rw[if_pos rfl];rfl
theorem qF1 (g:Bool)(m:Nat)(e:Int):IsPlain (plainD g m e):=by
 by_cases h:m=0
 ·subst h;rw[qDK];exact qER
 ·have:=qHY h
  unfold plainD
  rw[if_neg h]
  exact⟨fun e=>absurd e this.2.2,this.2.1⟩
theorem qII {d:D}(h:IsPlain d)(k:Nat):plainD d.neg (d.m * 10 ^ k) (d.e-k)=d:=by
 by_cases h0:d.m=0
 ·rw[h0,Nat.zero_mul,qDK,h.1 h0]
 ·have hp:10 ^ k≠0:=Nat.ne_of_gt (Nat.pow_pos (by decide))
  unfold plainD
  rw[if_neg (Nat.mul_ne_zero h0 hp),tz_pow h0,h.2]
  cases d
  simp only[Nat.add_zero,D.mk.injEq,true_and]
  exact⟨Nat.mul_div_cancel _ (Nat.pos_of_ne_zero hp),by omega⟩
theorem qGY {d:D}(h:IsPlain d):plainD d.neg d.m d.e=d:=by simpa using qII h 0
theorem qAH {d:D}(h:IsPlain d)(hf:fitsB d=true):(Num.digs 10 d.m).length≤400∧-10400≤d.e∧d.e≤10001:=by
 by_cases h0:d.m=0
 ·rw[h.1 h0];exact⟨by decide,by decide,by decide⟩
 ·obtain⟨h1,h2,h3⟩:=qH2 hf h0
  omega
theorem qCG {m:Nat}(h:(Num.digs 10 m).length≤400):(Num.limbs m).length≤45:=qBM h (by decide)
theorem qIJ {d:D}(h:IsPlain d)(hf:fitsB d=true):takenE d.neg (Num.limbs d.m).length (Num.worth (Num.limbs d.m)) d.e=0∧takenD d.neg (Num.limbs d.m).length (Num.worth (Num.limbs d.m)) d.e=d:=by
 obtain⟨b1,b2,b3⟩:=qAH h hf
 have b4:=qCG b1
 have hn:nearB (Num.limbs d.m).length d.e=true:=qBr.2 ⟨by omega,by omega,by omega⟩
 unfold takenE takenD
 rw[if_pos hn,if_pos hn,Num.worth_limbs,qGY h,if_pos hf,if_pos hf]
 exact⟨rfl,rfl⟩
theorem qA6 {g:Bool}{n m:Nat}{e:Int}(h:takenE g n m e=0):IsPlain (takenD g n m e)∧fitsB (takenD g n m e)=true:=by
 obtain⟨_,h2,h3⟩:=qC6 h
 rw[h2]
 exact⟨qF1 _ _ _,h3⟩
theorem qJW {d:Nat}(h:d<10):isD (Num.chr d)=true:=by
 have:d=0∨d=1∨d=2∨d=3∨d=4∨d=5∨d=6∨d=7∨d=8∨d=9:=by omega
 rcases this with rfl | rfl | rfl | rfl | rfl | rfl | rfl | rfl | rfl | rfl<;>rfl
theorem qJX {d:Nat}(h:d<10):(UInt8.ofNat (48+d)).toNat-48=d:=by
 have:d=0∨d=1∨d=2∨d=3∨d=4∨d=5∨d=6∨d=7∨d=8∨d=9:=by omega
 rcases this with rfl | rfl | rfl | rfl | rfl | rfl | rfl | rfl | rfl | rfl<;>rfl
theorem qF2 (m:Nat):Digs (Lib.decDigits m):=by
 induction m using Nat.strongRecOn with
 | ind m ih =>
  rw[Lib.decDigits]
  split
  ·intro c hc;rw[List.mem_singleton] at hc;subst hc;exact qJ2.1 (qJW (by omega))
  ·intro c hc
   rcases List.mem_append.1 hc with h | h
   ·exact ih (m / 10) (by omega) c h
   ·rw[List.mem_singleton] at h;subst h;exact qJ2.1 (qJW (Nat.mod_lt _ (by decide)))
theorem qJY (m:Nat):num10 (Lib.decDigits m) 0=m:=by
 induction m using Nat.strongRecOn with
 | ind m ih =>
  rw[Lib.decDigits]
  split
  ·simp only[num10];rw[qJX (by omega)];omega
  ·rw[qDp,ih (m / 10) (by omega)]
   simp only[num10]
   rw[qJX (Nat.mod_lt _ (by decide))];omega
theorem qGZ (k n:Nat):num10 (List.replicate k 48) n=n * 10 ^ k:=by
 induction k generalizing n with
 | zero=>simp[num10]
 | succ k ih =>
  rw[List.replicate_succ];simp only[num10]
  rw[ih,Nat.pow_succ,show (48:UInt8).toNat-48=0 by rfl,Nat.add_zero,Nat.mul_comm 10 n,Nat.mul_assoc,Nat.mul_comm 10 (10 ^ k)]
def OutLL (w:World) (x y:Nat) (k:Int) (e:Ending) (w':World):Prop :=
 ∃a1 c1 a2 c2,e=.returned (.tuple #[.slice a1 (Num.limbs x).length c1,.slice a2 (Num.limbs y).length c2,.int .i64 k])∧Below w.heap.size w w' ∧
  w'.ownsRow w.heap.size 166 1 (.slice a1 (Num.limbs x).length c1) (Num.limbs x).length (u32s (Num.limbs x)) ∧
  w'.ownsRow w.heap.size 166 1 (.slice a2 (Num.limbs y).length c2) (Num.limbs y).length (u32s (Num.limbs y))
set_option maxRecDepth 100000 in
set_option maxHeartbeats 800000 in
theorem qJ3 (x y:D)(a:Option Addr)(cap:Nat)(a2:Option Addr)(cap2:Nat)(k:Int)(p q:Nat)(w:World)(h:InD w x a cap)(h2:InD w y a2 cap2)
  (hl:(Num.limbs x.m).length≤1000000)(hl2:(Num.limbs y.m).length≤1000000)(hk:min x.e y.e=k)(hp:x.e=k+p)(hq:y.e=k+q)(hp3:p≤30000)(hq3:q≤30000) :
  Calls Tryz.prog 173 #[decV x a cap,decV y a2 cap2] w (OutLL w (x.m * 10 ^ p) (y.m * 10 ^ q) k):=by
 have C1:=fun W (hb:Below w.heap.size w W)=>qCj a cap p (Num.limbs x.m) W (h.u.below hb) (by omega) hp3
 have C2:=fun W (hb:Below w.heap.size w W)=>qCj a2 cap2 q (Num.limbs y.m) W (h2.u.below hb) (by omega) hq3
 rw[Num.worth_limbs] at C1 C2
 obtain⟨g,m,ex⟩:=x
 obtain⟨g2,m2,ey⟩:=y
 simp only at hk hp hq C1 C2 hl hl2 ⊢
 obtain⟨L,hL⟩:∃L,L=(Num.limbs m).length:=⟨_,rfl⟩
 obtain⟨L2,hL2⟩:∃L,L=(Num.limbs m2).length:=⟨_,rfl⟩
 unfold decV
 simp only[←hL,←hL2]
 rw[←hL] at C1
 rw[←hL2] at C2
 obtain⟨X,hX⟩:∃X,X=m * 10 ^ p:=⟨_,rfl⟩
 obtain⟨Y,hY⟩:∃Y,Y=m2 * 10 ^ q:=⟨_,rfl⟩
 rw[←hX] at C1 ⊢
 rw[←hY] at C2 ⊢
 have hw1:IntKind.i64.wrap (ex-k)=(p:Int):=by rw[IntKind.wrap_i64];omega
 have hw2:IntKind.i64.wrap (ey-k)=(q:Int):=by rw[IntKind.wrap_i64];omega
 have C1:=hid C1
 have C2:=hid C2
 clear h h2 hL hL2 hX hY hp hq hl hl2
 go_enter Tryz.func173,Tryz.ntmps173
 go_wp2_with fail
 refine (C1.out _ (((Below.refl _ _).alloc (Nat.le_refl _) _).alloc (by simp) _)).mono ?_
 rintro e1 w1 ⟨b1,c1,rfl,hb1,ho1⟩
 have HB1:=hid (qAe (qAe hb1))
 have HO1:=hid (qAh ho1 (show w.heap.size≤_ by simp;omega))
 have hk1:=qAk (qAb (qAi w _ _) hb1)
 obtain⟨⟨k0,k1,k2⟩,_⟩:=hk1
 clear hb1 ho1 C1
 go_wp2_with fail
 refine (C2.out _ HB1.out).mono ?_
 rintro e2 w2 ⟨b2,c2,rfl,hb2,ho2⟩
 have HB2:=hid (qAa HB1.out hb2)
 have HO2:=hid (qAr HO1.out hb2)
 have HP2:=hid (qAh ho2 HB1.out.size)
 clear hb2 ho2 HB1 HO1 k0 k1 k2 C2
 go_wp2
 refine bodyPost_ret (v:=.tuple #[.slice b1 (Num.limbs X).length c1,.slice b2 (Num.limbs Y).length c2,.int .i64 k]) (by simp[results,Tryz.results173,go_sem]) rfl ?_
 exact⟨b1,c1,b2,c2,rfl,HB2.out,HO2.out,HP2.out⟩
theorem keep6 {w W' w1:World}{N:Nat}{x y z u v t:Value}(h:W'.cell? ⟨N,0,none⟩=some x∧W'.cell? ⟨N,1,none⟩=some y∧W'.cell? ⟨N,2,none⟩=some z∧W'.cell? ⟨N+1,0,none⟩=some u∧W'.cell? ⟨N+1,1,none⟩=some v∧W'.cell? ⟨N+1,2,none⟩=some t∧Below w.heap.size w W')(hb:Below W'.heap.size W' w1) :
  w1.cell? ⟨N,0,none⟩=some x∧w1.cell? ⟨N,1,none⟩=some y∧w1.cell? ⟨N,2,none⟩=some z∧w1.cell? ⟨N+1,0,none⟩=some u∧w1.cell? ⟨N+1,1,none⟩=some v∧w1.cell? ⟨N+1,2,none⟩=some t∧Below w.heap.size w w1:=by
 obtain⟨h0,h1,h2,h3,h4,h5,h6⟩:=h
 have B:=(bcell hb).1
 exact⟨(B _ _ (qAg h0)).trans h0,(B _ _ (qAg h1)).trans h1,(B _ _ (qAg h2)).trans h2,(B _ _ (qAg h3)).trans h3,(B _ _ (qAg h4)).trans h4,(B _ _ (qAg h5)).trans h5,qAa h6 hb⟩
theorem qCu (m p:Nat)(hm:(Num.digs 10 m).length≤400)(hp:p≤30000):(Num.limbs (m * 10 ^ p)).length≤3400:=by
 refine qBM (K:=400+30000) ((Num.digs_length_le (by decide)).2 ?_) (by decide)
 obtain⟨k,hk⟩:∃k:Nat,k=400:=⟨_,rfl⟩
 obtain⟨q,hq⟩:∃q:Nat,q=30000:=⟨_,rfl⟩
 rw[←hk] at hm ⊢
 rw[←hq] at hp ⊢
 have h1:m<10 ^ k:=(Num.digs_length_le (by decide)).1 hm
 rw[Nat.pow_add]
 exact Nat.lt_of_le_of_lt (Nat.mul_le_mul_left _ (Nat.pow_le_pow_right (by decide) hp)) (Nat.mul_lt_mul_of_pos_right h1 (Nat.pow_pos (by decide)))
def headD (d:D):Int:=d.e+(Num.digs 10 d.m).length-1
def sizeC (x y:D):Int :=
 if headD x≠headD y then (if headD x<headD y then -1 else 1)
 else cmpN (x.m * 10 ^ (x.e-min x.e y.e).toNat) (y.m * 10 ^ (y.e-min x.e y.e).toNat)
set_option maxRecDepth 100000 in
set_option maxHeartbeats 1600000 in
theorem qMc (x y:D)(a:Option Addr)(cap:Nat)(a2:Option Addr)(cap2:Nat)(w:World)(h:InD w x a cap)(h2:InD w y a2 cap2)(hx:(Num.digs 10 x.m).length≤400)(hy:(Num.digs 10 y.m).length≤400)
  (hxe:-20000≤x.e∧x.e≤20000)(hye:-20000≤y.e∧y.e≤20000)(htab:Pow w) :
  Calls Tryz.prog 139 #[decV x a cap,decV y a2 cap2] w fun en w'=>en=.returned (.int .i64 (sizeC x y))∧Below w.heap.size w w':=by
 have hlx:(Num.limbs x.m).length≤45:=qBM hx (by decide)
 have hly:(Num.limbs y.m).length≤45:=qBM hy (by decide)
 have CX:=fun W (hb:Below w.heap.size w W)=>qDz x.neg a cap x.e (Num.limbs x.m) W (h.u.below hb) (by omega) (by omega) (by rw[Num.worth_limbs];omega) (htab.next hb)
 have CY:=fun W (hb:Below w.heap.size w W)=>qDz y.neg a2 cap2 y.e (Num.limbs y.m) W (h2.u.below hb) (by omega) (by omega) (by rw[Num.worth_limbs];omega) (htab.next hb)
 rw[Num.worth_limbs] at CX CY
 obtain⟨p,hp⟩:∃p,p=(x.e-min x.e y.e).toNat:=⟨_,rfl⟩
 obtain⟨q,hq⟩:∃q,q=(y.e-min x.e y.e).toNat:=⟨_,rfl⟩
 obtain⟨k,hk⟩:∃k,k=min x.e y.e:=⟨_,rfl⟩
 have CL:=fun W (hb:Below w.heap.size w W) (hd:p≤30000∧q≤30000)=>qJ3 x y a cap a2 cap2 k p q W (h.below hb) (h2.below hb) (by omega) (by omega) hk.symm (by omega) (by omega) hd.1 hd.2
 have CC:=fun W b1 d1 b2 d2 (u1:U32 W b1 (Num.limbs (x.m * 10 ^ p))) (u2:U32 W b2 (Num.limbs (y.m * 10 ^ q))) (hl1:(Num.limbs (x.m * 10 ^ p)).length≤100000000) (hl2:(Num.limbs (y.m * 10 ^ q)).length≤100000000)=>qIa b1 b2 d1 d2 _ _ W u1 u2 hl1 hl2
 simp only[Num.worth_limbs] at CC
 obtain⟨hX,hhX⟩:∃hX,hX=headD x:=⟨_,rfl⟩
 obtain⟨hY,hhY⟩:∃hY,hY=headD y:=⟨_,rfl⟩
 have hXb:-30000≤hX∧hX≤30000:=by rw[hhX];unfold headD;omega
 have hYb:-30000≤hY∧hY≤30000:=by rw[hhY];unfold headD;omega
 rw[show x.e+(Num.digs 10 x.m).length-1=hX from hhX.symm] at CX
 rw[show y.e+(Num.digs 10 y.m).length-1=hY from hhY.symm] at CY
 have hr:sizeC x y=if hX≠hY then (if hX<hY then -1 else 1) else cmpN (x.m * 10 ^ p) (y.m * 10 ^ q):=by unfold sizeC;rw[←hp,←hq,←hhX,←hhY]
 rw[hr]
 have hpq:hX=hY→(p≤30000∧q≤30000)∧(Num.limbs (x.m * 10 ^ p)).length≤100000000∧(Num.limbs (y.m * 10 ^ q)).length≤100000000:=fun e=>by
  have h1:p≤30000∧q≤30000:=by rw[hhX,hhY] at e;unfold headD at e;omega
  have h2:=qCu x.m p hx h1.1
  have h3:=qCu y.m q hy h1.2
  exact⟨h1,by omega,by omega⟩
 obtain⟨g,m,ex⟩:=x
 obtain⟨g2,m2,ey⟩:=y
 simp only at CX CY CL CC
 obtain⟨L,hL⟩:∃L,L=(Num.limbs m).length:=⟨_,rfl⟩
 obtain⟨L2,hL2⟩:∃L,L=(Num.limbs m2).length:=⟨_,rfl⟩
 unfold decV at CL ⊢
 simp only at CL ⊢
 simp only[←hL,←hL2] at CL ⊢
 rw[←hL] at CX
 rw[←hL2] at CY
 replace CX:=hid CX
 replace CY:=hid CY
 replace CL:=hid CL
 replace CC:=hid CC
 have HPQ:=hid hpq
 clear h h2 hx hy hxe hye htab hlx hly hp hq hk hhX hhY hr hpq hL hL2
 by_cases he:hX=hY
 ·rw[if_neg (by simpa using he)]
  obtain⟨hpq,hs1,hs2⟩:=HPQ.out he
  have HL1:=hid hs1
  have HL2:=hid hs2
  clear hs1 hs2
  subst he
  have hne:(hX != hX)=false:=by simp
  have HQ:=hid hpq
  clear hpq HPQ
  go_enter Tryz.func139,Tryz.ntmps139
  go_wp2_with fail
  go_region_held3 (fun w'=>w'.cell? ⟨w.heap.size,0,none⟩=some (.bool g)∧w'.cell? ⟨w.heap.size,1,none⟩=some (.slice a L cap)∧w'.cell? ⟨w.heap.size,2,none⟩=some (.int .i64 ex)∧w'.cell? ⟨w.heap.size+1,0,none⟩=some (.bool g2)∧w'.cell? ⟨w.heap.size+1,1,none⟩=some (.slice a2 L2 cap2)∧w'.cell? ⟨w.heap.size+1,2,none⟩=some (.int .i64 ey)∧Below w.heap.size w w') (first | (exact⟨by simp,by simp,by simp,by simp,by simp,by simp,(((Below.refl _ _).alloc (Nat.le_refl _) _).alloc (by simp) _).drew⟩) | (exact keep6 (by assumption) (by assumption))) ((first | (go_at_call 172;(with_reducible refine (CX.out _ ?_).mono ?_);(simp only[*]);rintro e w' ⟨rfl,hb⟩) | (go_at_call 172;(with_reducible refine (CY.out _ ?_).mono ?_);(simp only[*]);rintro e w' ⟨rfl,hb⟩)))
  all_goals
   rename_i hHeld
   obtain⟨k0,k1,k2,q0,q1,q2,hH⟩:=hHeld
   have HB:=hid hH
   clear hH
   go_wp2_with fail
   refine (CL.out _ HB.out HQ.out).mono ?_
   rintro e2 w2 ⟨b1,d1,b2,d2,rfl,hb2,ho1,ho2⟩
   have HB2:=hid (qAa HB.out hb2)
   have U1:=hid (qAt ho1)
   have U2:=hid (qAt ho2)
   clear hb2 ho1 ho2 k0 k1 k2 q0 q1 q2 CX CY CL
   go_wp2_with fail
   refine (CC.out _ _ _ _ _ U1.out U2.out HL1.out HL2.out).mono ?_
   rintro e3 w3 ⟨rfl,hb3⟩
   have HB3:=hid (qAa HB2.out hb3)
   clear hb3
   go_wp2
   go_ret
   exact⟨rfl,HB3.out⟩
 ·rw[if_pos he]
  have hne:(hX != hY)=true:=by simpa using he
  by_cases hlt:hX<hY
  all_goals
   first | rw[if_pos hlt] | rw[if_neg hlt]
   have hlt':decide (hX<hY)=decide (hX<hY):=rfl
   clear he hlt'
   go_enter Tryz.func139,Tryz.ntmps139
   go_wp2_with fail
   go_region_held3 (fun w'=>w'.cell? ⟨w.heap.size,0,none⟩=some (.bool g)∧w'.cell? ⟨w.heap.size,1,none⟩=some (.slice a L cap)∧w'.cell? ⟨w.heap.size,2,none⟩=some (.int .i64 ex)∧w'.cell? ⟨w.heap.size+1,0,none⟩=some (.bool g2)∧w'.cell? ⟨w.heap.size+1,1,none⟩=some (.slice a2 L2 cap2)∧w'.cell? ⟨w.heap.size+1,2,none⟩=some (.int .i64 ey)∧Below w.heap.size w w') (first | (exact⟨by simp,by simp,by simp,by simp,by simp,by simp,(((Below.refl _ _).alloc (Nat.le_refl _) _).alloc (by simp) _).drew⟩) | (exact keep6 (by assumption) (by assumption))) ((first | (go_at_call 172;(with_reducible refine (CX.out _ ?_).mono ?_);(simp only[*]);rintro e w' ⟨rfl,hb⟩) | (go_at_call 172;(with_reducible refine (CY.out _ ?_).mono ?_);(simp only[*]);rintro e w' ⟨rfl,hb⟩)))
   all_goals
    rename_i hHeld
    obtain⟨_,_,_,_,_,_,hH⟩:=hHeld
    have HB:=hid hH
    clear hH
    go_wp2
    go_ret
    exact⟨rfl,HB.out⟩
def upE (e:Int):Nat:=(e+100000).toNat
def sgn (g:Bool):Int:=if g=true then -1 else 1
def wo (d:D):Int:=sgn d.neg * ((d.m * 10 ^ upE d.e:Nat):Int)
theorem qBq (n:Nat):0<10 ^ n:=Nat.pow_pos (by decide)
theorem qBY (g:Bool):sgn g=1∨sgn g=-1:=by cases g<;>simp[sgn]
theorem qCx (d:D):wo d=0 ↔ d.m=0:=by
 unfold wo
 have:=qBq (upE d.e)
 constructor
 ·intro h
  rcases qBY d.neg with h1 | h1<;>rw[h1] at h
  ·have h2:d.m * 10 ^ upE d.e=0:=by omega
   rcases Nat.mul_eq_zero.1 h2 with h3 | h3
   ·exact h3
   ·omega
  ·have h2:d.m * 10 ^ upE d.e=0:=by omega
   rcases Nat.mul_eq_zero.1 h2 with h3 | h3
   ·exact h3
   ·omega
 ·intro h;rw[h];simp
def sumD (x y:D):D :=
 if x.neg=y.neg then plainD x.neg (x.m * 10 ^ (x.e-min x.e y.e).toNat+y.m * 10 ^ (y.e-min x.e y.e).toNat) (min x.e y.e)
 else if x.m * 10 ^ (x.e-min x.e y.e).toNat<y.m * 10 ^ (y.e-min x.e y.e).toNat then plainD y.neg (y.m * 10 ^ (y.e-min x.e y.e).toNat-x.m * 10 ^ (x.e-min x.e y.e).toNat) (min x.e y.e)
 else plainD x.neg (x.m * 10 ^ (x.e-min x.e y.e).toNat-y.m * 10 ^ (y.e-min x.e y.e).toNat) (min x.e y.e)
theorem qDJ (m:Nat)(e k:Int)(h:k≤e)(hk:-100000≤k):m * 10 ^ (e-k).toNat * 10 ^ upE k=m * 10 ^ upE e:=by
 rw[Nat.mul_assoc,←Nat.pow_add]
 congr 2
 unfold upE;omega
def tellR (d:D):D × Nat:=if fitsB d=true then (d,0) else (zeroD,3)
def addR (x y:D):D × Nat:=tellR (sumD x y)
def cmpR (x y:D):Int:=if signD x<signD y then -1 else if signD y<signD x then 1 else if signD x=0 then 0 else signD x * sizeC x y
structure But (R:Nat) (w w':World):Prop where
 os:w'.os=w.os
 tape:w'.tape=w.tape
 output:w'.output=w.output
 size:w.heap.size≤w'.heap.size
 block:∀k,k<w.heap.size→k≠R→w'.heap[k]? = w.heap[k]?
theorem But.refl (R:Nat)(w:World):But R w w:=⟨rfl,rfl,rfl,Nat.le_refl _,fun _ _ _=>rfl⟩
theorem But.drew {R:Nat}{w w':World}(h:But R w w'):But R w w'.drew:=⟨h.os,h.tape,h.output,h.size,h.block⟩
theorem But.step {R:Nat}{w w1 w2:World}(h:But R w w1)(hb:Below w1.heap.size w1 w2):But R w w2 :=
 ⟨hb.os.trans h.os,hb.tape.trans h.tape,hb.output.trans h.output,Nat.le_trans h.size hb.size,fun k hk hr=>(hb.block k (Nat.lt_of_lt_of_le hk h.size)).trans (h.block k hk hr)⟩
theorem But.setCell {R:Nat}{w w1:World}(h:But R w w1)(o:Nat)(u:Value):But R w (w1.setCell ⟨R,o,none⟩ u) :=
 ⟨h.os,h.tape,h.output,by simpa[World.setCell] using h.size,fun k hk hr=>(Below.heap_setCell _ _ _ _ hr).trans (h.block k hk hr)⟩
theorem But.below {R B:Nat}{a w w':World}(h:But R w w')(hb:Below B a w)(h1:B≤R)(h2:B≤w.heap.size):Below B a w' :=
 hb.trans ⟨h.os,h.tape,h.output,h.size,fun k hk=>h.block k (by omega) (by omega)⟩
structure TwoD (w:World) (B:Nat) (w':World) (x y:D) (N M:Nat) (b1:Option Addr) (c1:Nat) (b2:Option Addr) (c2:Nat):Prop where
 h1:w'.heap[N]? = some (.cells #[.bool x.neg,.slice b1 (Num.limbs x.m).length c1,.int .i64 x.e] 24)
 h2:w'.heap[M]? = some (.cells #[.bool y.neg,.slice b2 (Num.limbs y.m).length c2,.int .i64 y.e] 24)
 l1:B≤N
 l2:B≤M
 o1:w'.ownsRow B 166 1 (.slice b1 (Num.limbs x.m).length c1) (Num.limbs x.m).length (u32s (Num.limbs x.m))
 o2:w'.ownsRow B 166 1 (.slice b2 (Num.limbs y.m).length c2) (Num.limbs y.m).length (u32s (Num.limbs y.m))
 bel:Below w.heap.size w w'
theorem TwoD.i1 {w w':World}{B:Nat}{x y:D}{N M c1 c2:Nat}{b1 b2:Option Addr}(h:TwoD w B w' x y N M b1 c1 b2 c2):InD w' x b1 c1:=⟨qAt h.o1⟩
theorem TwoD.i2 {w w':World}{B:Nat}{x y:D}{N M c1 c2:Nat}{b1 b2:Option Addr}(h:TwoD w B w' x y N M b1 c1 b2 c2):InD w' y b2 c2:=⟨qAt h.o2⟩
theorem keepT {B:Nat}{w W' w1:World}{N M:Nat}{x y z u v t:Value}(h:W'.cell? ⟨N,0,none⟩=some x∧W'.cell? ⟨N,1,none⟩=some y∧W'.cell? ⟨N,2,none⟩=some z∧W'.cell? ⟨M,0,none⟩=some u∧W'.cell? ⟨M,1,none⟩=some v∧W'.cell? ⟨M,2,none⟩=some t∧Below B w W')(hB:B≤w.heap.size)(hb:Below W'.heap.size W' w1) :
  w1.cell? ⟨N,0,none⟩=some x∧w1.cell? ⟨N,1,none⟩=some y∧w1.cell? ⟨N,2,none⟩=some z∧w1.cell? ⟨M,0,none⟩=some u∧w1.cell? ⟨M,1,none⟩=some v∧w1.cell? ⟨M,2,none⟩=some t∧Below B w w1:=by
 obtain⟨h0,h1,h2,h3,h4,h5,h6⟩:=h
 have B':=(bcell hb).1
 exact⟨(B' _ _ (qAg h0)).trans h0,(B' _ _ (qAg h1)).trans h1,(B' _ _ (qAg h2)).trans h2,(B' _ _ (qAg h3)).trans h3,(B' _ _ (qAg h4)).trans h4,(B' _ _ (qAg h5)).trans h5,h6.trans (hb.mono (Nat.le_trans hB h6.size))⟩
theorem TwoD.new {w w0 w1:World}{x y:D}{b1 b2:Option Addr}{c1 c2 B:Nat}(hb:Below w.heap.size w w1)(hB:B≤w0.heap.size)(o1:OwnD w0 w1 x b1 c1)(o2:OwnD w0 w1 y b2 c2) :
  TwoD w B ((w1.alloc (.cells #[.bool x.neg,.slice b1 (Num.limbs x.m).length c1,.int .i64 x.e] 24)).alloc (.cells #[.bool y.neg,.slice b2 (Num.limbs y.m).length c2,.int .i64 y.e] 24)) x y w1.heap.size (w1.heap.size+1) b1 c1 b2 c2:=by
 have k1:=(Below.refl w1.heap.size w1).alloc (Nat.le_refl _) (.cells #[.bool x.neg,.slice b1 (Num.limbs x.m).length c1,.int .i64 x.e] 24)
 have k2:=k1.alloc (by simp) (.cells #[.bool y.neg,.slice b2 (Num.limbs y.m).length c2,.int .i64 y.e] 24)
 have hs:=o1.1.size
 exact⟨qAE (qAf w1 _) _,qAi w1 _ _,by omega,by omega,qAh (qAr o1.2 k2) hB,qAh (qAr o2.2 k2) hB,qAa hb k2⟩
theorem qNy (x y:Nat):-1≤cmpN x y∧cmpN x y≤1:=by unfold cmpN;split<;>(try split)<;>omega
theorem qMd (x y:D):-1≤sizeC x y∧sizeC x y≤1:=by
 unfold sizeC;split
 ·split<;>omega
 ·exact qNy _ _
theorem qDQ (x:D):signD x=0∨signD x=1∨signD x=-1:=by unfold signD;split<;>(try split)<;>simp
theorem qIM {x y:Nat}(h:bothE x y=0):x=0∧y=0:=by unfold bothE at h;split at h<;>(try split at h)<;>omega
set_option maxRecDepth 100000 in
set_option maxHeartbeats 3200000 in
theorem qMe (g:Bool)(a:Option Addr)(n cap:Nat)(e:Int)(g2:Bool)(a2:Option Addr)(n2 cap2:Nat)(e2:Int)(w:World)(htab:Pow w)(x y:D)(er:Nat)
  (CB:∀W,Below w.heap.size w W→Calls Tryz.prog 137 #[.agg #[.bool g,.slice a n cap,.int .i64 e],.agg #[.bool g2,.slice a2 n2 cap2,.int .i64 e2]] W (OutDD W x y er))
  (hp:er=0→IsPlain x∧fitsB x=true∧IsPlain y∧fitsB y=true) :
  Calls Tryz.prog 96 #[.agg #[.bool g,.slice a n cap,.int .i64 e],.agg #[.bool g2,.slice a2 n2 cap2,.int .i64 e2]] w fun en w' =>
   en=.returned (.tuple #[.int .i64 (if er=0 then cmpR x y else 0),.int .i64 er])∧Below w.heap.size w w':=by
 obtain⟨V,hV⟩:∃V,V=(if er=0 then cmpR x y else 0):=⟨_,rfl⟩
 rw[←hV]
 replace hV:=hid hV
 replace CB:=hid CB
 replace hp:=hid hp
 replace htab:=hid htab
 go_enter Tryz.func96,Tryz.ntmps96
 go_upto_region 1 with fail
 go_cut [6,7,8] from 11 (fun v6 v7 v8 w'=>∃N M b1 c1 b2 c2,v6=.pointer (some ⟨N,0,none⟩)∧v7=.pointer (some ⟨M,0,none⟩)∧v8=.int .i64 er∧TwoD w w.heap.size w' x y N M b1 c1 b2 c2)
 case first =>
  go_wp2_with fail
  refine (CB.out _ (((Below.refl _ _).alloc (Nat.le_refl _) _).alloc (by simp) _)).mono ?_
  rintro e1 w1 ⟨b1,c1,b2,c2,rfl,ho1,ho2⟩
  have HB1:=hid (qAe (qAe ho1.1))
  have I1:=hid ho1
  have I2:=hid ho2
  clear ho1 ho2 CB
  unfold decV
  go_wp2_with fail
  go_meet
  case rel =>
   refine⟨w1.heap.size,w1.heap.size+1,b1,c1,b2,c2,rfl,rfl,rfl,?_⟩
   exact TwoD.new HB1.out (by simp;omega) I1.out I2.out
 case rest =>
  obtain⟨N,M,b1,c1,b2,c2,rfl,rfl,rfl,two⟩:=hcut
  have h1:=qAk two.h1
  have h2:=qAk two.h2
  have z1:=qAo two.h1
  have z2:=qAo two.h2
  obtain⟨⟨k0,k1,k2⟩,_⟩:=h1
  obtain⟨⟨q0,q1,q2⟩,_⟩:=h2
  have TW:=hid two
  clear CB two
  by_cases h0:er=0
  ·obtain⟨px,fx,py,fy⟩:=hp.out h0
   have bx:=qAH px fx
   have bY:=qAH py fy
   have CX:=fun W=>qH4 x b1 c1 W
   have CY:=fun W=>qH4 y b2 c2 W
   have CZ:=fun W (h1:InD W x b1 c1) (h2:InD W y b2 c2) (h3:Pow W)=>qMc x y b1 c1 b2 c2 W h1 h2 bx.1 bY.1 (by omega) (by omega) h3
   have hsb:=qMd x y
   obtain⟨z,hz⟩:∃z,z=sizeC x y:=⟨_,rfl⟩
   have hr:V=if signD x<signD y then -1 else if signD y<signD x then 1 else if signD x=0 then 0 else signD x * z:=by rw[hV.out,if_pos h0,hz];rfl
   rw[←hz] at CZ hsb
   have hs1:=qDQ x
   have hs2:=qDQ y
   obtain⟨s,hs⟩:∃s,s=signD x:=⟨_,rfl⟩
   obtain⟨t,ht⟩:∃t,t=signD y:=⟨_,rfl⟩
   rw[←hs] at CX hs1 hr
   rw[←ht] at CY hs2 hr
   unfold decV at CX CY CZ
   replace CX:=hid CX
   replace CY:=hid CY
   replace CZ:=hid CZ
   subst h0
   have HV:=hid hr
   clear hp px fx py fy bx bY hz hr hs ht hV
   go_upto_region 4 with fail
   go_cut [6,7,9,10] from 11 (fun v6 v7 v9 v10 w'=>v6=.pointer (some ⟨N,0,none⟩)∧v7=.pointer (some ⟨M,0,none⟩)∧v9=.int .i64 s∧v10=.int .i64 t∧Below wc.heap.size wc w')
   case first =>
    go_region_held3 (fun w'=>w'.cell? ⟨N,0,none⟩=some (.bool x.neg)∧w'.cell? ⟨N,1,none⟩=some (.slice b1 (Num.limbs x.m).length c1)∧w'.cell? ⟨N,2,none⟩=some (.int .i64 x.e)∧w'.cell? ⟨M,0,none⟩=some (.bool y.neg)∧w'.cell? ⟨M,1,none⟩=some (.slice b2 (Num.limbs y.m).length c2)∧w'.cell? ⟨M,2,none⟩=some (.int .i64 y.e)∧Below wc.heap.size wc w') (first | (exact⟨k0,k1,k2,q0,q1,q2,(Below.refl _ _).drew⟩) | (exact keepT (by assumption) (Nat.le_refl _) (by assumption))) ((first | (go_at_call 138;(with_reducible refine (CX.out _).mono ?_);rintro e w' ⟨rfl,hb⟩) | (go_at_call 138;(with_reducible refine (CY.out _).mono ?_);rintro e w' ⟨rfl,hb⟩)))
    all_goals
     rename_i hHeld
     obtain⟨_,_,_,_,_,_,hH⟩:=hHeld
     go_wp2_with fail
     go_meet
     case rel=>exact⟨rfl,rfl,rfl,rfl,hH⟩
   case rest =>
    rename_i wc2
    obtain⟨rfl,rfl,rfl,rfl,hb⟩:=hcut
    have HB:=hid (TW.out.bel.trans (hb.mono TW.out.bel.size))
    by_cases hlt:s<t
    ·have HV1:=hid (show V=-1 by rw[HV.out,if_pos hlt])
     clear HV
     go_wp2
     go_ret2
     exact⟨by rw[HV1.out];rfl,HB.out⟩
    ·by_cases hgt:t<s
     ·have HV1:=hid (show V=1 by rw[HV.out,if_neg hlt,if_pos hgt])
      clear HV
      go_wp2
      go_ret2
      exact⟨by rw[HV1.out];rfl,HB.out⟩
     ·obtain rfl:s=t:=by omega
      by_cases hs0:s=0
      ·have HV1:=hid (show V=0 by rw[HV.out,if_neg hlt,if_neg hlt,if_pos hs0])
       subst hs0
       clear HV hs1 hs2 hlt hgt
       go_wp2
       go_ret2
       exact⟨by rw[HV1.out];rfl,HB.out⟩
      ·have HV1:=hid (show V=s * z by rw[HV.out,if_neg hlt,if_neg hlt,if_neg hs0])
       have hne:(s == 0)=false:=by simpa using hs0
       have hs3:s=1∨s=-1:=by omega
       have CI1:=hid (TW.out.i1.below hb)
       have CI2:=hid (TW.out.i2.below hb)
       clear HV hs1 hs2 hlt hgt
       have e1:=qAk (qAb TW.out.h1 hb)
       have e2:=qAk (qAb TW.out.h2 hb)
       have HTB:=hid (htab.out.next HB.out)
       clear k0 k1 k2 q0 q1 q2 z1 z2 hb
       obtain⟨⟨k0,k1,k2⟩,_⟩:=e1
       obtain⟨⟨q0,q1,q2⟩,_⟩:=e2
       rcases hs3 with hs3 | hs3
       all_goals
        subst hs3
        go_wp2_with fail
        refine (CZ.out _ CI1.out CI2.out HTB.out).mono ?_
        rintro e3 w3 ⟨rfl,hb3⟩
        have HB3:=hid (qAa HB.out hb3)
        clear hb3
        go_wp2
        go_ret2
        exact⟨by rw[HV1.out];(try rw[Int.one_mul]);(try rw[Int.neg_mul,Int.one_mul]);rfl,HB3.out⟩
  ·have hne:((er:Int) != 0)=true:=by rw[bne_iff_ne];omega
   have HV:=hid (show V=0 by rw[hV.out,if_neg h0])
   clear h0 hp hV
   go_wp2
   go_ret2
   exact⟨by rw[HV.out];rfl,TW.out.bel⟩
theorem qNz (g:Bool)(a:Option Addr)(cap:Nat)(e:Int)(xs:List Nat)(g2:Bool)(a2:Option Addr)(cap2:Nat)(e2:Int)(ys:List Nat)(w:World)(h:U32 w a xs)(h2:U32 w a2 ys)(htab:Pow w) :
  Calls Tryz.prog 96 #[.agg #[.bool g,.slice a xs.length cap,.int .i64 e],.agg #[.bool g2,.slice a2 ys.length cap2,.int .i64 e2]] w fun en w' =>
   en=.returned (.tuple #[.int .i64 (if bothE (takenE g xs.length (Num.worth xs) e) (takenE g2 ys.length (Num.worth ys) e2)=0 then cmpR (takenD g xs.length (Num.worth xs) e) (takenD g2 ys.length (Num.worth ys) e2) else 0),.int .i64 (bothE (takenE g xs.length (Num.worth xs) e) (takenE g2 ys.length (Num.worth ys) e2):Nat)])∧Below w.heap.size w w':=by
 refine qMe g a xs.length cap e g2 a2 ys.length cap2 e2 w htab _ _ _ (fun W hb=>qMb g a cap e xs g2 a2 cap2 e2 ys W (h.below hb) (h2.below hb) (htab.next hb)) ?_
 intro h0
 obtain⟨z1,z2⟩:=qIM h0
 have q1:=qA6 z1
 have q2:=qA6 z2
 exact⟨q1.1,q1.2,q2.1,q2.2⟩
def Cells3 (W:World) (R:Nat):Prop:=∃x y z T,W.heap[R]? = some (.cells #[x,y,z] T)
theorem Cells3.below {W W':World}{R:Nat}(h:Cells3 W R)(hb:Below W.heap.size W W'):Cells3 W' R:=by
 obtain⟨x,y,z,T,h⟩:=h
 exact⟨x,y,z,T,qAb h hb⟩
theorem Cells3.frozen {W:World}{R:Nat}(h:Cells3 W R)(j:Nat):W.frozen? ⟨R,j,none⟩=false:=by
 obtain⟨x,y,z,T,h⟩:=h
 exact qAC h j
theorem Cells3.get {W:World}{R:Nat}(h:Cells3 W R):∃x y z,W.cell? ⟨R,0,none⟩=some x∧W.cell? ⟨R,1,none⟩=some y∧W.cell? ⟨R,2,none⟩=some z:=by
 obtain⟨x,y,z,T,h⟩:=h
 exact⟨x,y,z,(qAk h).1⟩
theorem Cells3.set3 {W:World}{R:Nat}(h:Cells3 W R)(u v t:Value):Cells3 (((W.setCell ⟨R,0,none⟩ u).setCell ⟨R,1,none⟩ v).setCell ⟨R,2,none⟩ t) R:=by
 obtain⟨x,y,z,T,h⟩:=h
 exact⟨u,v,t,T,by simp[World.setCell,Array.getElem?_modify,h]⟩
theorem qBs {w:World}{base:Nat}{e:TypeId}{size:Nat}{v:Value}{n:Nat}{xs:List Value}(h:w.ownsRow base e size v n xs){R:Nat}(hR:R<base)(p q r:Value) :
  (((w.setCell ⟨R,0,none⟩ p).setCell ⟨R,1,none⟩ q).setCell ⟨R,2,none⟩ r).ownsRow base e size v n xs :=
 ownsRow_setCell_below (ownsRow_setCell_below (ownsRow_setCell_below h hR p) hR q) hR r
theorem qH5 {d:D}(h:fitsB d=true):tellR d=(d,0):=if_pos h
theorem qNA {d:D}(h:¬ fitsB d=true):tellR d=(zeroD,3):=if_neg h
def Tk (er:Nat) (x:D):Prop:=(er=0∧IsPlain x∧fitsB x=true)∨(er≠0∧er≤3∧x=zeroD)
theorem qJR:fitsB zeroD=true:=rfl
theorem qFl (g:Bool)(n m:Nat)(e:Int):Tk (takenE g n m e) (takenD g n m e):=by
 by_cases h:takenE g n m e=0
 ·exact .inl ⟨h,qA6 h⟩
 ·refine .inr ⟨h,?_,?_⟩
  ·unfold takenE;split<;>(try split)<;>omega
  ·rcases qA0 g n m e with h1 | h1
   ·exact absurd h1 h
   ·exact h1.2
theorem Tk.good {er:Nat}{x:D}(h:Tk er x):IsPlain x∧fitsB x=true:=by
 rcases h with h | h
 ·exact h.2
 ·rw[h.2.2];exact⟨qER,qJR⟩
theorem lowE {x:D}(h:IsPlain x∧fitsB x=true):-10400≤x.e:=(qAH h.1 h.2).2.1
def cmpI (a b:Int):Int:=if a<b then -1 else if b<a then 1 else 0
theorem qLR (a b:Int):cmpI a b=- cmpI b a:=by unfold cmpI;split<;>split<;>(try split)<;>omega
theorem qLS (X Y:Nat){P:Nat}(h:0<P):cmpN (X * P) (Y * P)=cmpN X Y:=by
 unfold cmpN
 have h1:X * P<Y * P ↔ X<Y:=Nat.mul_lt_mul_right h
 have h2:Y * P<X * P ↔ Y<X:=Nat.mul_lt_mul_right h
 simp only[h1,h2]
theorem qLT {m:Nat}(e:Int)(hm:m≠0)(he:-100000≤e):10 ^ upE (e+(Num.digs 10 m).length-1)≤m * 10 ^ upE e:=by
 have hl:=Num.length_pos (b:=10) (by decide) hm
 obtain⟨k,hk⟩:∃k,(Num.digs 10 m).length=k+1:=⟨(Num.digs 10 m).length-1,by omega⟩
 have h1:10 ^ k≤m:=Num.pow_le_of_lt_length (by decide) (by omega)
 have h2:upE (e+(Num.digs 10 m).length-1)=k+upE e:=by unfold upE;omega
 rw[h2,Nat.pow_add]
 exact Nat.mul_le_mul_right _ h1
theorem qJS {m:Nat}(e:Int)(he:-100000≤e):m * 10 ^ upE e<10 ^ upE (e+(Num.digs 10 m).length):=by
 have h1:m<10 ^ (Num.digs 10 m).length:=Num.lt_pow_length (by decide) m
 have h2:upE (e+(Num.digs 10 m).length)=(Num.digs 10 m).length+upE e:=by unfold upE;omega
 rw[h2,Nat.pow_add]
 exact Nat.mul_lt_mul_of_pos_right h1 (qBq _)
theorem qJT {x y:D}(hx:-100000≤x.e)(hy:-100000≤y.e)(y0:y.m≠0)(h:headD x<headD y):x.m * 10 ^ upE x.e<y.m * 10 ^ upE y.e:=by
 unfold headD at h
 refine Nat.lt_of_lt_of_le (qJS x.e hx) (Nat.le_trans ?_ (qLT y.e y0 hy))
 exact Nat.pow_le_pow_right (by decide) (by unfold upE;omega)
theorem qIG {x y:D}(hx:-100000≤x.e)(hy:-100000≤y.e)(x0:x.m≠0)(y0:y.m≠0):sizeC x y=cmpN (x.m * 10 ^ upE x.e) (y.m * 10 ^ upE y.e):=by
 unfold sizeC
 by_cases he:headD x=headD y
 ·rw[if_neg (by simpa using he)]
  obtain⟨k,hk⟩:∃k,k=min x.e y.e:=⟨_,rfl⟩
  rw[←hk,←qDJ x.m x.e k (by omega) (by omega),←qDJ y.m y.e k (by omega) (by omega),qLS _ _ (qBq _)]
 ·rw[if_pos he]
  by_cases hlt:headD x<headD y
  ·rw[if_pos hlt,qDd (qJT hx hy y0 hlt)]
  ·rw[if_neg hlt,qDe (qJT hy hx x0 (by omega))]
theorem qLU (s t a b z:Int)(X Y:Nat)(hX:0<X)(hY:0<Y)(hs:s=1∨s=-1)(ht:t=1∨t=-1)(ha:a=s * (X:Int))(hb:b=t * (Y:Int))(hz:z=cmpN X Y) :
  (if s<t then (-1:Int) else if t<s then 1 else if s=0 then 0 else s * z)=cmpI a b:=by
 unfold cmpI
 have h3:(X<Y∧z=-1)∨(Y<X∧z=1)∨(X=Y∧z=0):=by
  unfold cmpN at hz
  by_cases h1:X<Y
  ·exact .inl ⟨h1,by rw[hz,if_pos h1]⟩
  ·by_cases h2:Y<X
   ·exact .inr (.inl ⟨h2,by rw[hz,if_neg h1,if_pos h2]⟩)
   ·exact .inr (.inr ⟨by omega,by rw[hz,if_neg h1,if_neg h2]⟩)
 clear hz
 rcases hs with rfl | rfl<;>rcases ht with rfl | rfl<;>rcases h3 with ⟨h3,rfl⟩ | ⟨h3,rfl⟩ | ⟨h3,rfl⟩<;>(repeat (first | omega | split))
theorem qIH {x y:D}(hx:-100000≤x.e)(hy:-100000≤y.e):cmpR x y=cmpI (wo x) (wo y):=by
 have sx:signD x=if x.m=0 then 0 else sgn x.neg:=rfl
 have sy:signD y=if y.m=0 then 0 else sgn y.neg:=rfl
 have pos:∀(d:D),d.m≠0→0<d.m * 10 ^ upE d.e:=fun d h=>Nat.mul_pos (by omega) (qBq _)
 unfold cmpR
 rw[sx,sy]
 by_cases x0:x.m=0
 ·rw[if_pos x0,(qCx x).2 x0]
  by_cases y0:y.m=0
  ·rw[if_pos y0,(qCx y).2 y0];rfl
  ·rw[if_neg y0]
   have hw:wo y=sgn y.neg * ((y.m * 10 ^ upE y.e:Nat):Int):=rfl
   have:=pos y y0
   generalize y.m * 10 ^ upE y.e=Y at *
   rw[hw]
   unfold cmpI
   rcases qBY y.neg with h | h<;>rw[h]<;>(repeat (first | omega | split))
 ·rw[if_neg x0]
  by_cases y0:y.m=0
  ·rw[if_pos y0,(qCx y).2 y0]
   have hw:wo x=sgn x.neg * ((x.m * 10 ^ upE x.e:Nat):Int):=rfl
   have:=pos x x0
   generalize x.m * 10 ^ upE x.e=X at *
   rw[hw]
   unfold cmpI
   rcases qBY x.neg with h | h<;>rw[h]<;>(repeat (first | omega | split))
  ·rw[if_neg y0]
   exact qLU _ _ _ _ _ _ _ (pos x x0) (pos y y0) (qBY _) (qBY _) rfl rfl (qIG hx hy x0 y0)
theorem qCf (a b:Int):(a<b∧cmpI a b=-1)∨(b<a∧cmpI a b=1)∨(a=b∧cmpI a b=0):=by
 unfold cmpI
 by_cases h1:a<b
 ·exact .inl ⟨h1,if_pos h1⟩
 ·by_cases h2:b<a
  ·exact .inr (.inl ⟨h2,by rw[if_neg h1,if_pos h2]⟩)
  ·exact .inr (.inr ⟨by omega,by rw[if_neg h1,if_neg h2]⟩)
theorem digs_lt {m k:Nat}(h:(Num.digs 10 m).length≤k):m<10 ^ k:=(Num.digs_length_le (by decide)).1 h
section
variable {P:Program} {ops:Array Oper} {o:Oper} {a:Act} {K:Act→World→Prop} {Q:Exit→Act→World→Prop} {E:Prop}
end
end Go.Proofs.YtcgbmmalfbpjaaaGreatDoor
