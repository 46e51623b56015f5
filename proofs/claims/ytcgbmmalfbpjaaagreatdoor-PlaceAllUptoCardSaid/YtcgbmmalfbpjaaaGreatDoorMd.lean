/-  -/
import Derived.Test.YtcgbmmalfbpjaaaGreatDoorMc
import Derived.Test.YtcgbmmalfbpjaaaGreatDoorMb
import Derived.Laws.RangeAny
import Derived.Defers
import Derived.Deep.Cut
import Derived.RegionTactic
import Derived.BigRegion
import Derived.ChangeAlike
import Derived.Laws.ResultCell
set_option maxRecDepth 100000
set_option maxHeartbeats 16000000
namespace Go.Proofs.YtcgbmmalfbpjaaaGreatDoor
open Go.RowKit
def isD (c:UInt8):Bool:=decide (48≤c.toNat) && decide (c.toNat≤57)
theorem xY {c:UInt8}:isD c=true ↔ 48≤c.toNat∧c.toNat≤57:=by simp[isD]
theorem oZ:∀(l:List UInt8) (acc:Nat),Digs l→(acc+1) * 10 ^ l.length≤1000000000000000000→Lib.parseUint10 acc l=.ok (num10 l acc)
 | [],acc,_,_=>rfl
 | c :: r,acc,h,hb=>by
  have hc:=h c (by simp)
  have hp:1≤10 ^ r.length:=Nat.pow_pos (by decide)
  rw[List.length_cons,Nat.pow_succ] at hb
  have h1:(acc+1) * (10 ^ r.length * 10)=(acc * 10+10) * 10 ^ r.length:=by
   rw[show acc * 10+10=(acc+1) * 10 by omega];ac_rfl
  rw[h1] at hb
  have h2:(acc * 10+10) * 1≤(acc * 10+10) * 10 ^ r.length:=Nat.mul_le_mul_left _ hp
  have h3:(acc * 10+(c.toNat-48)+1) * 10 ^ r.length≤(acc * 10+10) * 10 ^ r.length:=Nat.mul_le_mul_right _ (by omega)
  have ih:=oZ r (acc * 10+(c.toNat-48)) (fun d hd=>h d (by simp[hd])) (by omega)
  rw[Lib.parseUint10,if_pos hc,if_neg (by omega),if_neg (by omega),ih,num10,Nat.mul_comm 10]
theorem BI (K J:Nat)(h:K≤9 * J):10 ^ K≤Num.B9 ^ J:=by
 show 10 ^ K≤(10 ^ 9) ^ J
 rw[←Nat.pow_mul]
 exact Nat.pow_le_pow_right (by decide) h
theorem jZ {m K J:Nat}(h:(Num.digs 10 m).length≤K)(hK:K≤9 * J):(Num.limbs m).length≤J :=
 aT.2 (Nat.lt_of_lt_of_le ((Num.digs_length_le (by decide)).1 h) (BI K J hK))
def signD (d:D):Int:=if d.m=0 then 0 else if d.neg=true then -1 else 1
theorem mF (m:Nat):(Num.limbs m).length=0 ↔ m=0:=by
 rw[List.length_eq_zero_iff];exact Num.digs_eq_nil Num.two_le_B9
theorem oI (g:Bool)(b off cap b2 off2 cap2 n:Nat)(e:Int)(xs ys:List Nat)(w:World)(hx:xs.length=n)(hy:ys.length=n)(hn:n≤1000000000)
  (c1:∀j,j<n→w.cell? ⟨b,off+j,none⟩=some (.int .u32 ((xs.getD j 0:Nat):Int)))(c2:∀j,j<n→w.cell? ⟨b2,off2+j,none⟩=some (.int .u32 ((ys.getD j 0:Nat):Int)))
  (l1:∀j,j<n→b<w.heap.size)(l2:∀j,j<n→b2<w.heap.size) :
  Calls Tryz.prog 110 #[.agg #[.bool g,.slice (some ⟨b,off,none⟩) n cap,.int .i64 e],.agg #[.bool g,.slice (some ⟨b2,off2,none⟩) n cap2,.int .i64 e]] w fun en w'=>en=.returned (.bool (decide (xs=ys)))∧Below w.heap.size w w':=by
 have HX:=hid hx
 have HY:=hid hy
 have C1:=hid c1
 have C2:=hid c2
 have L1:=hid l1
 have L2:=hid l2
 obtain⟨r,hr⟩:∃r,r=decide (xs=ys):=⟨_,rfl⟩
 rw[←hr]
 have HR:=hid hr
 clear hx hy c1 c2 l1 l2 hr
 go_enter Tryz.func110,Tryz.ntmps110
 go_wp2
 go_loop [31] (fun i=>∃k:Nat,k≤n∧i=.int .i64 k∧xs.take k=ys.take k) (fun i=>n-(intOf i).toNat)
 case atStart=>exact⟨0,Nat.zero_le _,rfl,rfl⟩
 case round =>
  obtain⟨k,hk,rfl,ht⟩:=hrel
  have HT:=hid ht
  clear ht
  by_cases hlt:k<n
  ·obtain⟨x,hxe⟩:∃x,x=xs.getD k 0:=⟨_,rfl⟩
   obtain⟨y,hye⟩:∃y,y=ys.getD k 0:=⟨_,rfl⟩
   have g1:=C1.out k hlt
   have g2:=C2.out k hlt
   rw[←hxe] at g1
   rw[←hye] at g2
   have hm1:k<xs.length:=by have:=HX.out;omega
   have hm2:k<ys.length:=by have:=HY.out;omega
   have b1:=L1.out k hlt
   have b2:=L2.out k hlt
   have HXE:=hid hxe
   have HYE:=hid hye
   have M1:=hid hm1
   have M2:=hid hm2
   clear hxe hye hm1 hm2
   by_cases hxy:x=y
   ·have HE:Hid (xs.take (k+1)=ys.take (k+1)):=by
     have e1:=HXE.out
     have e2:=HYE.out
     rw[List.take_add_one,List.take_add_one,List.getElem?_eq_getElem M1.out,List.getElem?_eq_getElem M2.out,HT.out]
     rw[List.getD_eq_getElem?_getD,List.getElem?_eq_getElem M1.out] at e1
     rw[List.getD_eq_getElem?_getD,List.getElem?_eq_getElem M2.out] at e2
     simp only[Option.getD_some] at e1 e2
     rw[←e1,←e2,hxy]
     exact rfl
    subst hxy
    go_wp2
    go_round
    case rel=>exact⟨k+1,by omega,by go_num,HE.out⟩
    case measure=>simp[intOf];omega
   ·have hne:((y:Int) != (x:Int))=true:=by
     rw[bne_iff_ne];omega
    have HN:Hid (r=false):=by
     rw[HR.out,decide_eq_false_iff_not]
     intro e
     exact hxy (by rw[HXE.out,HYE.out,e])
    clear hxy
    go_wp2
    go_ret
    exact⟨dF HN.out.symm,((Below.refl _ _).alloc (Nat.le_refl _) _).alloc (by simp) _⟩
  ·obtain rfl:n=k:=by omega
   have HE:Hid (r=true):=by
    rw[HR.out,decide_eq_true_eq]
    have:=HT.out
    rwa [List.take_of_length_le (by have:=HX.out;omega),List.take_of_length_le (by have:=HY.out;omega)] at this
   go_wp2
   go_ret
   exact⟨dF HE.out.symm,((Below.refl _ _).alloc (Nat.le_refl _) _).alloc (by simp) _⟩
theorem oJ (g:Bool)(a a2:Option Addr)(cap cap2:Nat)(e:Int)(w:World) :
  Calls Tryz.prog 110 #[.agg #[.bool g,.slice a 0 cap,.int .i64 e],.agg #[.bool g,.slice a2 0 cap2,.int .i64 e]] w fun en w'=>en=.returned (.bool true)∧Below w.heap.size w w':=by
 go_enter Tryz.func110,Tryz.ntmps110
 go_wp2
 refine wp_loop_rounds 1 ?_
 rw[rounds_succ]
 go_wp2
 go_ret
 exact⟨rfl,((Below.refl _ _).alloc (Nat.le_refl _) _).alloc (by simp) _⟩
theorem oK (g g2:Bool)(a a2:Option Addr)(n n2 cap cap2:Nat)(e e2:Int)(w:World)(h:g≠g2∨e≠e2∨n≠n2) :
  Calls Tryz.prog 110 #[.agg #[.bool g,.slice a n cap,.int .i64 e],.agg #[.bool g2,.slice a2 n2 cap2,.int .i64 e2]] w fun en w'=>en=.returned (.bool false)∧Below w.heap.size w w':=by
 by_cases hg:g=g2
 ·subst hg
  by_cases he:e=e2
  ·subst he
   have hn:((n:Int) != (n2:Int))=true:=by rw[bne_iff_ne];rcases h with h | h | h<;>first | exact absurd rfl h | omega
   clear h
   go_enter Tryz.func110,Tryz.ntmps110
   go_wp2
   go_ret
   exact⟨rfl,((Below.refl _ _).alloc (Nat.le_refl _) _).alloc (by simp) _⟩
  ·have hn:(e != e2)=true:=by simpa using he
   clear h he
   go_enter Tryz.func110,Tryz.ntmps110
   go_wp2
   go_ret
   exact⟨rfl,((Below.refl _ _).alloc (Nat.le_refl _) _).alloc (by simp) _⟩
 ·clear h
  cases g<;>cases g2
  case false.false=>exact absurd rfl hg
  case true.true=>exact absurd rfl hg
  all_goals
   clear hg
   go_enter Tryz.func110,Tryz.ntmps110
   go_wp2
   go_ret
   exact⟨rfl,((Below.refl _ _).alloc (Nat.le_refl _) _).alloc (by simp) _⟩
theorem BH (g g2:Bool)(a a2:Option Addr)(cap cap2:Nat)(e e2:Int)(xs ys:List Nat)(w:World)(h:U32 w a xs)(h2:U32 w a2 ys)(hn:xs.length≤1000000000) :
  Calls Tryz.prog 110 #[.agg #[.bool g,.slice a xs.length cap,.int .i64 e],.agg #[.bool g2,.slice a2 ys.length cap2,.int .i64 e2]] w fun en w'=>en=.returned (.bool (decide (g=g2∧e=e2∧xs=ys)))∧Below w.heap.size w w':=by
 by_cases hd:g≠g2∨e≠e2∨xs.length≠ys.length
 ·have:decide (g=g2∧e=e2∧xs=ys)=false:=by
   rw[decide_eq_false_iff_not];rintro ⟨h1,h2,h3⟩
   rcases hd with h | h | h
   ·exact h h1
   ·exact h h2
   ·exact h (by rw[h3])
  rw[this]
  exact oK g g2 a a2 _ _ cap cap2 e e2 w hd
 ·have hg:g=g2:=Classical.byContradiction fun h=>hd (.inl h)
  have he:e=e2:=Classical.byContradiction fun h=>hd (.inr (.inl h))
  have hl:xs.length=ys.length:=Classical.byContradiction fun h=>hd (.inr (.inr h))
  subst hg he
  by_cases h0:xs=[]
  ·subst h0
   obtain rfl:ys=[]:=List.length_eq_zero_iff.1 hl.symm
   simp only[and_self,decide_true]
   exact oJ g a a2 cap cap2 e w
  ·have h1:ys≠[]:=by intro e;rw[e] at hl;exact h0 (List.length_eq_zero_iff.1 hl)
   obtain⟨b,off,rfl⟩:=h.isSome h0
   obtain⟨b2,off2,rfl⟩:=h2.isSome h1
   have C:=oI g b off cap b2 off2 cap2 xs.length e xs ys w rfl hl.symm hn (fun j hj=>h.row.u32 hj) (fun j hj=>h2.row.u32 (by omega)) (fun j hj=>ax (h.row.u32 hj)) (fun j hj=>ax (h2.row.u32 (show j<ys.length by omega)))
   rw[←hl]
   have e1:decide (g=g∧e=e∧xs=ys)=decide (xs=ys):=by simp
   rw[e1]
   exact C
theorem DY (g:Bool)(a:Option Addr)(cap:Nat)(e:Int)(xs:List Nat)(w:World)(h:U32 w a xs)(htab:Pow w) :
  Calls Tryz.prog 69 #[.agg #[.bool g,.slice a xs.length cap,.int .i64 e]] w fun en w'=>en=.returned (.bool (mayB g xs e))∧Below w.heap.size w w':=by
 have C:=fun W (hb:Below w.heap.size w W)=>kC g a cap e xs W (h.below hb) (htab.next hb)
 have HU:=hid h
 obtain⟨r,hr⟩:∃r,r=mayB g xs e:=⟨_,rfl⟩
 rw[←hr]
 rcases jA g xs.length (Num.worth xs) e with h0 | ⟨h0,hz⟩
 ·unfold mayB at hr
  obtain⟨hn,hd,hf⟩:=iY h0
  obtain⟨h1,h2,h3⟩:=eX.1 hn
  obtain⟨hb1,hb2⟩:=iZ h.lt h1
  have pm:=fO g (Num.worth xs) e
  have hlm:(Num.limbs (plainD g (Num.worth xs) e).m).length≤201:=Nat.le_trans (Num.digs_length_mono Num.two_le_B9 pm) hb2
  rw[←hd] at hlm
  rw[h0] at C hr
  obtain⟨d,hdd⟩:∃d,d=takenD g xs.length (Num.worth xs) e:=⟨_,rfl⟩
  rw[←hdd] at C hr hlm
  have HR:=hid (show r=decide (d.neg=g∧d.e=e∧Num.limbs d.m=xs) by rw[hr];simp)
  have C:=hid C
  clear h htab h0 hn hd hf h1 h2 h3 hb1 hb2 pm hdd hr
  go_enter Tryz.func69,Tryz.ntmps69
  go_wp2_with fail
  refine (C.out _ ((Below.refl _ _).alloc (Nat.le_refl _) _)).mono ?_
  rintro e1 w1 ⟨a1,c1,he,ho⟩
  have HI:=hid ho.inD
  have HB:=hid (ak ho.1)
  obtain⟨⟨k0,k1,k2⟩,_⟩:=aN (af (aj w _) ho.1)
  have hz1:w.heap.size<w1.heap.size:=by have:=ho.1.size;simp at this;omega
  unfold decV at he
  subst he
  clear ho C
  go_wp2_with fail
  refine (BH d.neg g a1 a c1 cap d.e e (Num.limbs d.m) xs _ (HI.out.u.below ((Below.refl _ _).alloc (Nat.le_refl _) _)) ((HU.out.below HB.out).below ((Below.refl _ _).alloc (Nat.le_refl _) _)) (by omega)).mono ?_
  rw[←HR.out]
  rintro e2 w2 ⟨rfl,hb2⟩
  have HB2:=hid (ae HB.out (ak hb2))
  clear hb2 k0 k1 k2
  go_wp2
  go_ret
  exact⟨rfl,HB2.out⟩
 ·have hr':r=false:=by rw[hr];unfold mayB;rw[decide_eq_false_iff_not];exact fun h=>h0 h.1
  subst hr'
  rw[hz] at C
  obtain⟨er,her⟩:∃er,er=takenE g xs.length (Num.worth xs) e:=⟨_,rfl⟩
  rw[←her] at C h0
  have h0':((er:Int) == 0)=false:=by rw[beq_eq_false_iff_ne];omega
  have C:=hid C
  clear h htab h0 hz her hr
  go_enter Tryz.func69,Tryz.ntmps69
  go_wp2_with fail
  refine (C.out _ ((Below.refl _ _).alloc (Nat.le_refl _) _)).mono ?_
  rintro e1 w1 ⟨a1,c1,he,ho⟩
  have HB:=hid (ak ho.1)
  unfold decV at he
  subst he
  clear ho C
  go_wp2
  go_ret
  exact⟨rfl,HB.out.alloc HB.out.size _⟩
end Go.Proofs.YtcgbmmalfbpjaaaGreatDoor
