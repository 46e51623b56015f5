/-  -/
import Derived.Test.YtcgbmmalfbpjaaaGreatDoorMd
import Derived.Test.YtcgbmmalfbpjaaaGreatDoorMe
set_option maxRecDepth 100000
set_option maxHeartbeats 16000000
namespace Go.Proofs.YtcgbmmalfbpjaaaGreatDoor
open Go.RowKit
theorem nX (b off cap b2 off2 cap2 n:Nat)(xs ys:List Nat)(w:World)(hx:xs.length=n)(hy:ys.length=n)(hn:n≤9223372036854775807)
  (c1:∀j,j<n→w.cell? ⟨b,off+j,none⟩=some (.int .u32 ((xs.getD j 0:Nat):Int)))(c2:∀j,j<n→w.cell? ⟨b2,off2+j,none⟩=some (.int .u32 ((ys.getD j 0:Nat):Int))) :
  Calls Tryz.prog 88 #[.slice (some ⟨b,off,none⟩) n cap,.slice (some ⟨b2,off2,none⟩) n cap2] w fun en w'=>en=.returned (.bool (decide (xs=ys)))∧Below w.heap.size w w':=by
 have HX:=hid hx
 have HY:=hid hy
 have C1:=hid c1
 have C2:=hid c2
 obtain⟨r,hr⟩:∃r,r=decide (xs=ys):=⟨_,rfl⟩
 rw[←hr]
 have HR:=hid hr
 clear hx hy c1 c2 hr
 go_enter Tryz.func88,Tryz.ntmps88
 go_wp2
 go_loopw [5] (fun i wr=>∃k:Nat,k≤n∧i=.int .i64 k∧xs.take k=ys.take k∧(∃m,wr=w.drewN m)) (fun i wr=>n-(intOf i).toNat)
 case atStart=>exact⟨0,Nat.zero_le _,rfl,rfl,0,rfl⟩
 case round =>
  obtain⟨k,hk,rfl,ht,m,rfl⟩:=hrel
  have HT:=hid ht
  clear ht
  by_cases hlt:k<n
  ·obtain⟨x,hxe⟩:∃x,x=xs.getD k 0:=⟨_,rfl⟩
   obtain⟨y,hye⟩:∃y,y=ys.getD k 0:=⟨_,rfl⟩
   have g1:=C1.out k hlt
   have g2:=C2.out k hlt
   rw[←hxe] at g1
   rw[←hye] at g2
   have hm1:k<xs.length:=by have:=HX.out;omega
   have hm2:k<ys.length:=by have:=HY.out;omega
   have HXE:=hid hxe
   have HYE:=hid hye
   have M1:=hid hm1
   have M2:=hid hm2
   have hki:(0:Int)≤(k:Int)∧(k:Int)<(n:Int):=by omega
   have g1:(w.drewN m).cell? ⟨b,off+k,none⟩=some (.int .u32 (x:Int)):=g1
   have g2:(w.drewN m).cell? ⟨b2,off2+k,none⟩=some (.int .u32 (y:Int)):=g2
   clear hxe hye hm1 hm2
   by_cases hxy:x=y
   ·have HE:Hid (xs.take (k+1)=ys.take (k+1)):=by
     have e1:=HXE.out
     have e2:=HYE.out
     rw[List.take_add_one,List.take_add_one,List.getElem?_eq_getElem M1.out,List.getElem?_eq_getElem M2.out,HT.out]
     rw[List.getD_eq_getElem?_getD,List.getElem?_eq_getElem M1.out] at e1
     rw[List.getD_eq_getElem?_getD,List.getElem?_eq_getElem M2.out] at e2
     simp only[Option.getD_some] at e1 e2
     rw[←e1,←e2,hxy]
     exact rfl
    subst hxy
    go_wp2_with fail
    go_quiet (fail)
    go_wp2
    go_roundw
    case rel=>exact⟨k+1,by omega,by go_num,HE.out,_,rfl⟩
    case measure=>simp[intOf];omega
   ·have hne:((x:Int) != (y:Int))=true:=by
     rw[bne_iff_ne];omega
    have HN:Hid (r=false):=by
     rw[HR.out,decide_eq_false_iff_not]
     intro e
     exact hxy (by rw[HXE.out,HYE.out,e])
    clear hxy
    go_wp2_with fail
    go_quiet (fail)
    go_wp2
    go_ret
    exact⟨dF HN.out.symm,below_drewN (below_drewN (Below.refl _ _) _) _⟩
  ·obtain rfl:n=k:=by omega
   have HE:Hid (r=true):=by
    rw[HR.out,decide_eq_true_eq]
    have:=HT.out
    rwa [List.take_of_length_le (by have:=HX.out;omega),List.take_of_length_le (by have:=HY.out;omega)] at this
   go_wp2
   go_ret
   exact⟨dF HE.out.symm,below_drewN (Below.refl _ _) _⟩
theorem nY (a a2:Option Addr)(cap cap2:Nat)(w:World) :
  Calls Tryz.prog 88 #[.slice a 0 cap,.slice a2 0 cap2] w fun en w'=>en=.returned (.bool true)∧Below w.heap.size w w':=by
 go_enter Tryz.func88,Tryz.ntmps88
 go_wp2
 refine wp_loop_rounds 1 ?_
 rw[rounds_succ]
 go_wp2
 go_ret
 exact⟨rfl,Below.refl _ _⟩
theorem nZ (a a2:Option Addr)(n n2 cap cap2:Nat)(w:World)(h:n≠n2) :
  Calls Tryz.prog 88 #[.slice a n cap,.slice a2 n2 cap2] w fun en w'=>en=.returned (.bool false)∧Below w.heap.size w w':=by
 have hn:((n:Int) != (n2:Int))=true:=by rw[bne_iff_ne];omega
 clear h
 go_enter Tryz.func88,Tryz.ntmps88
 go_wp2
 go_ret
 exact⟨rfl,Below.refl _ _⟩
theorem Aq (a a2:Option Addr)(cap cap2:Nat)(xs ys:List Nat)(w:World)(h:U32 w a xs)(h2:U32 w a2 ys)(hn:xs.length≤9223372036854775807) :
  Calls Tryz.prog 88 #[.slice a xs.length cap,.slice a2 ys.length cap2] w fun en w'=>en=.returned (.bool (decide (xs=ys)))∧Below w.heap.size w w':=by
 by_cases hl:xs.length=ys.length
 ·by_cases h0:xs=[]
  ·subst h0
   obtain rfl:ys=[]:=List.length_eq_zero_iff.1 hl.symm
   simp only[decide_true]
   exact nY a a2 cap cap2 w
  ·have h1:ys≠[]:=by intro e;rw[e] at hl;exact h0 (List.length_eq_zero_iff.1 hl)
   obtain⟨b,off,rfl⟩:=h.isSome h0
   obtain⟨b2,off2,rfl⟩:=h2.isSome h1
   rw[←hl]
   exact nX b off cap b2 off2 cap2 xs.length xs ys w rfl hl.symm hn (fun j hj=>h.row.u32 hj) (fun j hj=>h2.row.u32 (by omega))
 ·have:decide (xs=ys)=false:=by
   rw[decide_eq_false_iff_not];intro e;exact hl (by rw[e])
  rw[this]
  exact nZ a a2 _ _ cap cap2 w hl
theorem Ar (g g2:Bool)(a a2:Option Addr)(cap cap2:Nat)(e e2:Int)(xs ys:List Nat)(w:World)(h:U32 w a xs)(h2:U32 w a2 ys)(hn:xs.length≤9223372036854775807) :
  Calls Tryz.prog 58 #[.agg #[.bool g,.slice a xs.length cap,.int .i64 e],.agg #[.bool g2,.slice a2 ys.length cap2,.int .i64 e2]] w fun en w'=>en=.returned (.bool (decide (g=g2∧e=e2∧xs=ys)))∧Below w.heap.size w w':=by
 have C:=fun W (hb:Below w.heap.size w W)=>Aq a a2 cap cap2 xs ys W (h.below hb) (h2.below hb) hn
 obtain⟨r,hr⟩:∃r,r=decide (g=g2∧e=e2∧xs=ys):=⟨_,rfl⟩
 rw[←hr]
 obtain⟨n,hn2⟩:∃n,n=xs.length:=⟨_,rfl⟩
 obtain⟨n2,hn3⟩:∃n,n=ys.length:=⟨_,rfl⟩
 rw[←hn2,←hn3] at C ⊢
 clear h h2 hn hn2 hn3
 by_cases hg:g=g2
 ·subst hg
  by_cases he:e=e2
  ·subst he
   obtain⟨q,hq⟩:∃q,q=decide (xs=ys):=⟨_,rfl⟩
   rw[←hq] at C
   have HR:=hid (show r=q by rw[hr,hq];simp)
   have C:=hid C
   clear hr hq
   cases g
   all_goals
    go_enter Tryz.func58,Tryz.ntmps58
    go_wp2_with fail
    refine (C.out _ (((Below.refl _ _).alloc (Nat.le_refl _) _).alloc (by simp) _)).mono ?_
    rintro e1 w1 ⟨rfl,hb1⟩
    have HB:=hid (ak (ak hb1))
    clear hb1
    go_wp2
    go_ret
    exact⟨dF HR.out.symm,HB.out⟩
  ·have hn:(e == e2)=false:=by simpa using he
   have HR:=hid (show r=false by rw[hr];simp[he])
   clear he hr C
   cases g
   all_goals
    go_enter Tryz.func58,Tryz.ntmps58
    go_wp2
    go_ret
    exact⟨dF HR.out.symm,((Below.refl _ _).alloc (Nat.le_refl _) _).alloc (by simp) _⟩
 ·have HR:=hid (show r=false by rw[hr];simp[hg])
  clear hr C
  cases g<;>cases g2
  case false.false=>exact absurd rfl hg
  case true.true=>exact absurd rfl hg
  all_goals
   clear hg
   go_enter Tryz.func58,Tryz.ntmps58
   go_wp2
   go_ret
   exact⟨dF HR.out.symm,((Below.refl _ _).alloc (Nat.le_refl _) _).alloc (by simp) _⟩
theorem yU {w:World}{N x:Nat}(hx:x<4294967296)(h:w.cell? ⟨N,0,none⟩=some (.int .u32 x)):U32 w (some ⟨N,0,none⟩) [x]:=by
 refine⟨?_,fun y hy=>by simp at hy;omega⟩
 intro j v hv
 cases j with
 | zero =>
  simp[u32s] at hv
  subst hv
  exact⟨N,0,rfl,h⟩
 | succ j=>simp[u32s] at hv
end Go.Proofs.YtcgbmmalfbpjaaaGreatDoor
