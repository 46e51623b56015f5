/-  -/
import Derived.Test.YtcgbmmalfbpjaaaGreatDoorMd
import Derived.Test.YtcgbmmalfbpjaaaGreatDoorMe
set_option maxRecDepth 100000
set_option maxHeartbeats 16000000
namespace Go.Proofs.YtcgbmmalfbpjaaaGreatDoor
open Go.RowKit
theorem nX (b off cap b2 off2 cap2 n:Nat)(xs ys:List Nat)(w:World)(hx:xs.length=n)(hy:ys.length=n)(hn:n≤9223372036854775807)
  (c1:∀j,j<n→w.cell? ⟨b,off+j,none⟩=some (.int .u32 ((xs.getD j 0:Nat):Int)))(c2:∀j,j<n→w.cell? ⟨b2,off2+j,none⟩=some (.int .u32 ((ys.getD j 0:Nat):Int))) :
  Calls Tryz.prog 88 #[.slice (some ⟨b,off,none⟩) n cap,.slice (some ⟨b2,off2,none⟩) n cap2] w fun en w'=>en=.returned (.bool (decide (xs=ys)))∧Below w.heap.size w w':=by
 have HX:=hid hx
 have HY:=hid hy
 have C1:=hid c1
 have C2:=hid c2
 obtain⟨r,hr⟩:∃r,r=decide (xs=ys):=⟨_,rfl⟩
 rw[←hr]
 have HR:=hid hr
 clear hx hy c1 c2 hr
 go_enter Tryz.func88,Tryz.ntmps88
 go_wp2
 go_loopw [5] (fun i wr=>∃k:Nat,k≤n∧i=.int .i64 k∧xs.take k=ys.take k∧(∃m,wr=w.drewN m)) (fun i wr=>n-(intOf i).toNat)
 case atStart=>exact⟨0,Nat.zero_le _,rfl,rfl,0,rfl⟩
 case round =>
  obtain⟨k,hk,rfl,ht,m,rfl⟩:=hrel
  have HT:=hid ht
  clear ht
  by_cases hlt:k<n
  ·obtain⟨x,hxe⟩:∃x,x=xs.getD k 0:=⟨_,rfl⟩
   obtain⟨y,hye⟩:∃y,y=ys.getD k 0:=⟨_,rfl⟩
   have g1:=C1.out k hlt
   have g2:=C2.out k hlt
   rw[←hxe] at g1
   rw[←hye] at g2
   have hm1:k<xs.length:=by have:=HX.out;omega
   have hm2:k<ys.length:=by have:=HY.out;omega
   have HXE:=hid hxe
   have HYE:=hid hye
   have M1:=hid hm1
   have M2:=hid hm2
   have hki:(0:Int)≤(k:Int)∧(k:Int)<(n:Int):=by omega
   have g1:(w.drewN m).cell? ⟨b,off+k,none⟩=some (.int .u32 (x:Int)):=g1
   have g2:(w.drewN m).cell? ⟨b2,off2+k,none⟩=some (.int .u32 (y:Int)):=g2
   clear hxe hye hm1 hm2
   by_cases hxy:x=y
   ·have HE:Hid (xs.take (k+1)=ys.take (k+1)):=by
     have e1:=HXE.out
     have e2:=HYE.out
     rw[List.take_add_one,List.take_add_one,List.getElem?_eq_getElem M1.out,List.getElem?_eq_getElem M2.out,HT.out]
     rw[List.getD_eq_getElem?_getD,List.getElem?_eq_getElem M1.out] at e1
     rw[List.getD_eq_getElem?_getD,List.getElem?_eq_getElem M2.out] at e2
     simp only[Option.getD_some] at e1 e2
     rw[←e1,←e2,hxy]
     exact rfl
    subst hxy
    go_wp2_with fail
    go_quiet (fail)
    go_wp2
    go_roundw
    case rel=>exact⟨k+1,by omega,by go_num,HE.out,_,rfl⟩
    case measure=>simp[intOf];omega
   ·have hne:((x:Int) != (y:Int))=true:=by
     rw[bne_iff_ne];omega
    have HN:Hid (r=false):=by
     rw[HR.out,decide_eq_false_iff_not]
     intro e
     exact hxy (by rw[HXE.out,HYE.out,e])
    clear hxy
    go_wp2_with fail
    go_quiet (fail)
    go_wp2
    go_ret
    exact⟨dF HN.out.symm,below_drewN (below_drewN (Below.refl _ _) _) _⟩
  ·obtain rfl:n=k:=by omega
   have HE:Hid (r=true):=by
    rw[HR.out,decide_eq_true_eq]
    have:=HT.out
    rwa [List.take_of_length_le (by have:=HX.out;omega),List.take_of_length_le (by have:=HY.out;omega)] at this
   go_wp2
   go_ret
   exact⟨dF HE.out.symm,below_drewN (Below.refl _ _) _⟩
theorem nY (a a2:Option Addr)(cap cap2:Nat)(w:World) :
  Calls Tryz.prog 88 #[.slice a 0 cap,.slice a2 0 cap2] w fun en w'=>en=.returned (.bool true)∧Below w.heap.size w w':=by
 go_enter Tryz.func88,Tryz.ntmps88
 go_wp2
 refine wp_loop_rounds 1 ?_
 rw[rounds_succ]
 go_wp2
 go_ret
 exact⟨rfl,Below.refl _ _⟩
theorem nZ (a a2:Option Addr)(n n2 cap cap2:Nat)(w:World)(h:n≠n2) :
  Calls Tryz.prog 88 #[.slice a n cap,.slice a2 n2 cap2] w fun en w'=>en=.returned (.bool false)∧Below w.heap.size w w':=by
 have hn:((n:Int) != (n2:Int))=true:=by rw[bne_iff_ne];omega
 clear h
 go_enter Tryz.func88,Tryz.ntmps88
 go_wp2
 go_ret
 exact⟨rfl,Below.refl _ _⟩
theorem Aq (a a2:Option Addr)(cap cap2:Nat)(xs ys:List Nat)(w:World)(h:U32 w a xs)(h2:U32 w a2 ys)(hn:xs.length≤9223372036854775807) :
  Calls Tryz.prog 88 #[.slice a xs.length cap,.slice a2 ys.length cap2] w fun en w'=>en=.returned (.bool (decide (xs=ys)))∧Below w.heap.size w w':=by
 by_cases hl:xs.length=ys.length
 ·by_cases h0:xs=[]
  ·subst h0
   obtain rfl:ys=[]:=List.length_eq_zero_iff.1 hl.symm
   simp only[decide_true]
   exact nY a a2 cap cap2 w
  ·have h1:ys≠[]:=by intro e;rw[e] at hl;exact h0 (List.length_eq_zero_iff.1 hl)
   obtain⟨b,off,rfl⟩:=h.isSome h0
   obtain⟨b2,off2,rfl⟩:=h2.isSome h1
   rw[←hl]
   exact nX b off cap b2 off2 cap2 xs.length xs ys w rfl hl.symm hn (fun j hj=>h.row.u32 hj) (fun j hj=>h2.row.u32 (by omega))
 ·have:decide (xs=ys)=false:=by
   rw[decide_eq_false_iff_not];intro e;exact hl (by rw[e])
  rw[this]
  exact nZ a a2 _ _ cap cap2 w hl
theorem Ar (g g2:Bool)(a a2:Option Addr)(cap cap2:Nat)(e e2:Int)(xs ys:List Nat)(w:World)(h:U32 w a xs)(h2:U32 w a2 ys)(hn:xs.length≤9223372036854775807) :
  Calls Tryz.prog 58 #[.agg #[.bool g,.slice a xs.length cap,.int .i64 e],.agg #[.bool g2,.slice a2 ys.length cap2,.int .i64 e2]] w fun en w'=>en=.returned (.bool (decide (g=g2∧e=e2∧xs=ys)))∧Below w.heap.size w w':=by
 have C:=fun W (hb:Below w.heap.size w W)=>Aq a a2 cap cap2 xs ys W (h.below hb) (h2.below hb) hn
 obtain⟨r,hr⟩:∃r,r=decide (g=g2∧e=e2∧xs=ys):=⟨_,rfl⟩
 rw[←hr]
 obtain⟨n,hn2⟩:∃n,n=xs.length:=⟨_,rfl⟩
 obtain⟨n2,hn3⟩:∃n,n=ys.length:=⟨_,rfl⟩
 rw[←hn2,←hn3] at C ⊢
 clear h h2 hn hn2 hn3
 by_cases hg:g=g2
 ·subst hg
  by_cases he:e=e2
  ·subst he
   obtain⟨q,hq⟩:∃q,q=decide (xs=ys):=⟨_,rfl⟩
   rw[←hq] at C
   have HR:=hid (show r=q by rw[hr,hq];simp)
   have C:=hid C
   clear hr hq
   cases g
   all_goals
    go_enter Tryz.func58,Tryz.ntmps58
    go_wp2_with fail
    refine (C.out _ (((Below.refl _ _).alloc (Nat.le_refl _) _).alloc (by simp) _)).mono ?_
    rintro e1 w1 ⟨rfl,hb1⟩
    have HB:=hid (ak (ak hb1))
    clear hb1
    go_wp2
    go_ret
    exact⟨dF HR.out.symm,HB.out⟩
  ·have hn:(e == e2)=false:=by simpa using he
   have HR:=hid (show r=false by rw[hr];simp[he])
   clear he hr C
   cases g
   all_goals
    go_enter Tryz.func58,Tryz.ntmps58
    go_wp2
    go_ret
    exact⟨dF HR.out.symm,((Below.refl _ _).alloc (Nat.le_refl _) _).alloc (by simp) _⟩
 ·have HR:=hid (show r=false by rw[hr];simp[hg])
  clear hr C
  cases g<;>cases g2
  case false.false=>exact absurd rfl hg
  case true.true=>exact absurd rfl hg
  all_goals
   clear hg
   go_enter Tryz.func58,Tryz.ntmps58
   go_wp2
   go_ret
   exact⟨dF HR.out.symm,((Below.refl _ _).alloc (Nat.le_refl _) _).alloc (by simp) _⟩
theorem yU {w:World}{N x:Nat}(hx:x<4294967296)(h:w.cell? ⟨N,0,none⟩=some (.int .u32 x)):U32 w (some ⟨N,0,none⟩) [x]:=by
 refine⟨?_,fun y hy=>by simp at hy;omega⟩
 intro j v hv
 cases j with
 | zero =>
  simp[u32s] at hv
  subst hv
  exact⟨N,0,rfl,h⟩
 | succ j=>simp[u32s] at hv
def u8s (ds:List Nat):List Value:=ds.map fun (d:Nat)=>Value.int .u8 (d:Int)
structure U8 (w:World) (a:Option Addr) (ds:List Nat):Prop where
 row:Row w a (u8s ds)
 lt:∀d ∈ ds,d<10
theorem U8.below {w w':World}{a:Option Addr}{ds:List Nat}(h:U8 w a ds)(hb:Below w.heap.size w w'):U8 w' a ds:=⟨h.row.below hb,h.lt⟩
theorem U8.isSome {w:World}{a:Option Addr}{ds:List Nat}(h:U8 w a ds)(hn:ds≠[]):∃b off,a=some ⟨b,off,none⟩:=h.row.isSome (by intro e;exact hn (by simpa[u8s] using e))
theorem U8.getD_lt {w:World}{a:Option Addr}{ds:List Nat}(h:U8 w a ds)(i:Nat):ds.getD i 0<10:=by
 by_cases hi:i<ds.length
 ·have:=h.lt (ds.getD i 0) (by simp[hi])
  exact this
 ·simp[List.getElem?_eq_none (show ds.length≤i by omega)]
theorem Row.u8 {w:World}{b off:Nat}{ds:List Nat}(h:Row w (some ⟨b,off,none⟩) (u8s ds)){j:Nat}(hj:j<ds.length):w.cell? ⟨b,off+j,none⟩=some (.int .u8 ((ds.getD j 0:Nat):Int)):=by
 have:=h.cellAt (j:=j) (by simpa[u8s] using hj)
 rw[this]
 simp[u8s,hj]
def OutN (w:World) (ds:List Nat) (e:Ending) (w':World):Prop :=
 ∃a cap,e=.returned (.slice a ds.length cap)∧Below w.heap.size w w'∧w'.ownsRow w.heap.size 5 1 (.slice a ds.length cap) ds.length (u8s ds)
theorem FN {w:World}{base m cap:Nat}{a:Option Addr}{ds:List Nat}(h:w.ownsRow base 5 1 (.slice a m cap) m (u8s ds))(hd:∀d ∈ ds,d<10):U8 w a ds:=⟨aU h,hd⟩
theorem Dx:SliceOf Tryz.prog 105 5 (.int .u8 0) 1:=⟨Tryz.underlying105,by kernel_rfl,rfl⟩
theorem oO (b off n cap i:Nat)(x:Int)(w:World)(hi:i<n)(_hn:n≤9223372036854775807)(hc:w.cell? ⟨b,off+i,none⟩=some (.int .u8 x))(h0:0≤x)(h1:x<256) :
  Calls Tryz.prog 158 #[.slice (some ⟨b,off,none⟩) n cap,.int .i64 i] w fun e w'=>e=.returned (.int .i64 x)∧w=w':=by
 go_enter Tryz.func158,Tryz.ntmps158
 go_wp2
 go_ret
 exact⟨by simp;try omega,rfl⟩
theorem og (a:Option Addr)(n cap i:Nat)(w:World)(hi:n≤i) :
  Calls Tryz.prog 158 #[.slice a n cap,.int .i64 i] w fun e w'=>e=.returned (.int .i64 0)∧w=w':=by
 go_enter Tryz.func158,Tryz.ntmps158
 go_wp2
 go_ret
 exact⟨rfl,rfl⟩
theorem xy (a:Option Addr)(cap i:Nat)(ds:List Nat)(w:World)(h:U8 w a ds)(hn:ds.length≤9223372036854775807) :
  Calls Tryz.prog 158 #[.slice a ds.length cap,.int .i64 i] w fun e w'=>e=.returned (.int .i64 ((ds.getD i 0:Nat):Int))∧w=w':=by
 by_cases hi:i<ds.length
 ·obtain⟨b,off,rfl⟩:=h.isSome (by intro e;subst e;simp at hi)
  have:=h.getD_lt i
  exact oO b off _ cap i _ w hi hn (h.row.u8 hi) (by omega) (by omega)
 ·rw[show ds.getD i 0=0 by simp[List.getElem?_eq_none (show ds.length≤i by omega)]]
  exact og a _ cap i w (by omega)
theorem xA (n:Nat)(w:World)(hn:n≤18446744073709551615) :
  Calls Tryz.prog 73 #[.int .u64 n] w (OutN w (Num.digs 10 n)):=by
 have HL:Hid ((Num.digs 10 n).length≤20):=(Num.digs_length_le (by decide)).2 (Nat.lt_of_le_of_lt hn (by decide))
 go_enter Tryz.func73,Tryz.ntmps73
 go_wp2
 go_loopw [0,3] (fun i v wr=>∃(m:Nat) (out:List Nat),m≤n∧i=.int .u64 m∧Num.digs 10 n=out ++ Num.digs 10 m∧wr.ownsRow w.heap.size 5 1 v out.length (u8s out)∧Below w.heap.size w wr) (fun i _ _=>(intOf i).toNat)
 case atStart=>exact⟨n,[],Nat.le_refl _,rfl,rfl,World.ownsRow_nil _ _ _ _,Below.refl _ _⟩
 case round =>
  obtain⟨m,out,hm,rfl,hd,hown,hb⟩:=hrel
  by_cases h0:m=0
  ·subst h0
   have HD:=hid (show Num.digs 10 n=out by rw[hd,Num.digs_zero,List.append_nil])
   have HO:=hid hown
   have HB:=hid hb
   clear hd hown hb
   go_wp2
   go_ret
   obtain⟨a,cap,rfl,_,_⟩:=df HO.out
   refine⟨a,cap,by rw[HD.out];rfl,HB.out,?_⟩
   rw[HD.out];exact HO.out
  ·have e:=Num.digs_pos (b:=10) (by decide) h0
   have hlen:out.length+1≤20:=by
    have:=HL.out
    rw[hd,e,List.length_append,List.length_cons] at this;omega
   have HD:=hid (show Num.digs 10 n=(out ++ [m % 10]) ++ Num.digs 10 (m / 10) by rw[hd,e];simp)
   have hsz:=hb.size
   have HB:=hid hb
   have hpos:(0:Int)<(m:Int):=by omega
   clear hd e hb
   go_wp2_with (at_builtin;refine dG Dx rfl _ _ rfl w.heap.size (w0:=wr) hown rfl rfl rfl (by unfold maxLen;omega) (by omega) hsz ?_;intro v' w3 hown' hb')
   have HOW:=hid (show w3.ownsRow w.heap.size 5 1 v' (out ++ [m % 10]).length (u8s (out ++ [m % 10])) by simpa[u8s] using hown')
   have HB3:=hid (HB.out.trans hb')
   have hlt:m / 10<m:=by omega
   clear hown' hb' hown HB
   go_wp2
   go_roundw
   case rel=>exact⟨m / 10,out ++ [m % 10],by omega,by go_num,HD.out,HOW.out,HB3.out⟩
   case measure=>simp[intOf];omega
theorem lD (n:Nat):∀d ∈ Num.digs 10 n,d<10:=Num.digs_lt (by decide) n
theorem yX (k:Nat):10 ^ (9 * k)=Num.B9 ^ k:=by rw[Nat.pow_mul];rfl
def nine (ds:List Nat) (i t:Nat):Nat:=Num.val 10 ((ds.drop (i+t)).take (9-t))
theorem Dy (ds:List Nat)(i:Nat):nine ds i 9=0:=by unfold nine;simp[Num.val_nil]
theorem Au (ds:List Nat)(i t:Nat)(ht:t<9):nine ds i t=ds.getD (i+t) 0+10 * nine ds i (t+1):=by
 unfold nine
 by_cases h:i+t<ds.length
 ·rw[Num.drop_getD h,show 9-t=(9-(t+1))+1 by omega,List.take_succ_cons,Num.val_cons,show i+(t+1)=i+t+1 by omega]
 ·rw[List.drop_of_length_le (by omega),List.drop_of_length_le (by omega)]
  simp[List.getElem?_eq_none (show ds.length≤i+t by omega),Num.val_nil]
theorem EE (ds:List Nat)(h:∀d ∈ ds,d<10)(i t:Nat)(ht:t≤9):nine ds i t<10 ^ (9-t):=by
 refine Nat.lt_of_lt_of_le (Num.val_lt (b:=10) (by decide) _ (fun x hx=>h x (List.mem_of_mem_drop (List.mem_of_mem_take hx)))) (Nat.pow_le_pow_right (by decide) (by simp;omega))
theorem Aw (ds:List Nat)(j:Nat)(hj:9 * j≤ds.length):Num.val 10 (ds.take (9 * (j+1)))=Num.val 10 (ds.take (9 * j))+nine ds (9 * j) 0 * Num.B9 ^ j:=by
 rw[show 9 * (j+1)=9 * j+9 by omega,List.take_add,Num.val_append,←yX,List.length_take,Nat.min_eq_left hj]
 unfold nine
 rw[Nat.mul_comm (10 ^ (9 * j))];rfl
theorem oq {m j:Nat}{out:List Nat}(hl:out.length=j)(h9:∀x ∈ out,x<1000000000)(hw:Num.worth out=m)(hlo:j=0∨10 ^ (9 * (j-1))≤m):out=Num.limbs m:=by
 have hlt:=Num.val_lt (b:=Num.B9) (by decide) out h9
 rw[hl,show Num.val Num.B9 out=m from hw] at hlt
 have h1:(Num.limbs m).length≤j:=aT.2 hlt
 have h2:j≤(Num.limbs m).length:=by
  rcases hlo with h | h
  ·omega
  ·by_cases hle:(Num.limbs m).length≤j-1
   ·have:=aT.1 hle
    rw[yX] at h
    omega
   ·omega
 exact Num.val_inj (b:=Num.B9) _ _ h9 (Num.limbs_lt m) (by omega) (by show Num.worth out=Num.worth _;rw[hw,Num.worth_limbs])
theorem EF (a:Option Addr)(cap m:Nat)(w:World)(h:U8 w a (Num.digs 10 m))(hm:(Num.digs 10 m).length≤1000000) :
  Calls Tryz.prog 118 #[.slice a (Num.digs 10 m).length cap] w (OutU w (Num.limbs m)):=by
 obtain⟨ds,hds⟩:∃ds,ds=Num.digs 10 m:=⟨_,rfl⟩
 have hlo:∀k,k<ds.length→10 ^ k≤m:=fun k hk=>Num.pow_le_of_lt_length (by decide) (by rw[←hds];exact hk)
 have hval:Num.val 10 ds=m:=by rw[hds];exact Num.val_digs (by decide) m
 rw[←hds] at h hm ⊢
 have CD:=fun W k (hb:Below w.heap.size w W)=>xy a cap k ds W (h.below hb) (by omega)
 have BD:=fun k=>h.getD_lt k
 have NL:=fun i t (ht:t≤9)=>EE ds h.lt i t ht
 obtain⟨n,hn⟩:∃n,n=ds.length:=⟨_,rfl⟩
 rw[←hn] at CD hm hlo ⊢
 replace CD:=hid CD
 replace BD:=hid BD
 replace NL:=hid NL
 have HN:=hid hn
 have HLO:=hid hlo
 have HV:=hid hval
 clear h hds hn hlo hval
 go_enter Tryz.func118,Tryz.ntmps118
 go_wp2
 go_loopw [3,4,5,6] (fun v i _ _ wr=>∃(j:Nat) (out:List Nat),9 * j≤n+8∧i=.int .i64 ((9 * j:Nat):Int)∧out.length=j∧(∀x ∈ out,x<1000000000)∧Num.worth out=Num.val 10 (ds.take (9 * j))∧wr.ownsRow w.heap.size 166 1 v j (u32s out)∧Below w.heap.size w wr) (fun _ i _ _ _=>n+9-(intOf i).toNat)
 case atStart=>exact⟨0,[],by omega,rfl,rfl,by simp,rfl,World.ownsRow_nil _ _ _ _,Below.refl _ _⟩
 case round =>
  obtain⟨j,out,hj,rfl,hl,h9,hw,hown,hb⟩:=hrel
  have HL:=hid hl
  have H9:=hid h9
  have HW:=hid hw
  have HO:=hid hown
  have HB:=hid hb
  clear hl h9 hw hown hb
  obtain⟨I,hI⟩:∃I,I=9 * j:=⟨_,rfl⟩
  rw[←hI] at hj ⊢
  have hjb:j≤200000:=by omega
  have HI:=hid hI
  clear hI
  by_cases hgo:I<n
  ·obtain⟨wo,rfl⟩:∃wo:World,wo=wr:=⟨_,rfl⟩
   have CD1:=fun t=>CD.out wo (I+t) HB.out
   replace CD1:=hid CD1
   go_wp2
   go_loop [5,6] (fun nn kk=>∃t:Nat,t≤9∧kk=.int .i64 ((t:Int)-1)∧nn=.int .u32 ((nine ds I t:Nat):Int)) (fun _ kk=>(intOf kk+1).toNat)
   case atStart=>exact⟨9,Nat.le_refl _,rfl,by rw[Dy];rfl⟩
   case round =>
    obtain⟨t,ht,rfl,rfl⟩:=hrel
    by_cases ht0:t=0
    ·subst ht0
     have hnl:=NL.out I 0 (by omega)
     have hjoin:=Aw ds j (by rw[←HI.out,←HN.out];omega)
     rw[←HI.out] at hjoin
     have HJ:=hid hjoin
     obtain⟨V,hV⟩:∃V,V=nine ds I 0:=⟨_,rfl⟩
     rw[←hV] at hnl HJ ⊢
     have hV9:V<1000000000:=hnl
     have hown:=HO.out
     have hsz:=HB.out.size
     clear hV hnl hjoin HO
     go_wp2_with (at_builtin;refine dG Tryz.u32Slice rfl _ _ rfl w.heap.size (w0:=wo) hown rfl rfl rfl (by unfold maxLen;omega) (by omega) hsz ?_;intro v' w3 hown' hb')
     have HO3:=hid (show w3.ownsRow w.heap.size 166 1 v' (j+1) (u32s (out ++ [V])) by simpa[u32s] using hown')
     have HB3:=hid (HB.out.trans hb')
     clear hown hown' hb'
     go_wp2
     go_roundw
     case rel =>
      refine⟨j+1,out ++ [V],by have:=HI.out;omega,by have:=HI.out;go_num,by simp[HL.out],?_,?_,HO3.out,HB3.out⟩
      ·intro y hy
       rcases List.mem_append.1 hy with h | h
       ·exact H9.out y h
       ·simp at h;omega
      ·have hw2:=HW.out
       rw[←HI.out] at hw2
       rw[HJ.out,←hw2]
       unfold Num.worth
       rw[Num.val_snoc,HL.out,Nat.mul_comm]
     case measure=>simp[intOf];omega
    ·obtain⟨s,rfl⟩:∃s,t=s+1:=⟨t-1,by omega⟩
     have e1:((s+1:Nat):Int)-1=(s:Int):=by omega
     rw[e1]
     have hst:=Au ds I s (by omega)
     have bd:=BD.out (I+s)
     have hnl:=NL.out I s (by omega)
     have hpow:10 ^ (9-s)≤10 ^ 9:=Nat.pow_le_pow_right (by decide) (by omega)
     have CD2:=CD1.out s
     obtain⟨d,hd⟩:∃d,d=ds.getD (I+s) 0:=⟨_,rfl⟩
     obtain⟨V,hV⟩:∃V,V=nine ds I (s+1):=⟨_,rfl⟩
     rw[←hd] at CD2 bd hst
     rw[←hV] at hst ⊢
     have hV9:10 * V+d<1000000000:=by
      have:nine ds I s<1000000000:=Nat.lt_of_lt_of_le hnl hpow
      omega
     have HST:=hid hst
     have w1:=hid (show ((I:Int)+s)=((I+s:Nat):Int) by omega)
     replace CD2:=hid CD2
     clear hd hV hst hnl hpow e1
     go_wp2_with fail
     rw[w1.out]
     refine (CD2.out).mono ?_
     rintro e1 w1 ⟨rfl,rfl⟩
     clear w1
     go_wp2
     go_round
     case rel=>exact⟨s,by omega,rfl,by rw[HST.out];go_num⟩
     case measure=>simp[intOf]
  ·have hT:ds.take I=ds:=List.take_of_length_le (by rw[←HN.out];omega)
   have hout:out=Num.limbs m:=by
    refine oq HL.out H9.out ?_ ?_
    ·rw[HW.out,←HI.out,hT,HV.out]
    ·by_cases hj0:j=0
     ·exact .inl hj0
     ·exact .inr (HLO.out _ (by have:=HI.out;omega))
   have hown:=HO.out
   obtain⟨a',cap',rfl,_,_⟩:=df hown
   have hjl:j=(Num.limbs m).length:=by rw[←hout];exact HL.out.symm
   have HO2:=hid (show wr.ownsRow w.heap.size 166 1 (.slice a' (Num.limbs m).length cap') (Num.limbs m).length (u32s (Num.limbs m)) by rw[←hjl,←hout];exact hown)
   have HJL:=hid hjl
   clear hT hout hown hjl HO
   go_wp2
   go_ret
   exact⟨a',cap',by rw[←HJL.out];rfl,HB.out,HO2.out⟩
def refV (d:D) (a:Option Addr) (cap:Nat):Value:=.agg #[.bool d.neg,.slice a (Num.digs 10 d.m).length cap,.int .i64 d.e]
def RdD (w:World) (d:D) (a:Option Addr) (cap:Nat):Prop:=U8 w a (Num.digs 10 d.m)∧(Num.digs 10 d.m).length≤cap∧cap≤9223372036854775807∧(a=none→cap=0)
theorem EG (w:World):RdD w zeroD none 0:=⟨⟨Row.nil _ _,fun d hd=>by cases hd⟩,Nat.le_refl _,by decide,fun _=>rfl⟩
def OutRD (w:World) (d:D) (e:Ending) (w':World):Prop:=∃a cap,e=.returned (refV d a cap)∧Below w.heap.size w w'∧RdD w' d a cap
theorem EH (ds:List Nat)(k:Nat)(hk:k<ds.length)(h:∀j,j<k→ds.getD j 0=0)(h0:ds.getD k 0≠0):(ds.takeWhile (· == 0)).length=k:=by
 induction ds generalizing k with
 | nil=>simp at hk
 | cons d ds ih =>
  cases k with
  | zero=>simp at h0;simp[h0]
  | succ k =>
   have hd:d=0:=by simpa using h 0 (by omega)
   subst hd
   rw[List.takeWhile_cons]
   simp only[beq_self_eq_true,if_true,List.length_cons]
   rw[ih k (by simpa using hk) (fun j hj=>by simpa using h (j+1) (by omega)) (by simpa using h0)]
theorem Az (m:Nat)(h0:m≠0):∃k,k<(Num.digs 10 m).length∧(Num.digs 10 m).getD k 0≠0:=by
 obtain⟨zs,y,h1,h2⟩:=Num.digs_last (b:=10) (by decide) m h0
 exact⟨zs.length,by rw[h1];simp,by rw[h1];simp[h2]⟩
theorem yY (m:Nat)(_h0:m≠0):(Num.digs 10 m).drop (tz m)=Num.digs 10 (m / 10 ^ tz m):=(Num.digs_div_pow (by decide) m _).symm
theorem uU (g:Bool)(b off cap m:Nat)(e:Int)(w:World)(h:U8 w (some ⟨b,off,none⟩) (Num.digs 10 m))(h0:m≠0)(hc:(Num.digs 10 m).length≤cap)(hc2:cap≤9223372036854775807)(hd:(Num.digs 10 m).length≤1000000000)(he:-3000000000≤e∧e≤3000000000) :
  Calls Tryz.prog 75 #[.bool g,.slice (some ⟨b,off,none⟩) (Num.digs 10 m).length cap,.int .i64 e] w (OutRD w (plainD g m e)):=by
 have hpl:plainD g m e=⟨g,m / 10 ^ tz m,e+tz m⟩:=by unfold plainD;rw[if_neg h0]
 rw[hpl]
 have C1:=fun j (hj:j<(Num.digs 10 m).length)=>h.row.u8 (j:=j) hj
 have hrow:U8 w (some ⟨b,off+tz m,none⟩) (Num.digs 10 (m / 10 ^ tz m)):=by
  refine⟨fun j x hx=>⟨b,off+tz m,rfl,?_⟩,lD _⟩
  have hx':(u8s (Num.digs 10 m))[tz m+j]? = some x:=by
   rw[←yY m h0] at hx
   simpa[u8s,List.map_drop,List.getElem?_drop] using hx
  obtain⟨b',off',e1,hc⟩:=h.row _ _ hx'
  injection e1 with e1;injection e1 with e1 e2;subst e1 e2
  rw[Nat.add_assoc];exact hc
 have hlen:(Num.digs 10 (m / 10 ^ tz m)).length=(Num.digs 10 m).length-tz m:=by rw[←yY m h0,List.length_drop]
 have hstop:=EH (Num.digs 10 m)
 obtain⟨q,hq1,hq2⟩:=Az m h0
 have htz:((Num.digs 10 m).takeWhile (· == 0)).length=tz m:=rfl
 obtain⟨ds,hds⟩:∃ds,ds=Num.digs 10 m:=⟨_,rfl⟩
 rw[←hds] at C1 hc hd hlen hstop hq1 hq2 htz ⊢
 obtain⟨z,hz⟩:∃z,z=tz m:=⟨_,rfl⟩
 rw[←hz] at hrow hlen htz ⊢
 have hlt:z<ds.length:=by
  have h2:0<(Num.digs 10 (m / 10 ^ tz m)).length:=Num.length_pos (by decide) (rQ h0).2.2
  rw[←hz,hlen] at h2;omega
 obtain⟨M,hM⟩:∃M,M=m / 10 ^ z:=⟨_,rfl⟩
 rw[←hM] at hrow hlen ⊢
 obtain⟨n,hn⟩:∃n,n=ds.length:=⟨_,rfl⟩
 rw[←hn] at C1 hc hd hlen hlt hq1 ⊢
 have HL:=hid hlen
 have HR:=hid hrow
 have hbw:b<w.heap.size:=ax (C1 q hq1)
 replace C1:=hid C1
 have HS:Hid (∀k,k<n→(∀j,j<k→ds.getD j 0=0)→ds.getD k 0≠0→z=k):=fun k h1 h2 h3=>by
  rw[←htz];exact hstop k (by omega) h2 h3
 have HQ:=hid (⟨hq1,hq2⟩:_∧_)
 clear h h0 hpl hlen hrow hstop htz hds hz hM hn hq1 hq2
 go_enter Tryz.func75,Tryz.ntmps75
 go_wp2
 go_loop [7] (fun v=>∃k:Nat,k≤n∧v=.int .i64 k∧∀j,j<k→ds.getD j 0=0) (fun v=>n-(intOf v).toNat)
 case atStart=>exact⟨0,Nat.zero_le _,rfl,fun j hj=>by omega⟩
 case round =>
  obtain⟨k,hk,rfl,hz⟩:=hrel
  have HZ:=hid hz
  clear hz
  have hkn:k<n:=by
   by_cases hkn:k=n
   ·exact absurd (HZ.out q (by have:=HQ.out.1;omega)) HQ.out.2
   ·omega
  have g1:=C1.out k hkn
  by_cases h0:ds.getD k 0=0
  ·have HZ':=hid (fun j (hj:j<k+1)=>show ds.getD j 0=0 by
    by_cases hjk:j=k
    ·rw[hjk];exact h0
    ·exact HZ.out j (by omega))
   rw[h0] at g1
   clear h0
   go_wp2
   go_round
   case rel=>exact⟨k+1,by omega,by go_num,HZ'.out⟩
   case measure=>simp[intOf];omega
  ·have hzk:=HS.out k hkn HZ.out h0
   subst hzk
   obtain⟨x,hx⟩:∃x,x=ds.getD z 0:=⟨_,rfl⟩
   rw[←hx] at g1 h0
   have hne:((x:Int) == 0)=false:=by rw[beq_eq_false_iff_ne];omega
   have hzn:((z:Int) == (n:Int))=false:=by rw[beq_eq_false_iff_ne];omega
   have hcz:¬ cap=z:=by omega
   clear h0 hx
   go_wp2
   refine bodyPost_ret (v:=.agg #[.bool g,.slice (some ⟨b,off+z,none⟩) (Num.digs 10 M).length (cap-z),.int .i64 (e+z)]) (by simp[results,Tryz.results75,go_sem,HL.out]) rfl ?_
   refine⟨some ⟨b,off+z,none⟩,cap-z,rfl,?_,?_⟩
   ·exact (Below.refl _ _).alloc (Nat.le_refl _) _
   ·exact⟨HR.out.below ((Below.refl _ _).alloc (Nat.le_refl _) _),by rw[HL.out];omega,by omega,fun h=>by cases h⟩
theorem uV (g:Bool)(a:Option Addr)(cap:Nat)(e:Int)(w:World) :
  Calls Tryz.prog 75 #[.bool g,.slice a 0 cap,.int .i64 e] w (OutRD w zeroD):=by
 go_enter Tryz.func75,Tryz.ntmps75
 go_wp2
 refine wp_loop_rounds 1 ?_
 rw[rounds_succ]
 go_wp2
 refine bodyPost_ret (v:=.agg #[.bool false,.slice none 0 0,.int .i64 0]) (by simp[results,Tryz.results75,go_sem]) rfl ?_
 refine⟨none,0,rfl,?_,EG _⟩
 exact (Below.refl _ _).alloc (Nat.le_refl _) _
end Go.Proofs.YtcgbmmalfbpjaaaGreatDoor
