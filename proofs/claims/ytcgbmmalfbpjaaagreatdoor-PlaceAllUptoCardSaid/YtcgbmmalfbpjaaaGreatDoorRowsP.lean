/-  -/
import Derived.Test.YtcgbmmalfbpjaaaGreatDoorPd
import Derived.Test.YtcgbmmalfbpjaaaGreatDoorMy
import Derived.Test.YtcgbmmalfbpjaaaGreatDoorPa
import Derived.Test.YtcgbmmalfbpjaaaGreatDoorMc
import Derived.Maps.AppendAt
import Derived.Deep.RegionLaw
set_option maxRecDepth 100000
set_option maxHeartbeats 16000000
namespace Go.Proofs.YtcgbmmalfbpjaaaGreatDoor
open Go.RowKit
theorem kJ {r:Nat}:∀(zs:List Value) (o:Nat) (w:World) (k:Nat),k≠r→(w.setCells r o zs).heap[k]? = w.heap[k]?
 | [],_,_,_,_=>rfl
 | z :: zs,o,w,k,h=>by
  show ((w.setCell ⟨r,o,none⟩ z).setCells r (o+1) zs).heap[k]? = _
  rw[kJ zs (o+1) _ k h,Below.heap_setCell _ _ _ _ (by exact h)]
theorem AL {base:Nat}{e:TypeId}{size:Nat}{v:Value}{n:Nat}{xs:List Value}{w:World}{N:Nat}(h:w.ownsRow base e size v n xs)(hN:N<base)(o:Nat)(vs:List Value):(w.setCells N o vs).ownsRow base e size v n xs:=by
 refine⟨h.1,?_⟩
 rcases h.2 with hn | ⟨g,cap,cur,rfl,hb,hg,rest⟩
 ·exact .inl hn
 ·exact .inr ⟨g,cap,cur,rfl,hb,(kJ vs o w g (by omega)).trans hg,rest⟩
def OwnB (X:Nat→Prop) (lv:Value):Nat→Prop:=fun k=>X k∨lv.ownBlock=some k
def PE (W:World) (c:Value) (p:List JV):Prop:=∃(a:Option Addr) (cap:Nat),c=.slice a p.length cap∧RdA W a p∧p.length≤cap∧cap≤9223372036854775807
theorem PE.sub {W W':World}{c:Value}{p:List JV}(h:PE W c p)(hs:SubW W W'):PE W' c p:=by
 obtain⟨a,cap,e,h1,h2⟩:=h
 exact⟨a,cap,e,h1.sub hs,h2⟩
def RowsP (X:Nat→Prop) (base:Nat) (lv:Value) (W:World) (ps:List (List JV)):Prop :=
 ∃cells:List Value,W.ownsRow base 25 1 lv ps.length cells∧∀(i:Nat) (c:Value) (p:List JV),cells[i]? = some c→ps[i]? = some p→PE (hideW (OwnB X lv) W) c p
theorem RowsP.nil (X:Nat→Prop)(base:Nat)(W:World):RowsP X base (.slice none 0 0) W []:=⟨[],World.ownsRow_nil _ _ _ _,fun i c p h=>by simp at h⟩
theorem RowsP.below {X:Nat→Prop}{base:Nat}{lv:Value}{W W':World}{ps:List (List JV)}(h:RowsP X base lv W ps)(hb:Below W.heap.size W W'):RowsP X base lv W' ps:=by
 obtain⟨cells,h1,h2⟩:=h
 exact⟨cells,aH h1 hb,fun i c p hc hp=>(h2 i c p hc hp).sub (az (fun _ _ h=>h) hb)⟩
theorem RowsP.set {X:Nat→Prop}{base:Nat}{lv:Value}{W:World}{ps:List (List JV)}(h:RowsP X base lv W ps){r:Nat}(hX:X r)(hr:r<base)(o:Nat)(vs:List Value):RowsP X base lv (W.setCells r o vs) ps:=by
 obtain⟨cells,h1,h2⟩:=h
 exact⟨cells,AL h1 hr o vs,fun i c p hc hp=>(h2 i c p hc hp).sub (gW (Or.inl hX))⟩
structure FrameP (X:Nat→Prop) (lv:Value) (W:World) (lv':Value) (W':World):Prop where
 bel:Below 0 W W'
 block:∀k,k<W.heap.size→¬ X k→lv.ownBlock≠some k→W'.heap[k]? = W.heap[k]?
 own:lv'.ownBlock=lv.ownBlock∨∀k,lv'.ownBlock=some k→W.heap.size≤k
theorem FrameP.refl (X:Nat→Prop)(lv:Value)(W:World):FrameP X lv W lv W:=⟨Below.refl _ _,fun _ _ _ _=>rfl,Or.inl rfl⟩
theorem FrameP.trans {X:Nat→Prop}{lv lv1 lv2:Value}{W W1 W2:World}(h:FrameP X lv W lv1 W1)(k:FrameP X lv1 W1 lv2 W2):FrameP X lv W lv2 W2:=by
 refine⟨h.bel.trans k.bel,fun b hb hX ho=>?_,?_⟩
 ·refine (k.block b (Nat.lt_of_lt_of_le hb h.bel.size) hX (fun e=>?_)).trans (h.block b hb hX ho)
  rcases h.own with h1 | h1
  ·exact ho (h1.symm.trans e)
  ·have:=h1 b e;omega
 ·rcases k.own with k1 | k1
  ·rcases h.own with h1 | h1
   ·exact Or.inl (k1.trans h1)
   ·exact Or.inr fun b hb=>h1 b (k1.symm.trans hb)
  ·exact Or.inr fun b hb=>Nat.le_trans h.bel.size (k1 b hb)
theorem FrameP.of_below {X:Nat→Prop}{lv:Value}{W W':World}(hb:Below W.heap.size W W'):FrameP X lv W lv W':=⟨hb.mono (Nat.zero_le _),fun k hk _ _=>hb.block k hk,Or.inl rfl⟩
theorem FrameP.set {X:Nat→Prop}{lv lv1:Value}{W W1:World}(h:FrameP X lv W lv1 W1){r:Nat}(hX:X r)(o:Nat)(vs:List Value):FrameP X lv W lv1 (W1.setCells r o vs):=by
 refine⟨aF r (Nat.zero_le _) vs o W1 h.bel,fun k hk hk2 ho=>?_,h.own⟩
 rw[kJ vs o W1 k (fun e=>hk2 (by rw[e];exact hX))]
 exact h.block k hk hk2 ho
theorem FrameP.sub {X:Nat→Prop}{lv lv':Value}{W W':World}(h:FrameP X lv W lv' W'):SubW (hideW (OwnB X lv) W) (hideW (OwnB X lv') W'):=fun a u hu=>by
 have h1:=aI.1 hu
 have hb:=World.block_lt_of_cell? W a h1.2
 have hX:¬ X a.block:=fun e=>h1.1 (Or.inl e)
 have ho:lv.ownBlock≠some a.block:=fun e=>h1.1 (Or.inr e)
 refine aI.2 ⟨?_,?_⟩
 ·rintro (e | e)
  ·exact hX e
  ·rcases h.own with h2 | h2
   ·exact ho (h2.symm.trans e)
   ·have:=h2 _ e;omega
 ·have:=h.block a.block hb hX ho
  have e:=h1.2
  unfold World.cell? at e ⊢
  rw[this]
  exact e
theorem FrameP.blk {X:Nat→Prop}{lv lv':Value}{W W':World}(h:FrameP X lv W lv' W'){k:Nat}{o:Obj}(hk:W.heap[k]? = some o)(hX:¬ X k)(ho:lv.ownBlock≠some k):W'.heap[k]? = some o:=(h.block k (aA hk) hX ho).trans hk
theorem FrameP.grown {X:Nat→Prop}{lv lv':Value}{W W':World}(hg:W.grownBy W' lv.ownBlock)(ho:lv'.ownBlock=lv.ownBlock∨lv'.ownBlock=some W.heap.size):FrameP X lv W lv' W' :=
 ⟨⟨hg.os,hg.tape,hg.output,hg.size,fun k hk=>by omega⟩,fun k hk _ h=>hg.block k hk (fun e=>h e.symm),ho.imp id fun e k hk=>by rw[e] at hk;injection hk with hk;omega⟩
theorem RowsP.app {X:Nat→Prop}{base:Nat}{lv lv':Value}{W W':World}{ps qs:List (List JV)}{cells news:List Value}(h2:∀(i:Nat) (c:Value) (p:List JV),cells[i]? = some c→ps[i]? = some p→PE (hideW (OwnB X lv) W) c p)
  (hl:cells.length=ps.length)(ho:W'.ownsRow base 25 1 lv' (ps.length+qs.length) (cells ++ news))(hf:FrameP X lv W lv' W')(hn:∀(i:Nat) (c:Value) (p:List JV),news[i]? = some c→qs[i]? = some p→PE (hideW (OwnB X lv) W) c p):RowsP X base lv' W' (ps ++ qs):=by
 refine⟨cells ++ news,by rw[List.length_append];exact ho,fun i c p hc hp=>?_⟩
 by_cases hi:i<ps.length
 ·rw[List.getElem?_append_left (by omega)] at hc
  rw[List.getElem?_append_left hi] at hp
  exact (h2 i c p hc hp).sub hf.sub
 ·rw[List.getElem?_append_right (by omega)] at hc
  rw[List.getElem?_append_right (by omega)] at hp
  rw[hl] at hc
  exact (hn _ c p hc hp).sub hf.sub
theorem RowsP.rd {X:Nat→Prop}{base:Nat}{lv:Value}{W:World}{ps:List (List JV)}(h:RowsP X base lv W ps):∃(a:Option Addr) (c:Nat),lv=.slice a ps.length c∧(∀(i:Nat) (p:List JV),ps[i]? = some p→∃(pb po:Nat) (q:Option Addr) (c:Nat),a=some ⟨pb,po,none⟩∧W.cell? ⟨pb,po+i,none⟩=some (.slice q p.length c)∧RdA W q p∧p.length≤c∧c≤9223372036854775807)∧ps.length≤c∧c≤9223372036854775807:=by
 obtain⟨cells,⟨hl,h1⟩,h2⟩:=h
 rw[Nat.mul_one] at hl
 rcases h1 with ⟨rfl,h0⟩ | ⟨g,cap,cur,rfl,_,hg,hc1,hc2,hc3,hc4⟩
 ·exact⟨none,0,by rw[h0],fun i p hp=>by have:=(List.getElem?_eq_some_iff.1 hp).1;omega,by omega,by omega⟩
 ·refine⟨some ⟨g,0,none⟩,cap,rfl,fun i p hp=>?_,hc1,by unfold maxLen at hc2;exact hc2⟩
  have hi:=(List.getElem?_eq_some_iff.1 hp).1
  have hci:cells[i]? = some cells[i]:=List.getElem?_eq_getElem (by omega)
  obtain⟨a,c,e,k1,k2,k3⟩:=h2 i _ p hci hp
  refine⟨g,0,a,c,rfl,?_,k1.sub (aC _ _),k2,k3⟩
  have hk:(cur.toList.take (ps.length * 1))[i]? = some cells[i]:=by rw[hc4];exact hci
  rw[List.getElem?_take,if_pos (by omega)] at hk
  rw[←e,Nat.zero_add]
  simp only[World.cell?,hg]
  simpa using hk
theorem aY {P:Program}{w:World}{ops:Array Oper}{rest:List Oper}{o:Oper}{a:Act}{Q:Exit→Act→World→Prop}(hgd:o.guard=none)(s x:Operand)(t:TypeId)
  (ho:o.op=.call { callee:=.builtin .append,args:=#[s,x],argTypes:=#[t,t] })
  (base:Nat)(e:TypeId)(i:TypeInfo)(z:Value)(size bytes:Nat)(ht:P.underlying t=some (.slice e))(hi:P.info? e=some i)(hz:i.zero=some z)
  (hsize:i.size=size)(hby:i.bytes=bytes)(hzs:z.cells.size=size)(hsz:0<size)
  (v:Value)(n:Nat)(xs:List Value)(hs:a.eval s=v)(hown:w.ownsRow base e size v n xs)
  (ao:Option Addr)(m c:Nat)(ys:List Value)(hx:a.eval x=.slice ao m c)(hl:ys.length=m * size)(hnews:∀(j:Nat) u,ys[j]? = some u→∃ad,ao=some ad∧w.cell? (ad.add j)=some u)(h1:∀u ∈ ys,u.oneCell'=true)
  (h63:n+m≤maxLen)(hbytes:(n+m) * bytes≤140737488355328)(hbase:base≤w.heap.size)
  (h:∀v' w',w'.ownsRow base e size v' (n+m) (xs ++ ys)→w.grownBy w' v.ownBlock→(v'.ownBlock=v.ownBlock∨v'.ownBlock=some w.heap.size)→wpList P ops Q rest (a.put o.dst v') w'):wpList P ops Q (o :: rest) a w:=by
 cases ao with
 | some ad =>
  refine wpList_append_own_at w hgd s x t ho base e i z size bytes ht hi hz hsize hby hzs hsz v n xs hs hown ad m c ys hx hl (fun j u hj=>?_) h1 h63 hbytes hbase (fun v' w' hown' hgr _ hob=>h v' w' hown' hgr hob)
  obtain⟨ad',e1,hc⟩:=hnews j u hj
  injection e1 with e1
  subst e1
  exact hc
 | none =>
  have hys:ys=[]:=by
   cases ys with
   | nil=>rfl
   | cons y ys=>obtain⟨ad,e1,_⟩:=hnews 0 y rfl;cases e1
  subst hys
  obtain rfl:m=0:=by
   have:m * size=0:=by simpa using hl.symm
   rcases Nat.mul_eq_zero.1 this with h | h
   ·exact h
   ·omega
  have hK:=h v w (by simpa using hown) ⟨rfl,rfl,rfl,Nat.le_refl _,fun _ _ _=>rfl⟩ (Or.inl rfl)
  obtain⟨_,hh | ⟨g,cap,cur,hv,_,_,hnc,_⟩⟩:=hown
  ·obtain⟨rfl,_⟩:=hh
   exact bF hgd s x t ho e i ht hi none 0 0 c hs (Nat.le_refl _) hx hK
  ·subst hv
   exact bF hgd s x t ho e i ht hi _ n cap c hs hnc hx hK
theorem qi {w0:World}(aa:Option Addr)(c:Nat)(E:List (ZE w0))(w:World)(hE:∀(i:Nat) (e:ZE w0),E[i]? = some e→CellsAt w aa (i * 7) e.cs)(h0:E=[]→aa=none)(hn:E.length≤1048576) :
  Calls Tryz.prog 43 #[.slice aa E.length c] w fun e w'=>∃v',e=.returned v'∧w'.ownsRow w.heap.size 28 7 v' E.length (E.flatMap ZE.cs)∧Below w.heap.size w w':=by
 cases hl:E with
 | nil =>
  rw[h0 hl]
  refine (AnyE.slices_Clone_nil Tryz.laysSlE041_f37 0 c w).mono ?_
  rintro e w' ⟨rfl,rfl⟩
  exact⟨_,rfl,World.ownsRow_nil _ _ _ _,Below.refl _ _⟩
 | cons x0 l0 =>
  rw[←hl]
  obtain⟨b,off,rfl⟩:∃b off,aa=some ⟨b,off,none⟩:=by
   obtain⟨b,off,e,_⟩:=hE 0 x0 (by rw[hl];rfl)
   exact⟨b,off,e⟩
  obtain⟨i0,h1,h2,h3,z,h4,h5⟩:=eG
  refine (AnyE.slices_Clone Tryz.laysSlE041_f37 i0 z 7 112 h1 h4 h2 h3 h5 (by decide) Tryz.sizeOf28 b off E.length c (E.flatMap ZE.cs) w (aV E) (by unfold maxLen;omega) (by omega) (fun j u hj=>lF hE j u hj) (dY E)).mono ?_
  rintro e w' ⟨v',rfl,ho,hne,hb⟩
  exact⟨v',rfl,ho,hb⟩
def XL (L:Nat):Nat→Prop:=fun k=>k=L
theorem FrameP.below {X:Nat→Prop}{base B:Nat}{lv lv':Value}{W W':World}{ps:List (List JV)}(h:FrameP X lv W lv' W')(hR:RowsP X base lv W ps)(hX:∀k,X k→B≤k)(hb:B≤base)(hW:B≤W.heap.size):Below B W W':=by
 obtain⟨cells,h1,_⟩:=hR
 exact⟨h.bel.os,h.bel.tape,h.bel.output,h.bel.size,fun k hk=>h.block k (by omega) (fun e=>by have:=hX k e;omega) (fun e=>by have:=(h1.lt k e).1;omega)⟩
theorem bf {w:World}{N:Nat}{v:Value}{T:TypeId}(h:w.heap[N]? = some (.cells #[v] T (0,0))):w.cell? ⟨N,0,none⟩=some v:=ay h 0
theorem uD {w:World}{L:Nat}{v u:Value}{T:TypeId}(h:w.heap[L]? = some (.cells #[v] T (0,0))):(w.setCell ⟨L,0,none⟩ u).heap[L]? = some (.cells #[u] T (0,0)):=by
 simp[World.setCell,Array.getElem?_modify,h]
theorem qj {L base:Nat}{lr lv' c:Value}{w4 w5:World}{ps:List (List JV)}{p:List JV}{cells:List Value}(hLb:L<base)(ho:w4.ownsRow base 25 1 lr ps.length cells)
  (h2:∀(i:Nat) (c:Value) (p:List JV),cells[i]? = some c→ps[i]? = some p→PE (hideW (OwnB (XL L) lr) w4) c p)(hown:w5.ownsRow base 25 1 lv' (ps.length+1) (cells ++ [c]))(hg:w4.grownBy w5 lr.ownBlock)
  (hob:lv'.ownBlock=lr.ownBlock∨lv'.ownBlock=some w4.heap.size)(hc:PE (hideW (OwnB (XL L) lr) w4) c p)(hL:w4.heap[L]? = some (.cells #[lr] 42 (0,0))) :
  (w5.setCell ⟨L,0,none⟩ lv').heap[L]? = some (.cells #[lv'] 42 (0,0))∧RowsP (XL L) base lv' (w5.setCell ⟨L,0,none⟩ lv') (ps ++ [p])∧FrameP (XL L) lr w4 lv' (w5.setCell ⟨L,0,none⟩ lv'):=by
 have hF:FrameP (XL L) lr w4 lv' w5:=FrameP.grown hg hob
 have hl:cells.length=ps.length:=by have:=ho.1;omega
 have hR:RowsP (XL L) base lv' w5 (ps ++ [p]):=RowsP.app h2 hl hown hF (fun i c' p' h1 h3=>by
  have hi:i=0:=by have:=(List.getElem?_eq_some_iff.1 h1).1;simp at this;omega
  subst hi
  obtain rfl:c=c':=by simpa using h1
  obtain rfl:p=p':=by simpa using h3
  exact hc)
 have hne:lr.ownBlock≠some L:=fun e=>by have:=(ho.lt L e).1;omega
 refine⟨uD ((hg.block L (aA hL) (fun e=>hne e.symm)).trans hL),?_,?_⟩
 ·exact hR.set (r:=L) rfl hLb 0 [lv']
 ·exact hF.set (r:=L) rfl 0 [lv']
theorem AO {A:Nat→Prop}{cv:Value}{wb w3:World}(hg:wb.grownBy w3 cv.ownBlock):SubW (hideW (OwnB A cv) wb) (hideW A w3):=fun a u hu=>by
 have h1:=aI.1 hu
 refine aI.2 ⟨fun e=>h1.1 (Or.inl e),?_⟩
 have:=hg.block a.block (World.block_lt_of_cell? wb a h1.2) (fun e=>h1.1 (Or.inr e.symm))
 have e:=h1.2
 unfold World.cell? at e ⊢
 rw[this]
 exact e
theorem iI {A:Nat→Prop}{w0 wb w3:World}{B n:Nat}{cv pv:Value}{E:List (ZE w0)}{cs:List Value}{x:JV}(hA:∀k,A k→k<B)(hE:E.length=n)(hsE:SubW w0 (hideW (OwnB A cv) wb))(hx:RdV (hideW (OwnB A cv) wb) cs x)
  (hg:wb.grownBy w3 cv.ownBlock)(ho:w3.ownsRow B 28 7 pv (n+1) (E.flatMap ZE.cs ++ cs)):∃a c,pv=.slice a (n+1) c∧RdA (hideW A w3) a (E.map ZE.v ++ [x])∧n+1≤c∧c≤9223372036854775807:=by
 have hs:=AO (A:=A) hg
 obtain⟨a,m,c,rfl⟩:∃a m c,pv=.slice a m c:=by
  rcases ho.2 with h | ⟨g,cap,cur,h,_⟩
  ·exact⟨_,_,_,h.1⟩
  ·exact⟨_,_,_,h⟩
 obtain⟨G,hG⟩:∃G:List (ZE (hideW A w3)),G=(E.map fun e=>(⟨e.cs,e.v,(e.rd.sub hsE).sub hs⟩:ZE (hideW A w3))) ++ [⟨cs,x,hx.sub hs⟩]:=⟨_,rfl⟩
 have hf:G.flatMap ZE.cs=E.flatMap ZE.cs ++ cs:=by rw[hG,List.flatMap_append,List.flatMap_map];simp
 have hv:G.map ZE.v=E.map ZE.v ++ [x]:=by rw[hG,List.map_append,List.map_map];rfl
 have hl:G.length=n+1:=by rw[hG,List.length_append,List.length_map,hE];rfl
 have ho2:w3.ownsRow B 28 7 (.slice a m c) G.length (G.flatMap ZE.cs):=by
  rw[hf,hl]
  exact ho
 obtain⟨h1,h2,h3,h4⟩:=lQ (A:=A) hA (fun _ _ h=>h) ho2
 rw[hl] at h2
 rw[hv] at h1
 subst h2
 exact⟨a,c,rfl,h1,h3,h4⟩
theorem yF {H:Nat→Prop}{w:World}{b n l c:Nat}{a:Option Addr}(h:w.ownsRow b 166 1 (.slice a l c) l (u32s (Num.limbs n)))(hH:∀k,H k→k<b):U32 (hideW H w) a (Num.limbs n):=by
 have hu:=aS h
 refine⟨fun j x hx=>?_,hu.lt⟩
 obtain⟨g,off,e,hc⟩:=hu.row j x hx
 refine⟨g,off,e,aI.2 ⟨fun hk=>?_,hc⟩⟩
 have:=(h.lt g (by rw[e];rfl)).1
 have:=hH _ hk
 dsimp only at this
 omega
theorem yE {W:World}{d:D}{a:Option Addr}{c l:Nat}(hl:l=(Num.limbs d.m).length)(h:U32 W a (Num.limbs d.m))(hc:l≤c∧c≤9223372036854775807)(he:I64 d.e):RdV W [.int .i64 3,.bool d.neg,.slice a l c,.int .i64 d.e,.string ⟨#[]⟩,.slice none 0 0,.slice none 0 0] (.mk 3 d.neg (Num.limbs d.m) d.e [] [] []):=by
 subst hl
 exact PartsV.rd (v:=.mk 3 d.neg (Num.limbs d.m) d.e [] [] []) (a:=a) (c:=c) (aa:=none) (ac:=0) (oa:=none) (oc:=0) ⟨rfl,by unfold I64;simp[JV.kind],he,by simp[JV.s],by simp[JV.arr],by simp[JV.obj],hc,h,fun i x hx=>by simp[JV.arr] at hx,fun i x hx=>by simp[JV.obj] at hx⟩
theorem yH {W:World}{s:List UInt8}(h:s.length≤9223372036854775807):RdV W [.int .i64 4,.bool false,.slice none 0 0,.int .i64 0,.string ⟨s.toArray⟩,.slice none 0 0,.slice none 0 0] (textJ2 s) :=
 PartsV.rd (v:=textJ2 s) (a:=none) (c:=0) (aa:=none) (ac:=0) (oa:=none) (oc:=0) ⟨rfl,by unfold I64;simp[textJ2,JV.kind],by unfold I64;simp[textJ2,JV.e],h,by simp[textJ2,JV.arr],by simp[textJ2,JV.obj],by simp[textJ2,JV.ls],⟨Row.nil _ _,fun x hx=>by cases hx⟩,fun i x hx=>by simp[textJ2,JV.arr] at hx,fun i x hx=>by simp[textJ2,JV.obj] at hx⟩
theorem yC:∃i0,Tryz.prog.info? 25=some i0∧i0.size=1∧i0.bytes=24∧∃z,i0.zero=some z∧z.cells.size=1:=by
 have h:(Tryz.prog.info? 25).map (fun i=>(i.size,i.bytes,i.zero.map (·.cells.size)))=some (1,24,some 1):=by kernel_rfl
 obtain⟨i,h1,h2⟩:=Option.map_eq_some_iff.1 h
 simp only[Prod.mk.injEq] at h2
 obtain⟨z,h3,h4⟩:=Option.map_eq_some_iff.1 h2.2.2
 exact⟨i,h1,h2.1,h2.2.1,z,h3,h4⟩
theorem qR (w:World)(x0 x1 x2 x3 x4 x5 x6:Value)(T:TypeId):∀(j:Nat) (u:Value),([x0,x1,x2,x3,x4,x5,x6]:List Value)[j]? = some u→∃ad,some (⟨w.heap.size,0,none⟩:Addr)=some ad∧(w.alloc (.cells #[x0,x1,x2,x3,x4,x5,x6] T)).cell? (ad.add j)=some u:=by
 intro j u hu
 refine⟨_,rfl,?_⟩
 rw[Addr.add_lit]
 have h:=aj w (.cells #[x0,x1,x2,x3,x4,x5,x6] T)
 simp only[World.cell?,h,Nat.zero_add]
 simpa using hu
theorem eu {w:World}{base:Nat}{e:TypeId}{size:Nat}{v:Value}{n:Nat}{xs:List Value}(h:w.ownsRow base e size v n xs):∃a m c,v=.slice a m c:=by
 rcases h.2 with h | ⟨g,cap,cur,h,_⟩
 ·exact⟨_,_,_,h.1⟩
 ·exact⟨_,_,_,h⟩
theorem Ad {w:World}{base base':Nat}{e:TypeId}{size:Nat}{v:Value}{n:Nat}{xs:List Value}(h:w.ownsRow base e size v n xs)(hb:base'≤base):w.ownsRow base' e size v n xs:=by
 refine⟨h.1,?_⟩
 rcases h.2 with h | ⟨g,cap,cur,hv,h1,h2⟩
 ·exact .inl h
 ·exact .inr ⟨g,cap,cur,hv,Nat.le_trans hb h1,h2⟩
theorem wS {w w':World}{x0 x1 x2 x3 x4 x5 x6:Value}{T:TypeId}(hb:Below (w.alloc (.cells #[x0,x1,x2,x3,x4,x5,x6] T)).heap.size (w.alloc (.cells #[x0,x1,x2,x3,x4,x5,x6] T)) w'):∀(j:Nat) (u:Value),([x0,x1,x2,x3,x4,x5,x6]:List Value)[j]? = some u→∃ad,some (⟨w.heap.size,0,none⟩:Addr)=some ad∧w'.cell? (ad.add j)=some u:=by
 intro j u hu
 refine⟨_,rfl,?_⟩
 rw[Addr.add_lit]
 have h:=af (aj w (.cells #[x0,x1,x2,x3,x4,x5,x6] T)) hb
 simp only[World.cell?,h,Nat.zero_add]
 simpa using hu
theorem jQ (w:World)(x:Value)(T:TypeId):∀(j:Nat) (u:Value),([x]:List Value)[j]? = some u→∃ad,some (⟨w.heap.size,0,none⟩:Addr)=some ad∧(w.alloc (.cells #[x] T)).cell? (ad.add j)=some u:=by
 intro j u hu
 refine⟨_,rfl,?_⟩
 rw[Addr.add_lit]
 have h:=aj w (.cells #[x] T)
 simp only[World.cell?,h,Nat.zero_add]
 simpa using hu
theorem gy {P:Program}{w:World}{ops:Array Oper}{o:Oper}{a:Act}{K:Act→World→Prop}{Q:Exit→Act→World→Prop}{E:Prop}(hgd:o.guard=none)(s x:Operand)(t:TypeId)
  (ho:o.op=.call { callee:=.builtin .append,args:=#[s,x],argTypes:=#[t,t] })
  (base:Nat)(e:TypeId)(i:TypeInfo)(z:Value)(size bytes:Nat)(ht:P.underlying t=some (.slice e))(hi:P.info? e=some i)(hz:i.zero=some z)
  (hsize:i.size=size)(hby:i.bytes=bytes)(hzs:z.cells.size=size)(hsz:0<size)
  (v:Value)(n:Nat)(xs:List Value)(hs:a.eval s=v)(hown:w.ownsRow base e size v n xs)
  (ad:Addr)(m c:Nat)(ys:List Value)(hx:a.eval x=.slice (some ad) m c)(hl:ys.length=m * size)(hnews:∀(j:Nat) u,ys[j]? = some u→∃ad',some ad=some ad'∧w.cell? (ad'.add j)=some u)(h1:∀u ∈ ys,u.oneCell'=true)
  (h63:n+m≤maxLen)(hbytes:(n+m) * bytes≤140737488355328)(hbase:base≤w.heap.size)
  (h:∀v' w',w'.ownsRow base e size v' (n+m) (xs ++ ys)→w.grownBy w' v.ownBlock→K (a.put o.dst v') w') :
  if Region.wanted o (yielded ops a.tmps)=true then Oper.wp P o a w K Q else E:=by
 have hw:Region.wanted o (yielded ops a.tmps)=true:=by simp[Region.wanted,hgd]
 rw[if_pos hw]
 refine wp_append_own w s x t ho base e i z size bytes ht hi hz hsize hby hzs hsz v n xs hs hown ad m c ys hx hl (fun j u hj=>?_) h1 h63 hbytes hbase (fun v' w' hown' hgr _=>h v' w' hown' hgr)
 obtain⟨ad',e1,hc⟩:=hnews j u hj
 injection e1 with e1
 subst e1
 exact hc
theorem uJ (i:Nat)(hi:i≤9223372036854775807):I64 (plainD false i 0).e:=by
 have h1:=BB i
 have h2:=jB i (by omega)
 unfold plainD I64
 split
 ·simp
 ·dsimp only
  omega
theorem yG {w:World}{b n c l:Nat}{e:TypeId}{s:Nat}{a:Option Addr}{xs:List Value}(h:w.ownsRow b e s (.slice a l c) n xs):n≤c∧c≤9223372036854775807:=by
 rcases h.2 with ⟨hv,h0⟩ | ⟨g,cap,cur,hv,_,_,hnc,hcm,_⟩
 ·injection hv with _ e2 e3
  omega
 ·injection hv with _ e2 e3
  subst e3
  exact⟨hnc,by unfold maxLen at hcm;exact hcm⟩
end Go.Proofs.YtcgbmmalfbpjaaaGreatDoor
