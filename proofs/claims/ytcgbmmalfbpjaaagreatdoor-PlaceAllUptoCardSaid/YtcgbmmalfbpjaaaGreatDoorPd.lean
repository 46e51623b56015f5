/-  -/
import Derived.Test.YtcgbmmalfbpjaaaGreatDoorPc
import Derived.Test.YtcgbmmalfbpjaaaGreatDoorSlices
import Derived.Test.YtcgbmmalfbpjaaaGreatDoorMl
import Derived.Laws.CopyOwn
import Derived.OwnWalk
set_option maxRecDepth 100000
set_option maxHeartbeats 16000000
namespace Go.Proofs.YtcgbmmalfbpjaaaGreatDoor
open Go.RowKit
theorem oG {P:Program}(w:World)(dT sT ty elem:TypeId)(size g o dLen dCap:Nat)(a:Addr)(sLen sCap:Nat)(cur:Array Value)(t:TypeId)(cs:List Value)
  (hu:P.underlying dT=some (.slice elem))(hs:(P.info? elem).map (·.size)=some size)
  (hg:w.heap[g]? = some (.cells cur t (0,0)))(hn:cs.length=Nat.min sLen dLen * size)
  (hsrc:∀j v,cs[j]? = some v→w.cell? (a.add j)=some v)(hfit:o+cs.length≤cur.size)(h1:∀v ∈ cs,v.oneCell'=true) :
  (Builtin.copy_ #[dT,sT] ty #[.slice (some ⟨g,o,none⟩) dLen dCap,.slice (some a) sLen sCap]).run P w =
   .ok (goInt (Nat.min sLen dLen)) (w.setRow g (cur.toList.take o ++ cs ++ cur.toList.drop (o+cs.length)).toArray):=by
 have hl:=run_loadCells_list (P:=P) w a cs hsrc
 have hst:=run_storeCells_at P g o t cs 0 cur w hg (by simpa using hfit) h1
 cases hq:P.info? elem with
 | none=>simp[hq] at hs
 | some i =>
  have hi:i.size=size:=by simpa[hq] using hs
  simp only[Nat.add_zero] at hst
  simp[Builtin.copy_,run_underlying hu,Builtin.lenOf,Builtin.firstCells,sizeOf,typeInfo,hq,hi,←hn,hl,hst]
theorem mr {P:Program}(w:World)(dT sT ty elem:TypeId)(size dLen dCap:Nat)(dp:Option Addr)(sLen sCap:Nat)
  (hu:P.underlying dT=some (.slice elem))(hs:(P.info? elem).map (·.size)=some size) :
  (Builtin.copy_ #[dT,sT] ty #[.slice dp dLen dCap,.slice none sLen sCap]).run P w=.ok (goInt (Nat.min sLen dLen)) w:=by
 cases hq:P.info? elem with
 | none=>simp[hq] at hs
 | some i=>cases dp<;>simp[Builtin.copy_,run_underlying hu,Builtin.lenOf,Builtin.firstCells,sizeOf,typeInfo,hq,storeCells]
theorem zq {P:Program}{w:World}{o:Oper}{a:Act}{K:Act→World→Prop}{Q:Exit→Act→World→Prop}(d s:Operand)(dT sT:TypeId)
  (ho:o.op=.call { callee:=.builtin .copy,args:=#[d,s],argTypes:=#[dT,sT] })(elem:TypeId)(size:Nat)(hu:P.underlying dT=some (.slice elem))(hsz:(P.info? elem).map (·.size)=some size)
  (g dLen dCap sLen sCap:Nat)(sp:Option Addr)(hd:a.eval d=.slice (some ⟨g,0,none⟩) dLen dCap)(hs:a.eval s=.slice sp sLen sCap)
  (cur:Array Value)(t:TypeId)(hg:w.heap[g]? = some (.cells cur t (0,0)))(cs:List Value)(hn:cs.length=Nat.min sLen dLen * size)
  (hsrc:∀(j:Nat) v,cs[j]? = some v→∃ad,sp=some ad∧w.cell? (ad.add j)=some v)(hfit:cs.length≤cur.size)(h1:∀v ∈ cs,v.oneCell'=true)(B:Nat)(w0:World)(hb:Below B w0 w)(hBg:B≤g)
  (h:∀w',Hid (w'.heap[g]? = some (.cells (cs ++ cur.toList.drop cs.length).toArray t (0,0)))→Hid (Below B w0 w')→K (a.put o.dst (goInt (Nat.min sLen dLen))) w'):o.wp P a w K Q:=by
 unfold Oper.wp
 cases sp with
 | some ad =>
  have hsrc':∀j v,cs[j]? = some v→w.cell? (ad.add j)=some v:=fun j v hj=>by
   obtain⟨ad',e,hc⟩:=hsrc j v hj
   obtain rfl:=Option.some.inj e
   exact hc
  have hrun:=oG (P:=P) w dT sT o.type elem size g 0 dLen dCap ad sLen sCap cur t cs hu hsz hg hn hsrc' (by omega) h1
  simp[execOp,ho,resolve,invoke,builtin,hd,hs,hrun,Result.andThen]
  refine h _ ?_ ?_
  ·exact setRow_heap w g cur (cs ++ cur.toList.drop cs.length).toArray t (0,0) hg
  ·exact below_setRow hb hBg (cs ++ cur.toList.drop cs.length).toArray
 | none =>
  have hc:cs=[]:=by
   cases cs with
   | nil=>rfl
   | cons x l=>obtain⟨ad,e,_⟩:=hsrc 0 x rfl;cases e
  subst hc
  have hrun:=mr (P:=P) w dT sT o.type elem size dLen dCap (some ⟨g,0,none⟩) sLen sCap hu hsz
  simp[execOp,ho,resolve,invoke,builtin,hd,hs,hrun,Result.andThen]
  exact h _ (by show _=_;simpa using hg) hb
theorem oH {P:Program}{w:World}{ops:Array Oper}{rest:List Oper}{o:Oper}{a:Act}{Q:Exit→Act→World→Prop}(hgd:o.guard=none)(d s:Operand)(dT sT:TypeId)
  (ho:o.op=.call { callee:=.builtin .copy,args:=#[d,s],argTypes:=#[dT,sT] })(elem:TypeId)(size:Nat)(hu:P.underlying dT=some (.slice elem))(hsz:(P.info? elem).map (·.size)=some size)
  (g dLen dCap sLen sCap:Nat)(sp:Option Addr)(hd:a.eval d=.slice (some ⟨g,0,none⟩) dLen dCap)(hs:a.eval s=.slice sp sLen sCap)
  (cur:Array Value)(t:TypeId)(hg:w.heap[g]? = some (.cells cur t (0,0)))(cs:List Value)(hn:cs.length=Nat.min sLen dLen * size)
  (hsrc:∀(j:Nat) v,cs[j]? = some v→∃ad,sp=some ad∧w.cell? (ad.add j)=some v)(hfit:cs.length≤cur.size)(h1:∀v ∈ cs,v.oneCell'=true)(B:Nat)(w0:World)(hb:Below B w0 w)(hBg:B≤g)
  (h:∀w',Hid (w'.heap[g]? = some (.cells (cs ++ cur.toList.drop cs.length).toArray t (0,0)))→Hid (Below B w0 w')→wpList P ops Q rest (a.put o.dst (goInt (Nat.min sLen dLen))) w'):wpList P ops Q (o :: rest) a w :=
 wpList_plain hgd fun _ hK=>zq d s dT sT ho elem size hu hsz g dLen dCap sLen sCap sp hd hs cur t hg cs hn hsrc hfit h1 B w0 hb hBg fun w' h1 h2=>hK _ _ (h w' h1 h2)
theorem bF {P:Program}{w:World}{ops:Array Oper}{rest:List Oper}{o:Oper}{a:Act}{Q:Exit→Act→World→Prop}(hgd:o.guard=none)(s x:Operand)(t:TypeId)
  (ho:o.op=.call { callee:=.builtin .append,args:=#[s,x],argTypes:=#[t,t] })
  (e:TypeId)(i:TypeInfo)(ht:P.underlying t=some (.slice e))(hi:P.info? e=some i)
  (sa:Option Addr)(sn sc c:Nat)(hs:a.eval s=.slice sa sn sc)(hsc:sn≤sc)(hx:a.eval x=.slice none 0 c)
  (h:wpList P ops Q rest (a.put o.dst (.slice sa sn sc)) w):wpList P ops Q (o :: rest) a w:=by
 refine wpList_plain hgd fun K hK=>?_
 have hrun:(Builtin.append_ #[t,t] o.type #[.slice sa sn sc,.slice none 0 c]).run P w=.ok (.slice sa sn sc) w:=by
  cases sa<;>simp[Builtin.append_,run_underlying ht,Builtin.lenOf,Builtin.firstCells,sizeOf,typeInfo,hi,storeCells,hsc]
 unfold Oper.wp
 simp[execOp,ho,resolve,invoke,builtin,hs,hx,hrun,Result.andThen]
 exact hK _ _ h
theorem dX {P:Program}{w:World}{ops:Array Oper}{rest:List Oper}{o:Oper}{a:Act}{Q:Exit→Act→World→Prop}(hgd:o.guard=none)(s x:Operand)(t:TypeId)
  (ho:o.op=.call { callee:=.builtin .append,args:=#[s,x],argTypes:=#[t,t] })
  (base:Nat)(e:TypeId)(i:TypeInfo)(z:Value)(size bytes:Nat)(ht:P.underlying t=some (.slice e))(hi:P.info? e=some i)(hz:i.zero=some z)
  (hsize:i.size=size)(hby:i.bytes=bytes)(hzs:z.cells.size=size)(hsz:0<size)
  (v:Value)(n:Nat)(xs:List Value)(hs:a.eval s=v)(hown:w.ownsRow base e size v n xs)
  (ao:Option Addr)(m c:Nat)(ys:List Value)(hx:a.eval x=.slice ao m c)(hl:ys.length=m * size)(hnews:∀(j:Nat) u,ys[j]? = some u→∃ad,ao=some ad∧w.cell? (ad.add j)=some u)(h1:∀u ∈ ys,u.oneCell'=true)
  (h63:n+m≤maxLen)(hbytes:(n+m) * bytes≤140737488355328)(hbase:base≤w.heap.size)
  (h:∀v' w',w'.ownsRow base e size v' (n+m) (xs ++ ys)→Below base w w'→wpList P ops Q rest (a.put o.dst v') w'):wpList P ops Q (o :: rest) a w:=by
 cases ao with
 | some ad =>
  refine wpList_append_own w hgd s x t ho base e i z size bytes ht hi hz hsize hby hzs hsz v n xs hs hown ad m c ys hx hl (fun j u hj=>?_) h1 h63 hbytes hbase (fun v' w' hown' hgr _=>h v' w' hown' ((Below.refl base w).grown hgr hbase (fun k hk=>(hown.lt k hk).1)))
  obtain⟨ad',e1,hc⟩:=hnews j u hj
  injection e1 with e1
  subst e1
  exact hc
 | none =>
  have hys:ys=[]:=by
   cases ys with
   | nil=>rfl
   | cons y ys=>obtain⟨ad,e1,_⟩:=hnews 0 y rfl;cases e1
  subst hys
  obtain rfl:m=0:=by
   have:m * size=0:=by simpa using hl.symm
   rcases Nat.mul_eq_zero.1 this with h | h
   ·exact h
   ·omega
  have hK:=h v w (by simpa using hown) (Below.refl _ _)
  obtain⟨_,hh | ⟨g,cap,cur,hv,_,_,hnc,_⟩⟩:=hown
  ·obtain⟨rfl,_⟩:=hh
   exact bF hgd s x t ho e i ht hi none 0 0 c hs (Nat.le_refl _) hx hK
  ·subst hv
   exact bF hgd s x t ho e i ht hi _ n cap c hs hnc hx hK
section
variable {w0:World}
def zeroZ (w0:World):ZE w0:=⟨[.int .i64 0,.bool false,.slice none 0 0,.int .i64 0,.string ⟨#[]⟩,.slice none 0 0,.slice none 0 0],.null,dZ _⟩
theorem Dq:∃i0,Tryz.prog.info? 28=some i0∧i0.size=7∧i0.bytes=112∧∃z,i0.zero=some z∧z.cells=#[.int .i64 0,.bool false,.slice none 0 0,.int .i64 0,.string ⟨#[]⟩,.slice none 0 0,.slice none 0 0]:=by
 have h:(Tryz.prog.info? 28).map (fun i=>(i.size,i.bytes,i.zero.map (·.cells)))=some (7,112,some #[.int .i64 0,.bool false,.slice none 0 0,.int .i64 0,.string ⟨#[]⟩,.slice none 0 0,.slice none 0 0]):=by kernel_rfl
 obtain⟨i,h1,h2⟩:=Option.map_eq_some_iff.1 h
 simp only[Prod.mk.injEq] at h2
 obtain⟨z,h3,h4⟩:=Option.map_eq_some_iff.1 h2.2.2
 exact⟨i,h1,h2.1,h2.2.1,z,h3,h4⟩
theorem Aj (w0:World)(n:Nat):(madeCells #[.int .i64 0,.bool false,.slice none 0 0,.int .i64 0,.string ⟨#[]⟩,.slice none 0 0,.slice none 0 0] (n * 7)).toList=(List.replicate n (zeroZ w0)).flatMap ZE.cs:=by
 apply List.ext_getElem?
 intro j
 by_cases hj:j<n * 7
 ·obtain⟨i,c,hi,hc,rfl⟩:=lX j hj
  rw[eF _ i c (zeroZ w0) (by rw[List.getElem?_replicate,if_pos hi]) hc]
  have hm:(i * 7+c) % 7=c:=by omega
  have e:(madeCells #[.int .i64 0,.bool false,.slice none 0 0,.int .i64 0,.string ⟨#[]⟩,.slice none 0 0,.slice none 0 0] (n * 7)).toList[i * 7+c]? = some ((#[.int .i64 0,.bool false,.slice none 0 0,.int .i64 0,.string ⟨#[]⟩,.slice none 0 0,.slice none 0 0]:Array Value)[(i * 7+c) % 7]!):=by
   unfold madeCells
   rw[Array.getElem?_toList,Array.getElem?_map,Array.getElem?_range]
   simp[hj]
  rw[e,hm]
  obtain rfl | rfl | rfl | rfl | rfl | rfl | rfl:c=0∨c=1∨c=2∨c=3∨c=4∨c=5∨c=6:=by omega
  all_goals rfl
 ·rw[List.getElem?_eq_none (by rw[Array.length_toList,size_madeCells];omega),List.getElem?_eq_none (by rw[aV,List.length_replicate];omega)]
theorem jw {W:World}{a:Option Addr}{E:List (ZE w0)}(h:∀(i:Nat) (e:ZE w0),E[i]? = some e→CellsAt W a (i * 7) e.cs):∀(j:Nat) (u:Value),(E.flatMap ZE.cs)[j]? = some u→∃ad,a=some ad∧W.cell? (ad.add j)=some u:=by
 intro j u hj
 have hlt:=(List.getElem?_eq_some_iff.1 hj).1
 rw[aV] at hlt
 obtain⟨i,c,hi,hc,rfl⟩:=lX j hlt
 obtain⟨b,off,rfl,_⟩:=h i _ (List.getElem?_eq_getElem hi)
 refine⟨_,rfl,?_⟩
 rw[Addr.add_lit]
 exact lF h _ u hj
theorem qB {E F:List (ZE w0)}:(E ++ F).flatMap ZE.cs=E.flatMap ZE.cs ++ F.flatMap ZE.cs:=List.flatMap_append ..
theorem zover (E:List (ZE w0))(n:Nat)(_h:E.length≤n):E.flatMap ZE.cs ++ ((List.replicate n (zeroZ w0)).flatMap ZE.cs).drop (E.flatMap ZE.cs).length=(E ++ List.replicate (n-E.length) (zeroZ w0)).flatMap ZE.cs:=by
 rw[qB]
 congr 1
 have e:List.replicate n (zeroZ w0)=List.replicate E.length (zeroZ w0) ++ List.replicate (n-E.length) (zeroZ w0):=by rw[List.replicate_append_replicate];congr 1;omega
 rw[e,qB]
 rw[List.drop_append_of_le_length (by rw[aV,aV,List.length_replicate];exact Nat.le_refl _),List.drop_of_length_le (by rw[aV,aV,List.length_replicate];exact Nat.le_refl _),List.nil_append]
theorem wZ {W:World}{g i:Nat}{T:TypeId}{E:List (ZE w0)}(hW:W.heap[g]? = some (.cells (E.flatMap ZE.cs).toArray T (0,0)))(hi:i<E.length)(f:ZE w0):∀(j:Nat) (u:Value),((E.set i f).flatMap ZE.cs)[j]? = some u→(W.setCells g (i * 7) f.cs).cell? ⟨g,0+j,none⟩=some u:=by
 intro j u hj
 have hcell:∀(t:Nat) (x:Value),(E.flatMap ZE.cs)[t]? = some x→W.cell? ⟨g,t,none⟩=some x:=fun t x ht=>by
  simp only[World.cell?,hW]
  simpa using ht
 have hlt:=(List.getElem?_eq_some_iff.1 hj).1
 rw[aV,List.length_set] at hlt
 obtain⟨k,c,hk,hc,rfl⟩:=lX j hlt
 rw[Nat.zero_add]
 by_cases hki:k=i
 ·subst hki
  rw[eF _ k c f (by rw[List.getElem?_set_self (by omega)]) hc] at hj
  obtain⟨hc2,hu⟩:=List.getElem?_eq_some_iff.1 hj
  have:=World.cell?_setCells_in g f.cs (k * 7) W (fun m hm=>by
   have hm7:m<7:=by rw[f.rd.len] at hm;exact hm
   have hlt2:k * 7+m<(E.flatMap ZE.cs).length:=by rw[aV];omega
   rw[hcell _ _ (List.getElem?_eq_getElem hlt2)]
   rfl) c hc2
  rw[this,hu]
 ·rw[eF _ k c E[k] (by rw[List.getElem?_set_ne (fun h=>hki h.symm),List.getElem?_eq_getElem]) hc] at hj
  rw[World.cell?_setCells_out g _ _ _ ⟨g,_,none⟩ (fun _ _=>by rw[f.rd.len];dsimp only;omega)]
  refine hcell _ _ ?_
  rw[eF E k c E[k] (List.getElem?_eq_getElem hk) hc]
  exact hj
end
def OutA (A:Nat→Prop) (w:World) (l:List JV) (er:Nat) (e:Ending) (w':World):Prop :=
 ∃(q:Option Addr) (c:Nat),e=.returned (.tuple #[.slice q l.length c,.int .i64 er])∧RdA (hideW A w') q l∧(l.length≤c∧c≤9223372036854775807)∧Below w.heap.size w w'
theorem jU {A:Nat→Prop}{w W:World}{er:Nat}(hb:Below w.heap.size w W):OutA A w [] er (.returned (.tuple #[.slice none 0 0,.int .i64 er])) W :=
 ⟨none,0,rfl,fun i x hx=>by simp at hx,by simp,hb⟩
theorem Fa (n:Nat)(hn:n≤1099511627776)(w:World) :
  Calls Tryz.prog 144 #[.slice none 0 0,.int .i64 n] w fun e w'=>∃v,e=.returned v∧w'.ownsRow w.heap.size 28 7 v 0 []∧Below w.heap.size w w':=by
 obtain⟨i0,h1,h2,h3,z,h4,h5⟩:=eG
 by_cases h0:n=0
 ·subst h0
  refine (Any8.slices_Grow_room Tryz.laysGrow none 0 0 0 w (Nat.le_refl _) (by omega) (by omega) (Nat.le_refl _)).mono ?_
  rintro e w' ⟨rfl,rfl⟩
  exact⟨_,rfl,World.ownsRow_nil _ _ _ _,Below.refl _ _⟩
 ·refine (Any8.slices_Grow_grow Tryz.laysGrow i0 z h1 h4 (by omega) none 0 0 n [] w (Nat.le_refl _) (by omega) (by rw[h3];omega) (by omega) (by simp) (fun _=>rfl) (fun a h=>by cases h)).mono ?_
  rintro e w' ⟨rfl,rfl⟩
  refine⟨_,rfl,⟨rfl,.inr ⟨w.heap.size,grownCap w (0+n) 0 28,_,rfl,Nat.le_refl _,heap_alloc_new w.drew _,Nat.zero_le _,grownCap_le_maxLen w (0+n) 0 _ (by unfold maxLen;omega),?_,by simp⟩⟩,((Below.refl _ _).drew).alloc (Nat.le_refl _) _⟩
  have hg:0+n≤grownCap w (0+n) 0 28:=grownCap_ge w _ _ _
  simp only[Array.size_append,Builtin.zeroCells,Array.size_map,Array.size_range,h5]
  show 0+(0+n-0) * 7+(grownCap w (0+n) 0 28-(0+n)) * 7=_
  generalize grownCap w (0+n) 0 28=G at hg ⊢
  omega
abbrev RowP:=Option Addr × Nat × List JV
def sumL (ps:List RowP):Nat:=(ps.flatMap (·.2.2)).length
theorem oU (ps:List RowP)(p:RowP):sumL (ps ++ [p])=sumL ps+p.2.2.length:=by simp[sumL]
theorem DX {ps:List RowP}{B:Nat}:∀{n:Nat},ps.length≤n→(∀p ∈ ps,p.2.2.length≤B)→sumL ps≤n * B:=by
 induction ps with
 | nil=>intro n _ _;simp[sumL]
 | cons p ps ih =>
  intro n hn h
  obtain⟨m,rfl⟩:∃m,n=m+1:=⟨n-1,by simp at hn;omega⟩
  have:=ih (n:=m) (by simpa using hn) (fun q hq=>h q (List.mem_cons_of_mem _ hq))
  have h2:=h p (List.mem_cons_self ..)
  have e:sumL (p :: ps)=p.2.2.length+sumL ps:=by simp[sumL]
  rw[e,Nat.add_one_mul]
  omega
theorem qG (ps:List RowP)(i:Nat):sumL (ps.take i)≤sumL ps:=by
 have e:sumL ps=sumL (ps.take i)+sumL (ps.drop i):=by unfold sumL;rw[←List.length_append,←List.flatMap_append,List.take_append_drop]
 omega
theorem rZ (A:Nat→Prop)(ps:List RowP)(b N pc:Nat)(w:World)(hIn:In A w)(hN:N=ps.length)(hn:N≤3)(hl:∀p ∈ ps,p.2.2.length≤274877906944)
  (hc:∀(i:Nat) (p:RowP),ps[i]? = some p→w.cell? ⟨b,i,none⟩=some (.slice p.1 p.2.2.length p.2.1))(hr:∀p ∈ ps,RdA (hideW A w) p.1 p.2.2) :
  Calls Tryz.prog 104 #[.slice (some ⟨b,0,none⟩) N pc] w fun e w'=>∃(q:Option Addr) (c:Nat),e=.returned (.slice q (sumL ps) c)∧RdA (hideW A w') q (ps.flatMap (·.2.2))∧(sumL ps≤c∧c≤9223372036854775807)∧Below w.heap.size w w':=by
 have hS:=hid (show sumL ps≤824633720832 by have:=DX (n:=3) (B:=274877906944) (by omega) hl;omega)
 have hT:=hid (qG ps)
 have hC:=hid hc
 have hR:=hid hr
 have hL:=hid hl
 have hI:=hid hIn
 have hNP:=hid hN
 clear hl hc hr hIn hN
 obtain⟨i0,i1,i2,i3,z,i4,i5⟩:=eG
 replace i1:=hid i1
 replace i2:=hid i2
 replace i3:=hid i3
 replace i4:=hid i4
 replace i5:=hid i5
 have GV:=hid (Fa (sumL ps) (by have:=hS.out;omega) w)
 obtain⟨S,hSS⟩:∃S,S=sumL ps:=⟨_,rfl⟩
 rw[←hSS] at hS GV ⊢
 replace hSS:=hid hSS
 go_enter Tryz.func104,Tryz.ntmps104
 go_upto_region 3 with fail
 go_loopw [3,5,11] (fun v3 _ v11 wr=>∃i:Nat,i≤N∧v3=.int .i64 (sumL (ps.take i))∧v11=.int .i64 i∧w=wr) (fun _ _ v11 _=>N-(intOf v11).toNat)
 case atStart=>exact⟨0,Nat.zero_le _,rfl,rfl,rfl⟩
 case round =>
  obtain⟨i,hi,rfl,rfl,rfl⟩:=hrel
  by_cases hlt:i<N
  ·have hlt2:(i:Int)<(N:Int):=by omega
   have hi1:i<ps.length:=by rw[←hNP.out];exact hlt
   have hp:=List.getElem?_eq_getElem hi1
   have u0:=hC.out i _ hp
   have e1:sumL (ps.take (i+1))=sumL (ps.take i)+(ps[i]).2.2.length:=by rw[List.take_succ_eq_append_getElem hi1,oU]
   have e2:sumL (ps.take i)+(ps[i]).2.2.length≤824633720832:=by have:=hT.out (i+1);rw[e1,←hSS.out] at this;have:=hS.out;omega
   replace e1:=hid e1
   generalize ps[i]=p at u0 e1 e2
   obtain⟨pa,pcp,pl⟩:=p
   dsimp only at u0 e1 e2
   generalize sumL (ps.take i)=s1 at e1 e2 ⊢
   generalize pl.length=ln at u0 e1 e2
   have e3:¬ (((s1:Int)+(ln:Int))<0):=by omega
   go_wp2_with fail
   go_roundw
   case rel=>exact⟨i+1,by omega,by rw[e1.out];go_num,by go_num,by first | rfl | trivial⟩
   case measure=>simp[intOf];omega
  ·obtain rfl:i=N:=by omega
   have hlt2:¬ ((i:Nat):Int)<(i:Int):=by omega
   have et:sumL (ps.take i)=S:=by rw[List.take_of_length_le (by rw[←hNP.out];exact Nat.le_refl _),hSS.out]
   rw[et]
   clear et
   go_wp2_with fail
   refine GV.out.mono ?_
   rintro en w1 ⟨v,rfl,hown,hb⟩
   replace hown:=hid hown
   replace hb:=hid hb
   clear GV
   go_upto_region 11 with fail
   go_loopw [6,8,27] (fun v6 _ v27 wr=>∃j:Nat,∃E:List (ZE (hideW A w)),j≤i∧v27=.int .i64 j∧Hid (wr.ownsRow w.heap.size 28 7 v6 (sumL (ps.take j)) (E.flatMap ZE.cs))∧Hid (E.map ZE.v=(ps.take j).flatMap (·.2.2))∧Hid (Below w.heap.size w wr)) (fun _ _ v27 _=>i-(intOf v27).toNat)
   case atStart=>exact⟨0,[],Nat.zero_le _,rfl,hown,hid rfl,hb⟩
   case round =>
    obtain⟨j,E,hj,rfl,hO,hE,hB⟩:=hrel
    clear hown hb
    by_cases hlt:j<i
    ·have hlt3:(j:Int)<(i:Int):=by omega
     have hj1:j<ps.length:=by rw[←hNP.out];exact hlt
     have hp:=List.getElem?_eq_getElem hj1
     have u0:=(ai (hC.out j _ hp) hB.out)
     have hpm:=List.getElem_mem hj1
     have hra:=hR.out _ hpm
     have e1:sumL (ps.take (j+1))=sumL (ps.take j)+(ps[j]).2.2.length:=by rw[List.take_succ_eq_append_getElem hj1,oU]
     have e4:(ps.take (j+1)).flatMap (·.2.2)=(ps.take j).flatMap (·.2.2) ++ (ps[j]).2.2:=by rw[List.take_succ_eq_append_getElem hj1,List.flatMap_append];simp
     have e2:sumL (ps.take j)+(ps[j]).2.2.length≤824633720832:=by have:=hT.out (j+1);rw[e1,←hSS.out] at this;have:=hS.out;omega
     replace e1:=hid e1
     replace e4:=hid e4
     clear hp hpm
     generalize ps[j]=p at u0 e1 e2 e4 hra
     obtain⟨pa,pcp,pl⟩:=p
     dsimp only at u0 e1 e2 e4 hra
     obtain⟨F,f1,f2⟩:=hra.zes
     have f3:=hid (jw (W:=wr) (a:=pa) (E:=F) (fun i e he=>((f2 i e he).sub (aC A w)).sub (SubW.below hB.out)))
     have f4:=hid (show (F.flatMap ZE.cs).length=pl.length * 7 by rw[aV,←f1,List.length_map])
     have f5:=hid f1
     replace e2:=hid e2
     clear f1 f2 hra
     go_wp2_with (at_builtin;refine dX rfl _ _ _ rfl w.heap.size _ i0 z 7 112 Tryz.underlying25 i1.out i4.out i2.out i3.out i5.out (by decide) _ _ _ rfl hO.out pa pl.length pcp (F.flatMap ZE.cs) rfl f4.out f3.out (dY F) (by unfold maxLen;have:=e2.out;omega) (by have:=e2.out;omega) hB.out.size ?_;intro v' w' hown' hb')
     replace hown':=hid hown'
     replace hb':=hid hb'
     go_wp2_with fail
     go_roundw
     case rel=>exact⟨j+1,E ++ F,by omega,by go_num,hid (by rw[e1.out,List.flatMap_append];exact hown'.out),hid (by rw[List.map_append,hE.out,f5.out,e4.out]),hid (hB.out.trans (hb'.out))⟩
     case measure=>simp[intOf];omega
    ·obtain rfl:j=i:=by omega
     have hlt2:¬ ((j:Nat):Int)<(j:Int):=by omega
     have et:sumL (ps.take j)=S:=by rw[List.take_of_length_le (by rw[←hNP.out];exact Nat.le_refl _),hSS.out]
     have et2:ps.take j=ps:=List.take_of_length_le (by rw[←hNP.out];exact Nat.le_refl _)
     have hE2:=hE.out
     rw[et2] at hE2
     have hlen:S=E.length:=by rw[hSS.out];unfold sumL;rw[←hE2,List.length_map]
     have hO2:=hO.out
     rw[et,hlen] at hO2
     clear et et2 hE hO hlt
     obtain⟨q,qn,qc,hv6⟩:∃q qn qc,u6=.slice q qn qc:=by
      obtain⟨_,⟨h,_⟩ | ⟨g,c2,cur,h,_⟩⟩:=hO2
      ·exact⟨_,_,_,h⟩
      ·exact⟨_,_,_,h⟩
     subst hv6
     have hfin:=lQ (A:=A) (E:=E) hI.out (az (A:=A) (A':=A) (fun _ _ h=>h) hB.out) hO2
     obtain⟨g1,gn,g2,g3⟩:=hfin
     obtain rfl:qn=S:=by rw[gn,hlen]
     rw[hE2] at g1
     have g1':=hid g1
     replace g2:=hid g2
     clear g1 hO2 gn hlen hE2
     go_wp2_with fail
     go_ret
     exact⟨q,qc,rfl,g1'.out,⟨g2.out,g3⟩,hB.out⟩
theorem wY {W:World}{B g n:Nat}{T:TypeId}{xs:List Value}(h:W.ownsRow B T 7 (.slice (some ⟨g,0,none⟩) n n) n xs):W.heap[g]? = some (.cells xs.toArray T (0,0))∧xs.length=n * 7:=by
 obtain⟨h1,⟨h2,_⟩ | ⟨g',cap,cur,hv,_,hc,_,_,hsz,ht⟩⟩:=h
 ·cases h2
 ·injection hv with e1 e2 e3
  obtain rfl:g=g':=by simpa using e1
  subst e3
  rw[List.take_of_length_le (by rw[Array.length_toList,hsz];exact Nat.le_refl _)] at ht
  subst ht
  exact⟨by rw[hc],h1⟩
theorem qY {W:World}{g:Nat}{T:TypeId}{xs:List Value}(h:W.heap[g]? = some (.cells xs.toArray T (0,0))){j:Nat}(hj:j<xs.length):W.cell? ⟨g,j,none⟩=some xs[j]:=by
 simp only[World.cell?,h]
 simp[hj]
theorem Ey {W:World}{g:Nat}{T:TypeId}{xs:Array Value}(h:W.heap[g]? = some (.cells xs T (0,0)))(j:Nat):W.frozen? ⟨g,j,none⟩=false:=by
 simp[World.frozen?,h]
theorem uQ (zk:Int)(zg:Bool)(za:Option Addr)(zl zc:Nat)(ze:Int)(zs:ByteArray)(zaa:Option Addr)(zan zac:Nat)(zoa:Option Addr)(zon zoc:Nat)(la:Option Addr)(ll lc:Nat)(u:Value)(w:World)(Q:Ending→World→Prop)
  (hu:u=.nilIface∨∃t,u=.iface 73 t)(hn:∀W,Below w.heap.size w W→Q (.returned (.tuple #[.slice none 0 0,.int .i64 9])) W) :
  Calls Tryz.prog 90 #[.slice la ll lc,u,.agg #[.int .i64 zk,.bool zg,.slice za zl zc,.int .i64 ze,.string zs,.slice zaa zan zac,.slice zoa zon zoc]] w Q:=by
 obtain⟨W,hW⟩:∃W,W=w.alloc (.cells #[.int .i64 zk,.bool zg,.slice za zl zc,.int .i64 ze,.string zs,.slice zaa zan zac,.slice zoa zon zoc] 28):=⟨_,rfl⟩
 have hb:Below w.heap.size w W:=by rw[hW];exact (Below.refl _ _).alloc (Nat.le_refl _) _
 have hq:=hid (hn W hb)
 clear hn hb
 replace hW:=hid hW.symm
 rcases hu with rfl | ⟨t,rfl⟩
 all_goals
  go_enter Tryz.func90,Tryz.ntmps90
  go_upto_region 1 with fail
  rw[hW.out]
  go_wp2_with fail
  exact hq.out
theorem Ez (zk:Int)(zg:Bool)(za:Option Addr)(zl zc:Nat)(ze:Int)(zs:ByteArray)(zaa:Option Addr)(zan zac:Nat)(zoa:Option Addr)(zon zoc:Nat)(la:Option Addr)(ll lc:Nat)(yg:Bool)(ya:Option Addr)(yl yc:Nat)(ye:Int)(i:Int)(er:Nat)(w:World)(Q:Ending→World→Prop)(ys:List Value)
  (hcells:∀(j:Nat) u,ys[j]? = some u→∃ad,la=some ad∧w.cell? (ad.add j)=some u)(h1:∀u ∈ ys,u.oneCell'=true)(hyl:ys.length=ll * 7)(hll:ll≤274877906944)
  (CA:∀W,Below w.heap.size w W→Calls Tryz.prog 78 #[.agg #[.bool yg,.slice ya yl yc,.int .i64 ye],.int .i64 ll] W fun e w'=>e=.returned (.tuple #[.int .i64 i,.int .i64 er])∧Below W.heap.size W w')
  (hn:∀err:Nat,((er≠0∧err=er)∨(er=0∧i<0∧err=3)∨(er=0∧65536≤i∧err=10))→∀W,Below w.heap.size w W→Q (.returned (.tuple #[.slice none 0 0,.int .i64 err])) W)
  (hR:er=0→∀(k n g:Nat) (W0:World),i=k→k<65536→n=max ll (k+1)→W0.heap[g]? = some (.cells (ys ++ ((madeCells #[.int .i64 0,.bool false,.slice none 0 0,.int .i64 0,.string ⟨#[]⟩,.slice none 0 0,.slice none 0 0] (n * 7)).toList).drop ys.length).toArray 28 (0,0))→Below w.heap.size w W0→w.heap.size≤g→Q (.returned (.tuple #[.slice (some ⟨g,0,none⟩) n n,.int .i64 0])) (W0.setCells g (k * 7) [.int .i64 zk,.bool zg,.slice za zl zc,.int .i64 ze,.string zs,.slice zaa zan zac,.slice zoa zon zoc])) :
  Calls Tryz.prog 90 #[.slice la ll lc,.iface 76 (.agg #[.bool yg,.slice ya yl yc,.int .i64 ye]),.agg #[.int .i64 zk,.bool zg,.slice za zl zc,.int .i64 ze,.string zs,.slice zaa zan zac,.slice zoa zon zoc]] w Q:=by
 obtain⟨W,hW⟩:∃W,W=w.alloc (.cells #[.int .i64 zk,.bool zg,.slice za zl zc,.int .i64 ze,.string zs,.slice zaa zan zac,.slice zoa zon zoc] 28):=⟨_,rfl⟩
 have hb:Below w.heap.size w W:=by rw[hW];exact (Below.refl _ _).alloc (Nat.le_refl _) _
 have hz:W.heap[w.heap.size]? = some (.cells #[.int .i64 zk,.bool zg,.slice za zl zc,.int .i64 ze,.string zs,.slice zaa zan zac,.slice zoa zon zoc] 28 (0,0)):=by rw[hW];exact aj w _
 have HB:=hid hb
 have HZ:=hid hz
 clear hb hz
 replace hW:=hid hW.symm
 replace CA:=hid CA
 replace hn:=hid hn
 replace hR:=hid hR
 replace hcells:=hid hcells
 replace h1:=hid h1
 replace hyl:=hid hyl
 obtain⟨i0,i1,i2,i3,z,i4,i5⟩:=Dq
 replace i1:=hid i1
 replace i2:=hid i2
 replace i3:=hid i3
 replace i4:=hid i4
 replace i5:=hid i5
 go_enter Tryz.func90,Tryz.ntmps90
 go_upto_region 1 with fail
 rw[hW.out]
 have hbA:=(Below.refl W.heap.size W).alloc (Nat.le_refl _) (.cells #[.bool yg,.slice ya yl yc,.int .i64 ye] 76)
 have q0:=hid (ae HB.out hbA)
 have z0:=hid (af HZ.out hbA)
 clear hbA
 go_wp2_with fail
 refine (CA.out _ q0.out).mono ?_
 rintro en w1 ⟨rfl,hb⟩
 have q1:=hid (ae q0.out hb)
 have z1:=hid (af z0.out hb)
 clear hb q0 z0 HB HZ hW CA
 by_cases he:er=0
 rotate_left
 ·have g:((er:Int) != 0)=true:=by rw[bne_iff_ne];omega
  have hq:=hid (hn.out er (Or.inl ⟨he,rfl⟩) _ q1.out)
  clear hn hR he
  go_wp2_with fail
  exact hq.out
 by_cases h0:i<0
 ·have hq:=hid (hn.out 3 (Or.inr (Or.inl ⟨he,h0,rfl⟩)) _ q1.out)
  subst he
  clear hn hR
  go_wp2_with fail
  exact hq.out
 by_cases h6:65536≤i
 ·have hq:=hid (hn.out 10 (Or.inr (Or.inr ⟨he,h6,rfl⟩)) _ q1.out)
  subst he
  clear hn hR
  have h7:i ≥ 65536:=h6
  go_wp2_with fail
  exact hq.out
 have hR2:=hid (hR.out he)
 subst he
 clear hn hR
 have h7:¬ (i ≥ 65536):=by omega
 clear h6
 obtain⟨⟨p0,p1,p2,p3,p4,p5,p6⟩,_⟩:=ag z1.out
 go_upto_region 11 with fail
 obtain⟨k,rfl⟩:∃k:Nat,i=k:=⟨i.toNat,by omega⟩
 have hk6:=hid (show k<65536 by omega)
 clear h7 h0
 obtain⟨n,hnn⟩:∃n,n=max ll (k+1):=⟨_,rfl⟩
 have hn1:=hid hnn
 have hln:=hid (show ll≤n by omega)
 have hkn:=hid (show k<n by omega)
 have hnB:=hid (show n≤274877972480 by have:=hk6.out;omega)
 clear hnn
 replace hll:=hid hll
 have hsz:=hid (show (Tryz.prog.info? 28).map (·.size)=some 7 by rw[i1.out];exact congrArg some i2.out)
 go_upto_region 12 with ((at_make;refine wpList_make_full _ rfl _ _ _ rfl w1.heap.size 28 i0 z 7 Tryz.underlying25 i1.out i4.out i2.out .i64 .i64 _ _ n rfl rfl (by have:=hn1.out;omega) (by have:=hn1.out;omega) (by rw[i3.out];have:=hnB.out;omega) (by unfold maxLen;have:=hnB.out;omega) (Nat.le_refl _) ?_;intro w2 hown hgr;have hbk:=hid (wY hown);have q2:=hid (q1.out.grown hgr q1.out.size (by simp));have b2:=hid ((Below.refl w1.heap.size w1).grown hgr (Nat.le_refl _) (by simp));clear hown hgr))
 go_upto_region 13 with ((refine oH rfl _ _ _ _ rfl 28 7 Tryz.underlying25 hsz.out w1.heap.size n n ll lc la rfl rfl _ _ hbk.out.1 ys (by rw[hyl.out,show Nat.min ll n=ll from Nat.min_eq_left hln.out]) (fun j u hj=>by obtain⟨ad,e,hc⟩:=hcells.out j u hj;obtain⟨ab,ao,asp⟩:=ad;exact⟨_,e,SubW.below q2.out _ _ hc⟩) (by rw[List.size_toArray,hbk.out.2,hyl.out];have:=hln.out;omega) h1.out w1.heap.size w1 b2.out (Nat.le_refl _) ?_;intro w3 hg3 hb3))
 have z3:=hid (af z1.out hb3.out)
 have q3:=hid (ae q1.out hb3.out)
 have hxl:Hid ((ys ++ (madeCells z.cells (n * 7)).toList.drop ys.length).length=n * 7):=by
  show _=_
  rw[List.length_append,List.length_drop,hbk.out.2,hyl.out]
  have:=hln.out
  omega
 have hF:=hid (hR2.out k n w1.heap.size w3 rfl hk6.out hn1.out (by rw[←i5.out];simpa using hg3.out) q3.out q1.out.size)
 have hfz:=Ey hg3.out
 have hcc:∀j,j<7→∃v,w3.cell? ⟨w1.heap.size,k * 7+j,none⟩=some v:=fun j hj=>⟨_,qY (by simpa using hg3.out) (j:=k * 7+j) (by rw[hxl.out];have:=hkn.out;omega)⟩
 obtain⟨v0,c0⟩:=hcc 0 (by omega)
 obtain⟨v1,c1⟩:=hcc 1 (by omega)
 obtain⟨v2,c2⟩:=hcc 2 (by omega)
 obtain⟨v3,c3⟩:=hcc 3 (by omega)
 obtain⟨v4,c4⟩:=hcc 4 (by omega)
 obtain⟨v5,c5⟩:=hcc 5 (by omega)
 obtain⟨v6,c6⟩:=hcc 6 (by omega)
 rw[Nat.add_zero] at c0
 clear hcc hg3 hb3 hbk q2 b2 hR2 p0 p1 p2 p3 p4 p5 p6 z1 q1
 obtain⟨⟨p0,p1,p2,p3,p4,p5,p6⟩,_⟩:=ag z3.out
 have hkn2:(k:Int)<(n:Int):=by have:=hkn.out;omega
 have hkn3:k<n:=hkn.out
 go_wp2_with fail
 exact hF.out
theorem EC (zk:Int)(zg:Bool)(za:Option Addr)(zl zc:Nat)(ze:Int)(zs:ByteArray)(zaa:Option Addr)(zan zac:Nat)(zoa:Option Addr)(zon zoc:Nat)(xk:Int)(xg:Bool)(xa:Option Addr)(xl xc:Nat)(xe:Int)(xs:ByteArray)(xaa:Option Addr)(xan xac:Nat)(xoa:Option Addr)(xon xoc:Nat)(yk:Int)(yg:Bool)(ya:Option Addr)(yl yc:Nat)(ye:Int)(ys:ByteArray)(yaa:Option Addr)(yan yac:Nat)(yoa:Option Addr)(yon yoc:Nat)(la:Option Addr)(ll lc F T E S:Nat)(w:World)(Q:Ending→World→Prop)(R:World→Option Addr→Nat→Prop)(hcap:ll≤lc∧lc≤9223372036854775807)(hFT:F≤T)(hT:T≤ll)
  (CB:∀W,Below w.heap.size w W→Calls Tryz.prog 79 #[.agg #[.int .i64 xk,.bool xg,.slice xa xl xc,.int .i64 xe,.string xs,.slice xaa xan xac,.slice xoa xon xoc,.int .i64 yk,.bool yg,.slice ya yl yc,.int .i64 ye,.string ys,.slice yaa yan yac,.slice yoa yon yoc],.int .i64 ll] W fun e w'=>e=.returned (.tuple #[.int .i64 F,.int .i64 T,.int .i64 E])∧Below W.heap.size W w')
  (CC:zk=5→E=0→∀W b,Below w.heap.size w W→W.heap[b]? = some (.cells #[.slice la F lc,.slice zaa zan zac,.slice (if lc=T then la else la.map (fun x=>x.add (T * 7))) (ll-T) (lc-T)] 25 (0,0))→Calls Tryz.prog 104 #[.slice (some ⟨b,0,none⟩) 3 3] W fun e w'=>∃(q:Option Addr) (c':Nat),e=.returned (.slice q S c')∧R w' q c'∧Below W.heap.size W w')
  (hn:∀err:Nat,((zk≠5∧err=9)∨(zk=5∧E≠0∧err=E))→∀W,Below w.heap.size w W→Q (.returned (.tuple #[.slice none 0 0,.int .i64 err])) W)
  (hR:zk=5→E=0→∀W q c',R W q c'→Below w.heap.size w W→Q (.returned (.tuple #[.slice q S c',.int .i64 0])) W) :
  Calls Tryz.prog 90 #[.slice la ll lc,.iface 79 (.agg #[.int .i64 xk,.bool xg,.slice xa xl xc,.int .i64 xe,.string xs,.slice xaa xan xac,.slice xoa xon xoc,.int .i64 yk,.bool yg,.slice ya yl yc,.int .i64 ye,.string ys,.slice yaa yan yac,.slice yoa yon yoc]),.agg #[.int .i64 zk,.bool zg,.slice za zl zc,.int .i64 ze,.string zs,.slice zaa zan zac,.slice zoa zon zoc]] w Q:=by
 obtain⟨W,hW⟩:∃W,W=w.alloc (.cells #[.int .i64 zk,.bool zg,.slice za zl zc,.int .i64 ze,.string zs,.slice zaa zan zac,.slice zoa zon zoc] 28):=⟨_,rfl⟩
 have hb:Below w.heap.size w W:=by rw[hW];exact (Below.refl _ _).alloc (Nat.le_refl _) _
 have hz:W.heap[w.heap.size]? = some (.cells #[.int .i64 zk,.bool zg,.slice za zl zc,.int .i64 ze,.string zs,.slice zaa zan zac,.slice zoa zon zoc] 28 (0,0)):=by rw[hW];exact aj w _
 have HB:=hid hb
 have HZ:=hid hz
 clear hb hz
 replace hW:=hid hW.symm
 replace CB:=hid CB
 replace CC:=hid CC
 replace hn:=hid hn
 replace hR:=hid hR
 go_enter Tryz.func90,Tryz.ntmps90
 go_upto_region 1 with fail
 rw[hW.out]
 have hbA:=(Below.refl W.heap.size W).alloc (Nat.le_refl _) (.cells #[.int .i64 xk,.bool xg,.slice xa xl xc,.int .i64 xe,.string xs,.slice xaa xan xac,.slice xoa xon xoc,.int .i64 yk,.bool yg,.slice ya yl yc,.int .i64 ye,.string ys,.slice yaa yan yac,.slice yoa yon yoc] 79)
 have q0:=hid (ae HB.out hbA)
 have z0:=hid (af HZ.out hbA)
 clear hbA
 go_wp2_with fail
 refine (CB.out _ q0.out).mono ?_
 rintro en w1 ⟨rfl,hb⟩
 have q1:=hid (ae q0.out hb)
 have z1:=hid (af z0.out hb)
 clear hb q0 z0 HB HZ hW CB
 obtain⟨⟨p0,p1,p2,p3,p4,p5,p6⟩,_⟩:=ag z1.out
 by_cases hk:zk=5
 rotate_left
 ·have g:(zk != 5)=true:=by rw[bne_iff_ne];exact hk
  have hq:=hid (hn.out 9 (Or.inl ⟨hk,rfl⟩) _ q1.out)
  clear hn hR CC hk
  go_wp2_with fail
  exact hq.out
 by_cases he:E=0
 rotate_left
 ·have g:((E:Int) != 0)=true:=by rw[bne_iff_ne];omega
  have hq:=hid (hn.out E (Or.inr ⟨hk,he,rfl⟩) _ q1.out)
  subst hk
  clear hn hR CC he
  go_wp2_with fail
  exact hq.out
 have C:=hid (CC.out hk he)
 have hR2:=hid (hR.out hk he)
 subst he hk
 clear hn hR CC
 obtain⟨hc1,hc2⟩:=hcap
 have hTc:T≤lc:=by omega
 have hFc:F≤lc:=by omega
 by_cases hcF:lc=T
 ·have C2:=C.out
  rw[if_pos hcF,hcF,Nat.sub_self] at C2
  replace C2:=hid C2
  clear C
  go_upto_region 22 with fail
  go_region_with ((go_at_call 104;refine (C2.out _ w1.heap.size ((q1.out.drew).alloc q1.out.size _) (aj w1.drew _)).mono ?_;rintro e3 w3 ⟨q,c',rfl,hr,hb3⟩))
  all_goals
   have hF:=hid (hR2.out _ q c' hr (ae ((q1.out.drew).alloc q1.out.size _) hb3))
   clear hr hb3
   go_wp2_with fail
   first | exact hF.out | (go_ret2;exact hF.out) | (go_ret2;simp;exact hF.out)
 ·have C2:=C.out
  rw[if_neg hcF] at C2
  replace C2:=hid C2
  clear C
  go_upto_region 22 with fail
  go_region_with ((go_at_call 104;refine (C2.out _ w1.heap.size ((q1.out.drew).alloc q1.out.size _) (aj w1.drew _)).mono ?_;rintro e3 w3 ⟨q,c',rfl,hr,hb3⟩))
  all_goals
   have hF:=hid (hR2.out _ q c' hr (ae ((q1.out.drew).alloc q1.out.size _) hb3))
   clear hr hb3
   go_wp2_with fail
   first | exact hF.out | (go_ret2;exact hF.out) | (go_ret2;simp;exact hF.out)
theorem yR {w:World}{aa:Option Addr}{l:List JV}{ac T:Nat}(h:RdA w aa l)(hc:l.length≤ac):RdA w (if ac=T then aa else aa.map (fun x=>x.add (T * 7))) (l.drop T):=by
 split
 ·rename_i hh
  rw[List.drop_of_length_le (by omega)]
  exact fun i x hx=>by simp at hx
 ·cases aa with
  | none =>
   rw[uC h]
   exact fun i x hx=>by simp at hx
  | some p =>
   by_cases h0:l=[]
   ·rw[h0];exact fun i x hx=>by simp at hx
   ·obtain⟨x0,l0,hl0⟩:=List.exists_cons_of_ne_nil h0
    obtain⟨cs,⟨b',off,e,_⟩,_⟩:=h 0 x0 (by rw[hl0];rfl)
    obtain rfl:p=⟨b',off,none⟩:=by simpa using e
    have:=h.drop T
    rw[show (some (⟨b',off,none⟩:Addr)).map (fun x=>x.add (T * 7))=some ⟨b',off+T * 7,none⟩ by simp[Addr.add]]
    exact this
theorem Ah {W:World}{b:Nat}{T:TypeId}{x0 x1 x2:Value}(h:W.heap[b]? = some (.cells #[x0,x1,x2] T (0,0))):W.cell? ⟨b,0,none⟩=some x0∧W.cell? ⟨b,1,none⟩=some x1∧W.cell? ⟨b,2,none⟩=some x2:=by
 simp[World.cell?,h]
theorem Ai {W:World}{b:Nat}{T:TypeId}{x0 x1:Value}(h:W.heap[b]? = some (.cells #[x0,x1] T (0,0))):W.cell? ⟨b,0,none⟩=some x0∧W.cell? ⟨b,1,none⟩=some x1:=by
 simp[World.cell?,h]
theorem ED (A:Nat→Prop)(b:Nat)(a1 a2 a3:Option Addr)(n1 n2 n3 c1 c2 c3:Nat)(l1 l2 l3:List JV)(w:World)(hIn:In A w)(h:w.heap[b]? = some (.cells #[.slice a1 n1 c1,.slice a2 n2 c2,.slice a3 n3 c3] 25 (0,0)))
  (e1:n1=l1.length)(e2:n2=l2.length)(e3:n3=l3.length)(m1:n1≤274877906944)(m2:n2≤274877906944)(m3:n3≤274877906944)(r1:RdA (hideW A w) a1 l1)(r2:RdA (hideW A w) a2 l2)(r3:RdA (hideW A w) a3 l3) :
  Calls Tryz.prog 104 #[.slice (some ⟨b,0,none⟩) 3 3] w fun e w'=>∃(q:Option Addr) (c:Nat),e=.returned (.slice q (l1 ++ (l2 ++ l3)).length c)∧(RdA (hideW A w') q (l1 ++ (l2 ++ l3))∧((l1 ++ (l2 ++ l3)).length≤c∧c≤9223372036854775807))∧Below w.heap.size w w':=by
 subst e1 e2 e3
 obtain⟨k0,k1,k2⟩:=Ah h
 have:=rZ A [(a1,c1,l1),(a2,c2,l2),(a3,c3,l3)] b 3 3 w hIn rfl (by omega)
  (fun p hp=>by
   simp only[List.mem_cons,List.not_mem_nil,or_false] at hp
   rcases hp with rfl | rfl | rfl<;>assumption)
  (fun i p hp=>by
   match i,hp with
   | 0,hp=>obtain rfl:=Option.some.inj hp;exact k0
   | 1,hp=>obtain rfl:=Option.some.inj hp;exact k1
   | 2,hp=>obtain rfl:=Option.some.inj hp;exact k2
   | i+3,hp=>simp at hp)
  (fun p hp=>by
   simp only[List.mem_cons,List.not_mem_nil,or_false] at hp
   rcases hp with rfl | rfl | rfl<;>assumption)
 have e:([(a1,c1,l1),(a2,c2,l2),(a3,c3,l3)]:List RowP).flatMap (·.2.2)=l1 ++ (l2 ++ l3):=by simp
 unfold sumL at this
 rw[e] at this
 exact this.mono fun e w' ⟨q,c,h1,h2,h3,h4⟩=>⟨q,c,h1,⟨h2,h3⟩,h4⟩
theorem yS (A:Nat→Prop)(b:Nat)(a1 a2:Option Addr)(n1 n2 c1 c2:Nat)(l1 l2:List JV)(w:World)(hIn:In A w)(h:w.heap[b]? = some (.cells #[.slice a1 n1 c1,.slice a2 n2 c2] 25 (0,0)))
  (e1:n1=l1.length)(e2:n2=l2.length)(m1:n1≤274877906944)(m2:n2≤274877906944)(r1:RdA (hideW A w) a1 l1)(r2:RdA (hideW A w) a2 l2) :
  Calls Tryz.prog 104 #[.slice (some ⟨b,0,none⟩) 2 2] w fun e w'=>∃(q:Option Addr) (c:Nat),e=.returned (.slice q (l1 ++ l2).length c)∧(RdA (hideW A w') q (l1 ++ l2)∧((l1 ++ l2).length≤c∧c≤9223372036854775807))∧Below w.heap.size w w':=by
 subst e1 e2
 obtain⟨k0,k1⟩:=Ai h
 have:=rZ A [(a1,c1,l1),(a2,c2,l2)] b 2 2 w hIn rfl (by omega)
  (fun p hp=>by
   simp only[List.mem_cons,List.not_mem_nil,or_false] at hp
   rcases hp with rfl | rfl<;>assumption)
  (fun i p hp=>by
   match i,hp with
   | 0,hp=>obtain rfl:=Option.some.inj hp;exact k0
   | 1,hp=>obtain rfl:=Option.some.inj hp;exact k1
   | i+2,hp=>simp at hp)
  (fun p hp=>by
   simp only[List.mem_cons,List.not_mem_nil,or_false] at hp
   rcases hp with rfl | rfl<;>assumption)
 have e:([(a1,c1,l1),(a2,c2,l2)]:List RowP).flatMap (·.2.2)=l1 ++ l2:=by simp
 unfold sumL at this
 rw[e] at this
 exact this.mono fun e w' ⟨q,c,h1,h2,h3,h4⟩=>⟨q,c,h1,⟨h2,h3⟩,h4⟩
theorem zH (A:Nat→Prop)(l:List JV)(s:StepJ)(z:JV)(la:Option Addr)(lc:Nat)(u:Value)(cz:List Value)(w:World)(hIn:In A w)(hl:RdA (hideW A w) la l)(hc:l.length≤lc∧lc≤9223372036854775807)(hll:l.length≤274877906944)(hzl:z.arr.length≤274877906944)(hs:StepV w u s)(rz:RdX A w cz z)(hT:Tabs w) :
  Calls Tryz.prog 90 #[.slice la l.length lc,u,.agg cz.toArray] w (OutA A w (putJ l s z).1 (putJ l s z).2):=by
 obtain⟨zva,zvc,zaa,zac,zoa,zoc,P⟩:=RdV.parts rz
 have rz0:=rz
 obtain⟨zk,zg,za,zl,zc,ze,zs,zaa,zan,zac,zoa,zon,zoc,hcz⟩:=RdV.sevenB rz
 cases s with
 | none =>
  subst hcz
  exact uQ zk zg za zl zc ze zs zaa zan zac zoa zon zoc la l.length lc u w _ (Or.inl hs) fun W hb=>jU hb
 | key t =>
  subst hcz
  exact uQ zk zg za zl zc ze zs zaa zan zac zoa zon zoc la l.length lc u w _ (Or.inr ⟨_,hs.1⟩) fun W hb=>jU hb
 | idx k =>
  subst hcz
  obtain⟨a,c,rfl,hu⟩:=hs
  obtain⟨E,e1,e2⟩:=hl.zes
  have hEl:E.length=l.length:=by rw[←e1,List.length_map]
  refine Ez zk zg za zl zc ze zs zaa zan zac zoa zon zoc la l.length lc k.g a k.ls.length c k.e (atJ k l.length).1 (atJ k l.length).2 w _ (E.flatMap ZE.cs) (jw fun i e he=>(e2 i e he).sub (aC A w)) (dY E) (by rw[aV,hEl]) hll (fun W hb=>mP k a c l.length W (hu.below hb) (by omega) (hT.below hb).2) ?_ ?_
  ·intro err h W hb
   have e:putJ l (.idx k) z=([],err):=by
    unfold putJ
    dsimp only
    rcases h with ⟨h1,rfl⟩ | ⟨h1,h2,rfl⟩ | ⟨h1,h2,rfl⟩
    ·rw[if_pos h1]
    ·rw[if_neg (by omega),if_pos h2]
    ·rw[if_neg (by omega),if_neg (by omega),if_pos h2]
   rw[e]
   exact jU hb
  ·intro he k' n g W0 hi hk6 hn hblk hb hg
   have e:putJ l (.idx k) z=((l ++ List.replicate (k'+1-l.length) JV.null).set k' z,0):=by
    unfold putJ
    dsimp only
    rw[if_neg (by omega),if_neg (by omega),if_neg (by omega),hi]
    rfl
   rw[e]
   have hz:∃zz:ZE (hideW A w),zz.cs=[.int .i64 zk,.bool zg,.slice za zl zc,.int .i64 ze,.string zs,.slice zaa zan zac,.slice zoa zon zoc]∧zz.v=z:=⟨⟨_,z,rz0⟩,rfl,rfl⟩
   obtain⟨zz,z1,z2⟩:=hz
   rw[Aj (hideW A w) n,zover E n (by omega)] at hblk
   have hcell:=wZ hblk (show k'<_ by rw[List.length_append,List.length_replicate];omega) zz
   rw[z1] at hcell
   have hbW:=aF g hg [.int .i64 zk,.bool zg,.slice za zl zc,.int .i64 ze,.string zs,.slice zaa zan zac,.slice zoa zon zoc] (k' * 7) W0 hb
   have hgA:¬ A g:=fun h=>by have:=hIn _ h;omega
   have hL:((E ++ List.replicate (n-E.length) (zeroZ (hideW A w))).set k' zz).map ZE.v=(l ++ List.replicate (k'+1-l.length) JV.null).set k' z:=by
    rw[List.map_set,List.map_append,e1,List.map_replicate,z2,show n-E.length=k'+1-l.length by omega]
    rfl
   have hr:=yT (w:=hideW A (W0.setCells g (k' * 7) [.int .i64 zk,.bool zg,.slice za zl zc,.int .i64 ze,.string zs,.slice zaa zan zac,.slice zoa zon zoc])) (g:=g) (off:=0) (E:=(E ++ List.replicate (n-E.length) (zeroZ (hideW A w))).set k' zz) (az (A:=A) (A':=A) (fun _ _ h=>h) hbW) (fun j u hj=>aI.2 ⟨hgA,hcell j u hj⟩)
   rw[hL] at hr
   have hlen:((l ++ List.replicate (k'+1-l.length) JV.null).set k' z).length=n:=by
    rw[List.length_set,List.length_append,List.length_replicate];omega
   refine⟨some ⟨g,0,none⟩,n,?_,hr,?_,hbW⟩
   ·rw[hlen];rfl
   ·rw[hlen];omega
 | slc a b =>
  obtain⟨ca,cb,rfl,ra,rb⟩:=hs
  have CB:=fun W (hb:Below w.heap.size w W)=>gu a b ca cb l.length W (ra.stay hb) (rb.stay hb) (by omega) (hT.below hb).2
  obtain⟨xk,xg,xa,xl,xc,xe,xs,xaa,xan,xac,xoa,xon,xoc,rfl⟩:=ra.sevenB
  obtain⟨yk,yg,ya,yl,yc,ye,ys,yaa,yan,yac,yoa,yon,yoc,rfl⟩:=rb.sevenB
  have hB:=dW a b l.length
  have hcz2:=P.cells
  subst hcz2
  clear hcz zk zg za zl zc ze zs zaa zan zac zoa zon zoc
  have L1:(l.take (boundsJ a b l.length).1).length=(boundsJ a b l.length).1:=by rw[List.length_take];omega
  have L3:(l.drop (boundsJ a b l.length).2.1).length=l.length-(boundsJ a b l.length).2.1:=by rw[List.length_drop]
  refine EC z.kind z.g zva z.ls.length zvc z.e ⟨z.s.toArray⟩ zaa z.arr.length zac zoa z.obj.length zoc xk xg xa xl xc xe xs xaa xan xac xoa xon xoc yk yg ya yl yc ye ys yaa yan yac yoa yon yoc la l.length lc (boundsJ a b l.length).1 (boundsJ a b l.length).2.1 (boundsJ a b l.length).2.2
   (l.take (boundsJ a b l.length).1 ++ (z.arr ++ l.drop (boundsJ a b l.length).2.1)).length w _
   (fun W q c=>RdA (hideW A W) q (l.take (boundsJ a b l.length).1 ++ (z.arr ++ l.drop (boundsJ a b l.length).2.1))∧((l.take (boundsJ a b l.length).1 ++ (z.arr ++ l.drop (boundsJ a b l.length).2.1)).length≤c∧c≤9223372036854775807)) hc hB.1 hB.2 CB ?_ ?_ ?_
  ·intro _ _ W b' hb hblk
   have hs:=az (A:=A) (A':=A) (fun _ _ h=>h) hb
   exact ED A b' la zaa _ _ _ _ lc zac (lc-(boundsJ a b l.length).2.1) _ _ _ W (hIn.next hb) hblk L1.symm rfl L3.symm (by omega) hzl (by omega) ((hl.take _).sub hs) (P.arr.sub hs) ((yR hl hc.1).sub hs)
  ·intro err h W hb
   have e:putJ l (.slc a b) z=([],err):=by
    unfold putJ
    dsimp only
    rcases h with ⟨h1,rfl⟩ | ⟨h1,h2,rfl⟩
    ·rw[if_pos h1]
    ·rw[if_neg (by omega),if_pos h2]
   rw[e]
   exact jU hb
  ·intro hk he W q c' hr hb
   have e:putJ l (.slc a b) z=(l.take (boundsJ a b l.length).1 ++ (z.arr ++ l.drop (boundsJ a b l.length).2.1),0):=by
    unfold putJ
    dsimp only
    rw[if_neg (by omega),if_neg (by omega)]
   rw[e]
   exact⟨q,c',rfl,hr.1,hr.2,hb⟩
theorem fZ {W W':World}(h:Below W.heap.size W W'):(∀b o,b<W.heap.size→W'.cell? ⟨b,o,none⟩=W.cell? ⟨b,o,none⟩)∧(∀b o,b<W.heap.size→W'.frozen? ⟨b,o,none⟩=W.frozen? ⟨b,o,none⟩)∧Below W.heap.size W W':=⟨(bcell h).1,(bcell h).2,h⟩
theorem bH (W:World):(∀b o,b<W.heap.size→W.drew.cell? ⟨b,o,none⟩=W.cell? ⟨b,o,none⟩)∧(∀b o,b<W.heap.size→W.drew.frozen? ⟨b,o,none⟩=W.frozen? ⟨b,o,none⟩)∧Below W.heap.size W W.drew:=fZ (Below.refl _ _).drew
theorem bI {W W' w1:World}(h:(∀b o,b<W.heap.size→W'.cell? ⟨b,o,none⟩=W.cell? ⟨b,o,none⟩)∧(∀b o,b<W.heap.size→W'.frozen? ⟨b,o,none⟩=W.frozen? ⟨b,o,none⟩)∧Below W.heap.size W W')(hb:Below W'.heap.size W' w1):(∀b o,b<W.heap.size→w1.cell? ⟨b,o,none⟩=W.cell? ⟨b,o,none⟩)∧(∀b o,b<W.heap.size→w1.frozen? ⟨b,o,none⟩=W.frozen? ⟨b,o,none⟩)∧Below W.heap.size W w1:=fZ (ae h.2.2 hb)
theorem bg {W W':World}(h:(∀b o,b<W.heap.size→W'.cell? ⟨b,o,none⟩=W.cell? ⟨b,o,none⟩)∧(∀b o,b<W.heap.size→W'.frozen? ⟨b,o,none⟩=W.frozen? ⟨b,o,none⟩)∧Below W.heap.size W W')(o:Obj):(∀b k,b<W.heap.size→(W'.alloc o).cell? ⟨b,k,none⟩=W.cell? ⟨b,k,none⟩)∧(∀b k,b<W.heap.size→(W'.alloc o).frozen? ⟨b,k,none⟩=W.frozen? ⟨b,k,none⟩)∧Below W.heap.size W (W'.alloc o):=fZ (h.2.2.alloc h.2.2.size o)
theorem au {W W':World}{z0 z1 z2 z3 z4 z5 z6:Value}{M:Nat}(h:(∀b o,b<W.heap.size→W'.cell? ⟨b,o,none⟩=W.cell? ⟨b,o,none⟩)∧(∀b o,b<W.heap.size→W'.frozen? ⟨b,o,none⟩=W.frozen? ⟨b,o,none⟩)∧Below W.heap.size W W')(hM:W.heap.size≤M) :
  (∀b o,b<W.heap.size→(((((((W'.setCell ⟨M,0,none⟩ z0).setCell ⟨M,1,none⟩ z1).setCell ⟨M,2,none⟩ z2).setCell ⟨M,3,none⟩ z3).setCell ⟨M,4,none⟩ z4).setCell ⟨M,5,none⟩ z5).setCell ⟨M,6,none⟩ z6).cell? ⟨b,o,none⟩=W.cell? ⟨b,o,none⟩)∧(∀b o,b<W.heap.size→(((((((W'.setCell ⟨M,0,none⟩ z0).setCell ⟨M,1,none⟩ z1).setCell ⟨M,2,none⟩ z2).setCell ⟨M,3,none⟩ z3).setCell ⟨M,4,none⟩ z4).setCell ⟨M,5,none⟩ z5).setCell ⟨M,6,none⟩ z6).frozen? ⟨b,o,none⟩=W.frozen? ⟨b,o,none⟩)∧Below W.heap.size W (((((((W'.setCell ⟨M,0,none⟩ z0).setCell ⟨M,1,none⟩ z1).setCell ⟨M,2,none⟩ z2).setCell ⟨M,3,none⟩ z3).setCell ⟨M,4,none⟩ z4).setCell ⟨M,5,none⟩ z5).setCell ⟨M,6,none⟩ z6) :=
 fZ (aF M hM [z0,z1,z2,z3,z4,z5,z6] 0 W' h.2.2)
theorem bn {W:World}(o:Obj):(∀b k,b<W.heap.size→(W.alloc o).drew.cell? ⟨b,k,none⟩=W.cell? ⟨b,k,none⟩)∧(∀b k,b<W.heap.size→(W.alloc o).drew.frozen? ⟨b,k,none⟩=W.frozen? ⟨b,k,none⟩)∧Below W.heap.size W (W.alloc o).drew :=
 fZ ((Below.refl W.heap.size W).alloc (Nat.le_refl _) o).drew
theorem aX (W:World)(o:Obj):(W.alloc o).drew.heap[W.heap.size]? = some o:=aj W o
theorem bJ {W w3:World}(hb:Below W.drew.heap.size W.drew w3)(o:Obj):(∀b k,b<W.heap.size→(w3.alloc o).cell? ⟨b,k,none⟩=W.cell? ⟨b,k,none⟩)∧(∀b k,b<W.heap.size→(w3.alloc o).frozen? ⟨b,k,none⟩=W.frozen? ⟨b,k,none⟩)∧Below W.heap.size W (w3.alloc o) :=
 fZ ((ae ((Below.refl W.heap.size W).drew) hb).alloc (ae ((Below.refl W.heap.size W).drew) hb).size o)
theorem bu {W w3:World}(hb:Below W.heap.size W w3)(o:Obj):(∀b k,b<W.heap.size→(w3.alloc o).cell? ⟨b,k,none⟩=W.cell? ⟨b,k,none⟩)∧(∀b k,b<W.heap.size→(w3.alloc o).frozen? ⟨b,k,none⟩=W.frozen? ⟨b,k,none⟩)∧Below W.heap.size W (w3.alloc o) :=
 fZ (hb.alloc hb.size o)
theorem dC {W W':World}(h:(∀b o,b<W.heap.size→W'.cell? ⟨b,o,none⟩=W.cell? ⟨b,o,none⟩)∧(∀b o,b<W.heap.size→W'.frozen? ⟨b,o,none⟩=W.frozen? ⟨b,o,none⟩)∧Below W.heap.size W W'):W.heap.size≤W'.heap.size:=h.2.2.size
theorem dP (W:World)(R:Nat):(∀b o,b<W.heap.size→b≠R→W.drew.cell? ⟨b,o,none⟩=W.cell? ⟨b,o,none⟩)∧W.heap.size≤W.drew.heap.size:=⟨fun _ _ _ _=>rfl,Nat.le_refl _⟩
theorem dA {W W' w1:World}{R:Nat}(hb:Below W'.heap.size W' w1)(h:(∀b o,b<W.heap.size→b≠R→W'.cell? ⟨b,o,none⟩=W.cell? ⟨b,o,none⟩)∧W.heap.size≤W'.heap.size):(∀b o,b<W.heap.size→b≠R→w1.cell? ⟨b,o,none⟩=W.cell? ⟨b,o,none⟩)∧W.heap.size≤w1.heap.size :=
 ⟨fun b o h1 h2=>((bcell hb).1 b o (Nat.lt_of_lt_of_le h1 h.2)).trans (h.1 b o h1 h2),Nat.le_trans h.2 hb.size⟩
theorem dw {W W':World}{R:Nat}(x:Obj)(h:(∀b o,b<W.heap.size→b≠R→W'.cell? ⟨b,o,none⟩=W.cell? ⟨b,o,none⟩)∧W.heap.size≤W'.heap.size):(∀b o,b<W.heap.size→b≠R→(W'.alloc x).cell? ⟨b,o,none⟩=W.cell? ⟨b,o,none⟩)∧W.heap.size≤(W'.alloc x).heap.size :=
 dA (Below.alloc (Below.refl W'.heap.size W') (Nat.le_refl _) x) h
theorem dm (W:World)(R:Nat)(x:Obj):(∀b o,b<W.heap.size→b≠R→(W.alloc x).drew.cell? ⟨b,o,none⟩=W.cell? ⟨b,o,none⟩)∧W.heap.size≤(W.alloc x).drew.heap.size :=
 dA ((Below.alloc (Below.refl W.heap.size W) (Nat.le_refl _) x).drew) ⟨fun _ _ _ _=>rfl,Nat.le_refl _⟩
theorem dQ {W W':World}{R:Nat}{z0 z1 z2 z3 z4 z5 z6:Value}(h:(∀b o,b<W.heap.size→b≠R→W'.cell? ⟨b,o,none⟩=W.cell? ⟨b,o,none⟩)∧W.heap.size≤W'.heap.size):(∀b o,b<W.heap.size→b≠R→(((((((W'.setCell ⟨R,0,none⟩ z0).setCell ⟨R,1,none⟩ z1).setCell ⟨R,2,none⟩ z2).setCell ⟨R,3,none⟩ z3).setCell ⟨R,4,none⟩ z4).setCell ⟨R,5,none⟩ z5).setCell ⟨R,6,none⟩ z6).cell? ⟨b,o,none⟩=W.cell? ⟨b,o,none⟩)∧W.heap.size≤(((((((W'.setCell ⟨R,0,none⟩ z0).setCell ⟨R,1,none⟩ z1).setCell ⟨R,2,none⟩ z2).setCell ⟨R,3,none⟩ z3).setCell ⟨R,4,none⟩ z4).setCell ⟨R,5,none⟩ z5).setCell ⟨R,6,none⟩ z6).heap.size :=
 ⟨fun b o h1 h2=>(bT [z0,z1,z2,z3,z4,z5,z6] 0 W' ⟨b,o,none⟩ h2).trans (h.1 b o h1 h2),by have:=bU R [z0,z1,z2,z3,z4,z5,z6] 0 W';exact Nat.le_trans h.2 (Nat.le_of_eq this.symm)⟩
def Boxed (A:Nat→Prop) (W W5:World) (v:Value) (t:JV):Prop:=∃N,∃fk fg fa fl fc fe fs faa fan fac foa fon foc,v=.pointer (some ⟨N,0,none⟩)∧Hid (W5.heap[N]? = some (.cells #[.int .i64 fk,.bool fg,.slice fa fl fc,.int .i64 fe,.string fs,.slice faa fan fac,.slice foa fon foc] 28 (0,0)))∧Hid (RdX A W5 [.int .i64 fk,.bool fg,.slice fa fl fc,.int .i64 fe,.string fs,.slice faa fan fac,.slice foa fon foc] t)∧Hid (Below W.heap.size W W5)∧Hid (W.heap.size≤N)
def AndBox (A:Nat→Prop) (W W':World):Nat→Prop:=fun k=>A k∨(k=W.heap.size∧W.heap.size<W'.heap.size)
theorem iE {A:Nat→Prop}{W W':World}(h:In A W)(hb:Below W.heap.size W W'):In (AndBox A W W') W':=fun k hk=>hk.elim (fun h1=>h.next hb k h1) fun h1=>by rw[h1.1];exact h1.2
theorem mO {A:Nat→Prop}{W W':World}{cs:List Value}{t:JV}(h:RdX A W cs t)(hb:Below W.heap.size W W'):RdX (AndBox A W W') W' cs t:=RdV.sub h (az (fun k hk h=>h.elim id fun e=>by omega) hb)
theorem cu {A:Nat→Prop}{W w4:World}{fk:Int}{fg:Bool}{fa:Option Addr}{fl fc:Nat}{fe:Int}{fs:ByteArray}{faa:Option Addr}{fan fac:Nat}{foa:Option Addr}{fon foc:Nat}{t:JV}{a:Array Value}(hr:RdX (AndBox A W (W.alloc (.cells a 28)).drew) w4 [.int .i64 fk,.bool fg,.slice fa fl fc,.int .i64 fe,.string fs,.slice faa fan fac,.slice foa fon foc] t)(ha:a.size=7)(hb:Below (W.alloc (.cells a 28)).drew.heap.size (W.alloc (.cells a 28)).drew w4) :
  Boxed A W (((((((w4.setCell ⟨W.heap.size,0,none⟩ (.int .i64 fk)).setCell ⟨W.heap.size,1,none⟩ (.bool fg)).setCell ⟨W.heap.size,2,none⟩ (.slice fa fl fc)).setCell ⟨W.heap.size,3,none⟩ (.int .i64 fe)).setCell ⟨W.heap.size,4,none⟩ (.string fs)).setCell ⟨W.heap.size,5,none⟩ (.slice faa fan fac)).setCell ⟨W.heap.size,6,none⟩ (.slice foa fon foc)) (.pointer (some ⟨W.heap.size,0,none⟩)) t:=by
 have h0:=af (aX W (.cells a 28)) hb
 have hs:(W.alloc (.cells a 28)).drew.heap.size=W.heap.size+1:=by simp
 have hbb:=ae (((Below.refl W.heap.size W).alloc (Nat.le_refl _) (.cells a 28)).drew) hb
 obtain⟨l,rfl⟩:∃l:List Value,a=l.toArray:=⟨a.toList,by simp⟩
 obtain⟨a0,a1,a2,a3,a4,a5,a6,rfl⟩:=jG (show l.length=7 by simpa using ha)
 refine⟨_,fk,fg,fa,fl,fc,fe,fs,faa,fan,fac,foa,fon,foc,rfl,hid ?_,hid ?_,hid (aF W.heap.size (Nat.le_refl _) [.int .i64 fk,.bool fg,.slice fa fl fc,.int .i64 fe,.string fs,.slice faa fan fac,.slice foa fon foc] 0 w4 hbb),hid (Nat.le_refl _)⟩
 ·exact gV (d0:=.int .i64 fk) (d1:=.bool fg) (d2:=.slice fa fl fc) (d3:=.int .i64 fe) (d4:=.string fs) (d5:=.slice faa fan fac) (d6:=.slice foa fon foc) h0
 ·refine RdX.less (RdX.keep (r:=W.heap.size) (o:=0) (zs:=[.int .i64 fk,.bool fg,.slice fa fl fc,.int .i64 fe,.string fs,.slice faa fan fac,.slice foa fon foc]) hr (Or.inr ⟨rfl,by rw[hs];omega⟩)) fun k hk=>Or.inl hk
theorem dB {A:Nat→Prop}{W w4:World}{fk:Int}{fg:Bool}{fa:Option Addr}{fl fc:Nat}{fe:Int}{fs:ByteArray}{faa:Option Addr}{fan fac:Nat}{foa:Option Addr}{fon foc:Nat}{t:JV}(hr:RdX (AndBox A W W.drew) w4 [.int .i64 fk,.bool fg,.slice fa fl fc,.int .i64 fe,.string fs,.slice faa fan fac,.slice foa fon foc] t)(hb:Below W.drew.heap.size W.drew w4) :
  Boxed A W (w4.alloc (.cells #[.int .i64 fk,.bool fg,.slice fa fl fc,.int .i64 fe,.string fs,.slice faa fan fac,.slice foa fon foc] 28)) (.pointer (some ⟨w4.heap.size,0,none⟩)) t:=by
 have hb2:Below W.heap.size W w4:=ae ((Below.refl W.heap.size W).drew) hb
 have hbA:=(Below.refl w4.heap.size w4).alloc (Nat.le_refl _) (.cells #[.int .i64 fk,.bool fg,.slice fa fl fc,.int .i64 fe,.string fs,.slice faa fan fac,.slice foa fon foc] 28)
 exact⟨_,fk,fg,fa,fl,fc,fe,fs,faa,fan,fac,foa,fon,foc,rfl,hid (aj w4 _),hid (RdX.less (RdX.stay hr hbA) fun k hk=>Or.inl hk),hid (ae hb2 hbA),hid hb2.size⟩
theorem Ee (A:Nat→Prop)(xk:Int)(xg:Bool)(xa:Option Addr)(xl xc:Nat)(xe:Int)(xs:ByteArray)(xaa:Option Addr)(xan xac:Nat)(xoa:Option Addr)(xon xoc:Nat)(yk:Int)(yg:Bool)(ya:Option Addr)(yl yc:Nat)(ye:Int)(ys:ByteArray)(yaa:Option Addr)(yan yac:Nat)(yoa:Option Addr)(yon yoc:Nat)(zk:Int)(zg:Bool)(za:Option Addr)(zl zc:Nat)(ze:Int)(zs:ByteArray)(zaa:Option Addr)(zan zac:Nat)(zoa:Option Addr)(zon zoc:Nat)(t:List UInt8)(r:JV)(er:Nat)(w:World)(hIn:In A w)
  (CR:∀W,Below w.heap.size w W→Calls Tryz.prog 47 #[.agg #[.int .i64 yk,.bool yg,.slice ya yl yc,.int .i64 ye,.string ys,.slice yaa yan yac,.slice yoa yon yoc]] W fun e w'=>∃u,e=.returned u∧StepV w' u (.key t)∧Below W.heap.size W w')
  (CW:∀W,t.length≤9223372036854775807→Below w.heap.size w W→In (And1 A (w.heap.size+1+1+1)) W→Calls Tryz.prog 89 #[.agg #[.int .i64 xk,.bool xg,.slice xa xl xc,.int .i64 xe,.string xs,.slice xaa xan xac,.slice xoa xon xoc],.string ⟨t.toArray⟩,.agg #[.int .i64 zk,.bool zg,.slice za zl zc,.int .i64 ze,.string zs,.slice zaa zan zac,.slice zoa zon zoc]] W (OutX (And1 A (w.heap.size+1+1+1)) W r er)) :
  Calls Tryz.prog 59 #[.agg #[.int .i64 xk,.bool xg,.slice xa xl xc,.int .i64 xe,.string xs,.slice xaa xan xac,.slice xoa xon xoc],.agg #[.int .i64 yk,.bool yg,.slice ya yl yc,.int .i64 ye,.string ys,.slice yaa yan yac,.slice yoa yon yoc],.agg #[.int .i64 zk,.bool zg,.slice za zl zc,.int .i64 ze,.string zs,.slice zaa zan zac,.slice zoa zon zoc]] w (OutX A w r er):=by
 obtain⟨W,hW⟩:∃W,W=(((w.alloc (.cells #[.int .i64 xk,.bool xg,.slice xa xl xc,.int .i64 xe,.string xs,.slice xaa xan xac,.slice xoa xon xoc] 28)).alloc (.cells #[.int .i64 yk,.bool yg,.slice ya yl yc,.int .i64 ye,.string ys,.slice yaa yan yac,.slice yoa yon yoc] 28)).alloc (.cells #[.int .i64 zk,.bool zg,.slice za zl zc,.int .i64 ze,.string zs,.slice zaa zan zac,.slice zoa zon zoc] 28)).alloc (.cells #[.int .i64 0,.bool false,.slice none 0 0,.int .i64 0,.string ⟨#[]⟩,.slice none 0 0,.slice none 0 0] 28):=⟨_,rfl⟩
 obtain⟨b0,b1,b2,b3,b4⟩:=BV w #[.int .i64 xk,.bool xg,.slice xa xl xc,.int .i64 xe,.string xs,.slice xaa xan xac,.slice xoa xon xoc] #[.int .i64 yk,.bool yg,.slice ya yl yc,.int .i64 ye,.string ys,.slice yaa yan yac,.slice yoa yon yoc] #[.int .i64 zk,.bool zg,.slice za zl zc,.int .i64 ze,.string zs,.slice zaa zan zac,.slice zoa zon zoc] #[.int .i64 0,.bool false,.slice none 0 0,.int .i64 0,.string ⟨#[]⟩,.slice none 0 0,.slice none 0 0] 28 28 28 28
 rw[←hW] at b0 b1 b2 b3 b4
 have HI:=hid (hIn.new b0 (aA b4))
 have HB:=hid b0
 have HX:=hid b1
 have HY:=hid b2
 have HV:=hid b3
 have HZ:=hid b4
 replace hW:=hid hW.symm
 clear b0 b1 b2 b3 b4 hIn
 replace CR:=hid CR
 replace CW:=hid CW
 have hwN:Hid (w.heap.size≤w.heap.size+1+1+1):=by show w.heap.size≤_;omega
 obtain⟨Q,hQ⟩:∃Q,Q=OutX A w r er:=⟨_,rfl⟩
 have hput:=hid (show ∀W' z0 z1 z2 z3 z4 z5 z6,RdX (And1 A (w.heap.size+1+1+1)) W' [z0,z1,z2,z3,z4,z5,z6] r→Below w.heap.size w W'→Q (.returned (.tuple #[.agg #[z0,z1,z2,z3,z4,z5,z6],.int .i64 er])) (W'.setCells (w.heap.size+1+1+1) 0 [z0,z1,z2,z3,z4,z5,z6]) from fun W' z0 z1 z2 z3 z4 z5 z6 h1 h2=>by rw[hQ];exact aZ h1 h2 hwN.out)
 rw[←hQ]
 clear hQ
 obtain⟨⟨y0,y1,y2,y3,y4,y5,y6⟩,_⟩:=ag HY.out
 go_enter Tryz.func59,Tryz.ntmps59
 go_upto_region 1 with fail
 rw[hW.out]
 go_wp2_with fail
 refine (CR.out _ HB.out).mono ?_
 rintro en w1 ⟨u,rfl,⟨rfl,hl⟩,hb⟩
 have q1:=hid (ae HB.out hb)
 have z1:=hid (af HZ.out hb)
 have x1:=hid (af HX.out hb)
 have v1:=hid (af HV.out hb)
 have i1:=hid (HI.out.next hb)
 replace hl:=hid hl
 clear hb HB HX HY HZ HV HI hW y0 y1 y2 y3 y4 y5 y6 CR
 obtain⟨⟨p0,p1,p2,p3,p4,p5,p6⟩,_⟩:=ag x1.out
 obtain⟨⟨y0,y1,y2,y3,y4,y5,y6⟩,_⟩:=ag v1.out
 have hlt:=ax p0
 have hlt2:=ax y0
 unfold strV
 obtain⟨tb,htb⟩:∃tb:ByteArray,tb=⟨t.toArray⟩:=⟨_,rfl⟩
 rw[←htb] at CW ⊢
 clear htb
 have hbA:=(Below.refl w1.heap.size w1).alloc (Nat.le_refl _) (.cells #[.string tb] 73)
 have q2:=hid (ae q1.out hbA)
 have z2:=hid (af z1.out hbA)
 have i2:=hid (i1.out.next hbA)
 clear hbA
 go_wp2_with fail
 refine (CW.out _ hl.out q2.out i2.out).mono ?_
 rintro en w2 ⟨cs,rfl,hrd,hb⟩
 obtain⟨fk,fg,fa,fl,fc,fe,fs,faa,fan,fac,foa,fon,foc,rfl⟩:=RdV.sevenB hrd
 have q3:=hid (ae q2.out hb)
 obtain⟨⟨r0,r1,r2,r3,r4,r5,r6⟩,s0,s1,s2,s3,s4,s5,s6⟩:=ag (af z2.out hb)
 have hF:=hid (hput.out w2 _ _ _ _ _ _ _ hrd q3.out)
 clear hb hrd hput
 go_wp2_with fail
 refine bodyPost_ret (v:=.tuple #[.agg #[.int .i64 fk,.bool fg,.slice fa fl fc,.int .i64 fe,.string fs,.slice faa fan fac,.slice foa fon foc],.int .i64 er]) (by simp[results,Tryz.results59,go_sem,r0,r1,r2,r3,r4,r5,r6]) rfl ?_
 exact hF.out
theorem zG (A:Nat→Prop)(xk:Int)(xg:Bool)(xa:Option Addr)(xl xc:Nat)(xe:Int)(xs:ByteArray)(xaa:Option Addr)(xan xac:Nat)(xoa:Option Addr)(xon xoc:Nat)(yk:Int)(yg:Bool)(ya:Option Addr)(yl yc:Nat)(ye:Int)(ys:ByteArray)(yaa:Option Addr)(yan yac:Nat)(yoa:Option Addr)(yon yoc:Nat)(zk:Int)(zg:Bool)(za:Option Addr)(zl zc:Nat)(ze:Int)(zs:ByteArray)(zaa:Option Addr)(zan zac:Nat)(zoa:Option Addr)(zon zoc:Nat)(pl:List JV)(pe D:Nat)(w:World)(Q:Ending→World→Prop)(hIn:In A w)(hD:D≤201)
  (CR:∀W,Below w.heap.size w W→Calls Tryz.prog 47 #[.agg #[.int .i64 yk,.bool yg,.slice ya yl yc,.int .i64 ye,.string ys,.slice yaa yan yac,.slice yoa yon yoc]] W fun e w'=>∃u,e=.returned u∧(∀V,(Instr.typeAssert u 70 73 true).run Tryz.prog V=.ok (.tuple #[.agg #[.string ⟨#[]⟩],.bool false]) V)∧Below W.heap.size W w' ∧
   (∀W2,(xk=0∨xk=5)→Below w'.heap.size w' W2→In (And1 A (w.heap.size+1+1+1)) W2→Calls Tryz.prog 90 #[.slice xaa xan xac,u,.agg #[.int .i64 zk,.bool zg,.slice za zl zc,.int .i64 ze,.string zs,.slice zaa zan zac,.slice zoa zon zoc]] W2 (OutA (And1 A (w.heap.size+1+1+1)) W2 pl pe)))
  (CD:(xk=0∨xk=5)→pe=0→∀W cs,Below w.heap.size w W→RdV W cs (arrJ pl)→Calls Tryz.prog 91 #[.agg cs.toArray] W fun en w'=>en=.returned (.int .i64 D)∧Below W.heap.size W w')
  (hn:∀err:Nat,((xk≠0∧xk≠5∧err=9)∨((xk=0∨xk=5)∧pe≠0∧err=pe)∨((xk=0∨xk=5)∧pe=0∧200<D∧err=6))→∀W,Below w.heap.size w W→Q (.returned (.tuple #[.agg #[.int .i64 0,.bool false,.slice none 0 0,.int .i64 0,.string ⟨#[]⟩,.slice none 0 0,.slice none 0 0],.int .i64 err])) (W.setCells (w.heap.size+1+1+1) 0 [.int .i64 0,.bool false,.slice none 0 0,.int .i64 0,.string ⟨#[]⟩,.slice none 0 0,.slice none 0 0]))
  (hR:(xk=0∨xk=5)→pe=0→¬ 200<D→∀W q c,RdA (hideW (And1 A (w.heap.size+1+1+1)) W) q pl→(pl.length≤c∧c≤9223372036854775807)→Below w.heap.size w W→Q (.returned (.tuple #[.agg #[.int .i64 5,.bool false,.slice none 0 0,.int .i64 0,.string ⟨#[]⟩,.slice q pl.length c,.slice none 0 0],.int .i64 0])) (W.setCells (w.heap.size+1+1+1) 0 [.int .i64 5,.bool false,.slice none 0 0,.int .i64 0,.string ⟨#[]⟩,.slice q pl.length c,.slice none 0 0])) :
  Calls Tryz.prog 59 #[.agg #[.int .i64 xk,.bool xg,.slice xa xl xc,.int .i64 xe,.string xs,.slice xaa xan xac,.slice xoa xon xoc],.agg #[.int .i64 yk,.bool yg,.slice ya yl yc,.int .i64 ye,.string ys,.slice yaa yan yac,.slice yoa yon yoc],.agg #[.int .i64 zk,.bool zg,.slice za zl zc,.int .i64 ze,.string zs,.slice zaa zan zac,.slice zoa zon zoc]] w Q:=by
 obtain⟨W,hW⟩:∃W,W=(((w.alloc (.cells #[.int .i64 xk,.bool xg,.slice xa xl xc,.int .i64 xe,.string xs,.slice xaa xan xac,.slice xoa xon xoc] 28)).alloc (.cells #[.int .i64 yk,.bool yg,.slice ya yl yc,.int .i64 ye,.string ys,.slice yaa yan yac,.slice yoa yon yoc] 28)).alloc (.cells #[.int .i64 zk,.bool zg,.slice za zl zc,.int .i64 ze,.string zs,.slice zaa zan zac,.slice zoa zon zoc] 28)).alloc (.cells #[.int .i64 0,.bool false,.slice none 0 0,.int .i64 0,.string ⟨#[]⟩,.slice none 0 0,.slice none 0 0] 28):=⟨_,rfl⟩
 obtain⟨b0,b1,b2,b3,b4⟩:=BV w #[.int .i64 xk,.bool xg,.slice xa xl xc,.int .i64 xe,.string xs,.slice xaa xan xac,.slice xoa xon xoc] #[.int .i64 yk,.bool yg,.slice ya yl yc,.int .i64 ye,.string ys,.slice yaa yan yac,.slice yoa yon yoc] #[.int .i64 zk,.bool zg,.slice za zl zc,.int .i64 ze,.string zs,.slice zaa zan zac,.slice zoa zon zoc] #[.int .i64 0,.bool false,.slice none 0 0,.int .i64 0,.string ⟨#[]⟩,.slice none 0 0,.slice none 0 0] 28 28 28 28
 rw[←hW] at b0 b1 b2 b3 b4
 have HI:=hid (hIn.new b0 (aA b4))
 have HB:=hid b0
 have HX:=hid b1
 have HY:=hid b2
 have HV:=hid b3
 have HZ:=hid b4
 replace hW:=hid hW.symm
 clear b0 b1 b2 b3 b4 hIn
 replace CR:=hid CR
 replace CD:=hid CD
 replace hn:=hid hn
 replace hR:=hid hR
 obtain⟨⟨y0,y1,y2,y3,y4,y5,y6⟩,_⟩:=ag HY.out
 go_enter Tryz.func59,Tryz.ntmps59
 go_upto_region 1 with fail
 rw[hW.out]
 go_wp2_with fail
 refine (CR.out _ HB.out).mono ?_
 rintro en w1 ⟨u,rfl,hta,hb,CP⟩
 replace CP:=hid CP
 have q1:=hid (ae HB.out hb)
 have z1:=hid (af HZ.out hb)
 have x1:=hid (af HX.out hb)
 have v1:=hid (af HV.out hb)
 have i1:=hid (HI.out.next hb)
 clear hb HB HX HY HZ HV HI hW y0 y1 y2 y3 y4 y5 y6 CR
 have hbA:=(Below.refl w1.heap.size w1).alloc (Nat.le_refl _) (.cells #[.string ⟨#[]⟩] 73)
 have q2:=hid (ae q1.out hbA)
 have z2:=hid (af z1.out hbA)
 have x2:=hid (af x1.out hbA)
 have v2:=hid (af v1.out hbA)
 have i2:=hid (i1.out.next hbA)
 have b2:=hid hbA
 clear hbA
 obtain⟨⟨p0,p1,p2,p3,p4,p5,p6⟩,_⟩:=ag x2.out
 obtain⟨⟨y0,y1,y2,y3,y4,y5,y6⟩,_⟩:=ag v2.out
 go_upto_region 5 with fail
 by_cases hk:xk=0∨xk=5
 rotate_left
 ·have f0:(xk != 0)=true:=by rw[bne_iff_ne];omega
  have f5:(xk != 5)=true:=by rw[bne_iff_ne];omega
  have hq:=hid (hn.out 9 (Or.inl ⟨by omega,by omega,rfl⟩) _ q2.out)
  obtain⟨⟨r0,r1,r2,r3,r4,r5,r6⟩,s0,s1,s2,s3,s4,s5,s6⟩:=ag z2.out
  clear hn hR CP CD hk
  go_wp2_with fail
  refine bodyPost_ret (v:=.tuple #[.agg #[.int .i64 0,.bool false,.slice none 0 0,.int .i64 0,.string ⟨#[]⟩,.slice none 0 0,.slice none 0 0],.int .i64 9]) (by simp[results,Tryz.results59,go_sem,r0,r1,r2,r3,r4,r5,r6]) rfl ?_
  exact hq.out
 rcases hk with rfl | rfl
 all_goals
  have C:=hid (CP.out _ (by simp) b2.out i2.out)
  clear CP
  go_wp2_with fail
  refine C.out.mono ?_
  rintro en w3 ⟨q,c,rfl,hra,hc,hb⟩
  have q3:=hid (ae q2.out hb)
  have z3:=hid (af z2.out hb)
  have r3:=hid hra
  have c3:=hid hc
  clear hb hra hc z1 x1 v1 i1 q1 q2 z2 x2 v2 i2 b2 C p0 p1 p2 p3 p4 p5 p6 y0 y1 y2 y3 y4 y5 y6
  by_cases he:pe=0
  rotate_left
  ·have g:((pe:Int) != 0)=true:=by rw[bne_iff_ne];omega
   have hq:=hid (hn.out pe (Or.inr (Or.inl ⟨by simp,he,rfl⟩)) _ q3.out)
   obtain⟨⟨r0,r1,r2,r3,r4,r5,r6⟩,s0,s1,s2,s3,s4,s5,s6⟩:=ag z3.out
   clear hn hR CD he
   go_wp2_with fail
   refine bodyPost_ret (v:=.tuple #[.agg #[.int .i64 0,.bool false,.slice none 0 0,.int .i64 0,.string ⟨#[]⟩,.slice none 0 0,.slice none 0 0],.int .i64 pe]) (by simp[results,Tryz.results59,go_sem,r0,r1,r2,r3,r4,r5,r6]) rfl ?_
   exact hq.out
  have CD2:=hid (CD.out (by simp) he)
  have hn2:=hid (fun h=>hn.out 6 (Or.inr (Or.inr ⟨by simp,he,h,rfl⟩)))
  have hR2:=hid (hR.out (by simp) he)
  subst he
  clear CD hn hR
  go_wp2_with fail
  refine (bz q pl.length c w3).mono ?_
  rintro en w4 ⟨rfl,hb⟩
  have q4:=hid (ae q3.out hb)
  have z4:=hid (af z3.out hb)
  have r4:=hid (r3.out.sub (az (A':=And1 A (w.heap.size+1+1+1)) (fun _ _ h=>h) hb))
  have C4:=hid (CD2.out w4 _ q4.out (RdX.rd (lS r4.out c3.out)))
  clear hb q3 z3 r3 CD2
  go_wp2_with fail
  refine C4.out.mono ?_
  rintro en w5 ⟨rfl,hb⟩
  have q5:=hid (ae q4.out hb)
  have z5:=hid (af z4.out hb)
  have r5':=hid (r4.out.sub (az (A':=And1 A (w.heap.size+1+1+1)) (fun _ _ h=>h) hb))
  clear hb q4 z4 r4 C4
  by_cases hd:200<D
  ·have hd2:(D:Int) > 200:=by omega
   have hq:=hid (hn2.out hd _ q5.out)
   obtain⟨⟨r0,r1,r2,r3,r4,r5,r6⟩,s0,s1,s2,s3,s4,s5,s6⟩:=ag z5.out
   clear hn2 hR2 hd
   go_wp2_with fail
   refine bodyPost_ret (v:=.tuple #[.agg #[.int .i64 0,.bool false,.slice none 0 0,.int .i64 0,.string ⟨#[]⟩,.slice none 0 0,.slice none 0 0],.int .i64 6]) (by simp[results,Tryz.results59,go_sem,r0,r1,r2,r3,r4,r5,r6]) rfl ?_
   exact hq.out
  have hR3:=hid (hR2.out hd)
  have hd2:¬ (D:Int) > 200:=by omega
  clear hn2 hR2 hd
  go_wp2_with fail
  refine (bz q pl.length c w5).mono ?_
  rintro en w6 ⟨rfl,hb⟩
  have r6':=r5'.out.sub (az (A':=And1 A (w.heap.size+1+1+1)) (fun _ _ h=>h) hb)
  have hq:=hid (hR3.out w6 q c r6' c3.out (ae q5.out hb))
  obtain⟨⟨r0,r1,r2,r3,r4,r5,r6⟩,s0,s1,s2,s3,s4,s5,s6⟩:=ag (af z5.out hb)
  clear hb r6' hR3 r5' q5 z5
  go_wp2_with fail
  refine bodyPost_ret (v:=.tuple #[.agg #[.int .i64 5,.bool false,.slice none 0 0,.int .i64 0,.string ⟨#[]⟩,.slice q pl.length c,.slice none 0 0],.int .i64 0]) (by simp[results,Tryz.results59,go_sem,r0,r1,r2,r3,r4,r5,r6]) rfl ?_
  exact hq.out
theorem tK {w:World}{u:Value}{s:StepJ}(h:StepV w u s)(hk:∀t,s≠.key t)(V:World):(Instr.typeAssert u 70 73 true).run Tryz.prog V=.ok (.tuple #[.agg #[.string ⟨#[]⟩],.bool false]) V:=by
 cases s with
 | none =>
  obtain rfl:u=.nilIface:=h
  exact wC V
 | key t=>exact absurd rfl (hk t)
 | idx k =>
  obtain⟨a,c,rfl,_⟩:=h
  exact qK _ V
 | slc a b =>
  obtain⟨ca,cb,rfl,_⟩:=h
  exact qL _ V
theorem pG (A:Nat→Prop)(v k z:JV)(cs ck cz:List Value)(w:World)(hIn:In A w)(sv:SmallV v)(hzl:z.arr.length≤274877906944)(rv:RdX A w cs v)(rk:RdV w ck k)(rz:RdX A w cz z)(hT:Tabs w) :
  Calls Tryz.prog 59 #[.agg cs.toArray,.agg ck.toArray,.agg cz.toArray] w (OutX A w (layJ v k z).1 (layJ v k z).2):=by
 have CR:=fun W (hb:Below w.heap.size w W)=>ji k ck W (rk.stay hb)
 have rvW:=fun W (hb:Below w.heap.size w W)=>RdV.sub rv (az (A':=And1 A (w.heap.size+1+1+1)) (fun n hn h=>h.elim id fun e=>by omega) hb)
 have rzW:=fun W (hb:Below w.heap.size w W)=>RdV.sub rz (az (A':=And1 A (w.heap.size+1+1+1)) (fun n hn h=>h.elim id fun e=>by omega) hb)
 have hal:=sv.al
 by_cases hs:∃t,readS k=.key t
 ·obtain⟨t,ht⟩:=hs
  have e:layJ v k z=withR v t z:=by unfold layJ;rw[ht];rfl
  rw[e]
  have CW:=fun W (hl:t.length≤9223372036854775807) (hb:Below w.heap.size w W) (hi:In (And1 A (w.heap.size+1+1+1)) W)=>tN (And1 A (w.heap.size+1+1+1)) v z cs cz t W hl sv hi (rvW W hb) (rzW W hb) (hT.below hb)
  rw[ht] at CR
  obtain⟨xk,xg,xa,xl,xc,xe,xs,xaa,xan,xac,xoa,xon,xoc,rfl⟩:=RdV.sevenB rv
  obtain⟨yk,yg,ya,yl,yc,ye,ys,yaa,yan,yac,yoa,yon,yoc,rfl⟩:=rk.sevenB
  obtain⟨zk,zg,za,zl,zc,ze,zs,zaa,zan,zac,zoa,zon,zoc,rfl⟩:=RdV.sevenB rz
  exact Ee A xk xg xa xl xc xe xs xaa xan xac xoa xon xoc yk yg ya yl yc ye ys yaa yan yac yoa yon yoc zk zg za zl zc ze zs zaa zan zac zoa zon zoc t _ _ w hIn CR CW
 ·have hs2:∀t,readS k≠.key t:=fun t h=>hs ⟨t,h⟩
  have e:layJ v k z=(if v.kind≠0∧v.kind≠5 then (.null,9) else if (putJ v.arr (readS k) z).2≠0 then (.null,(putJ v.arr (readS k) z).2) else if 200<depthJ 200 (arrJ (putJ v.arr (readS k) z).1) then (.null,6) else (arrJ (putJ v.arr (readS k) z).1,0)):=by
   unfold layJ layS
   generalize readS k=s at hs2
   cases s with
   | key t=>exact absurd rfl (hs2 t)
   | _=>rfl
  rw[e]
  clear e
  obtain⟨va,vc,aa,ac,oa,oc,P⟩:=rv.parts
  have e:=P.cells
  subst e
  have hPA:=P.arr
  have hPc:=P.ac
  obtain⟨yk,yg,ya,yl,yc,ye,ys,yaa,yan,yac,yoa,yon,yoc,rfl⟩:=rk.sevenB
  obtain⟨zk,zg,za,zl,zc,ze,zs,zaa,zan,zac,zoa,zon,zoc,rfl⟩:=RdV.sevenB rz
  refine zG A v.kind v.g va v.ls.length vc v.e ⟨v.s.toArray⟩ aa v.arr.length ac oa v.obj.length oc yk yg ya yl yc ye ys yaa yan yac yoa yon yoc zk zg za zl zc ze zs zaa zan zac zoa zon zoc (putJ v.arr (readS k) z).1 (putJ v.arr (readS k) z).2 (depthJ 200 (arrJ (putJ v.arr (readS k) z).1)) w _ hIn (fU 200 _) ?_ ?_ ?_ ?_
  ·intro W hb
   refine (CR W hb).mono ?_
   rintro e w' ⟨u,h1,h2,h3⟩
   refine⟨u,h1,tK h2 hs2,h3,fun W2 _ hb2 hi=>?_⟩
   have hbb:=ae (ae hb h3) hb2
   exact zH (And1 A (w.heap.size+1+1+1)) v.arr (readS k) z aa ac u _ W2 hi (hPA.sub (az (A':=And1 A (w.heap.size+1+1+1)) (fun n hn h=>h.elim id fun e=>by omega) hbb)) hPc (by omega) hzl (h2.stay hb2) (rzW W2 hbb) (hT.below hbb)
  ·intro _ _ W cs' hb hr
   exact gX (arrJ _) cs' W hr
  ·intro err h W hb
   rcases h with ⟨h0,h5,rfl⟩ | ⟨hk,hp,rfl⟩ | ⟨hk,hp,hd,rfl⟩
   ·rw[if_pos ⟨h0,h5⟩]
    exact aO hb (by omega)
   ·rw[if_neg (by omega),if_pos hp]
    exact aO hb (by omega)
   ·rw[if_neg (by omega),if_neg (by omega),if_pos hd]
    exact aO hb (by omega)
  ·intro hk hp hd W q c hra hc hb
   rw[if_neg (by omega),if_neg (by omega),if_neg hd]
   exact aZ (lS hra hc) hb (by omega)
end Go.Proofs.YtcgbmmalfbpjaaaGreatDoor
