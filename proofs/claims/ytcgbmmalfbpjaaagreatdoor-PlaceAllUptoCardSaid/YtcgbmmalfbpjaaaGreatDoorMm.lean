/-  -/
import Derived.Test.YtcgbmmalfbpjaaaGreatDoorMl
import Derived.Test.YtcgbmmalfbpjaaaGreatDoorMj
import Derived.Test.YtcgbmmalfbpjaaaGreatDoorMk
import Derived.Test.YtcgbmmalfbpjaaaGreatDoorSlices
import Derived.Test.YtcgbmmalfbpjaaaGreatDoorMe
import Derived.Shelf.SlSortCmp.NoneTotal
import Derived.Deep.CutBlock
set_option maxRecDepth 100000
set_option maxHeartbeats 16000000
namespace Go.Proofs.YtcgbmmalfbpjaaaGreatDoor
open Go.RowKit
structure FE where
 key:List UInt8
 v:JV
 cs:List Value
 sound:soundB key=true
 short:key.length≤9223372036854775807
 seven:cs.length=7
 one:∀u ∈ cs,u.oneCell'=true
instance:Inhabited FE:=⟨⟨[],.null,valCs 0 false none 0 0 0 [] none 0 0 none 0 0,rfl,by decide,rfl,by
 intro u hu
 simp only[valCs,List.mem_cons,List.not_mem_nil,or_false] at hu
 rcases hu with rfl | rfl | rfl | rfl | rfl | rfl | rfl<;>rfl⟩⟩
def FE.enc (f:FE):List Value:=strV f.key :: f.cs
def FE.fld (f:FE):Fld:=(f.key,f.v)
theorem FE.len (f:FE):f.enc.length=8:=by simp[FE.enc,f.seven]
theorem FE.ones (f:FE):∀u ∈ f.enc,u.oneCell'=true:=by
 intro u hu
 rcases List.mem_cons.1 hu with rfl | h
 ·rfl
 ·exact f.one u h
theorem fM {w:World}{cs:List Value}{v:JV}(h:RdV w cs v):∀u ∈ cs,u.oneCell'=true:=by
 obtain⟨a,c,aa,ac,oa,oc,P⟩:=h.parts
 intro u hu
 rw[P.cells] at hu
 simp only[valCs,List.mem_cons,List.not_mem_nil,or_false] at hu
 rcases hu with rfl | rfl | rfl | rfl | rfl | rfl | rfl<;>rfl
theorem xH {w:World}{b off:Nat}:∀{obj:List Fld} {k:Nat},(∀(i:Nat) (x:Fld),obj[i]? = some x→∃cs,CellsAt w (some ⟨b,off,none⟩) ((k+i) * 8) (strV x.1 :: cs)∧x.1.length≤9223372036854775807∧RdV w cs x.2)→(∀p ∈ obj,soundB p.1=true) →
  ∃E:List FE,E.map FE.fld=obj∧(∀f ∈ E,RdV w f.cs f.v)∧∀(i:Nat) (f:FE),E[i]? = some f→CellsAt w (some ⟨b,off,none⟩) ((k+i) * 8) f.enc
 | [],_,_,_=>⟨[],rfl,(fun f hf=>by cases hf),(fun i f h=>by simp at h)⟩
 | x :: obj,k,h,hs=>by
  obtain⟨cs,h1,h2,h3⟩:=h 0 x rfl
  obtain⟨E,e1,e2,e3⟩:=xH (k:=k+1) (fun i y hy=>by
   have:=h (i+1) y (by simpa using hy)
   rw[show k+1+i=k+(i+1) by omega]
   exact this) (fun p hp=>hs p (List.mem_cons_of_mem _ hp))
  refine⟨⟨x.1,x.2,cs,hs x (by simp),h2,h3.len,fM h3⟩ :: E,by rw[List.map_cons,e1];rfl,?_,?_⟩
  ·intro f hf
   rcases List.mem_cons.1 hf with rfl | hf
   ·exact h3
   ·exact e2 f hf
  ·intro i f hf
   cases i with
   | zero =>
    simp at hf
    rw[←hf]
    exact h1
   | succ i =>
    have:=e3 i f (by simpa using hf)
    rw[show k+1+i=k+(i+1) by omega] at this
    exact this
theorem jV:∀E:List FE,(E.flatMap FE.enc).length=E.length * 8
 | []=>rfl
 | f :: E=>by rw[List.flatMap_cons,List.length_append,jV E,f.len,List.length_cons];omega
theorem rf:∀(E:List FE) (i c:Nat) (f:FE),E[i]? = some f→c<8→(E.flatMap FE.enc)[i * 8+c]? = f.enc[c]?
 | [],i,c,f,h,_=>by simp at h
 | g :: E,0,c,f,h,hc=>by
  simp at h
  subst h
  rw[List.flatMap_cons,Nat.zero_mul,Nat.zero_add,List.getElem?_append_left (by rw[g.len];exact hc)]
 | g :: E,i+1,c,f,h,hc=>by
  rw[List.flatMap_cons,List.getElem?_append_right (by rw[g.len];omega),g.len,show (i+1) * 8+c-8=i * 8+c by omega]
  exact rf E i c f (by simpa using h) hc
theorem xI {n:Nat}(j:Nat)(h:j<n * 8):∃i c,i<n∧c<8∧j=i * 8+c:=⟨j / 8,j % 8,by omega,by omega,by omega⟩
theorem iM:∃i0,Tryz.prog.info? 67=some i0∧i0.size=8∧i0.bytes=128∧∃z,i0.zero=some z∧z.cells.size=8:=by
 have h:(Tryz.prog.info? 67).map (fun i=>(i.size,i.bytes,i.zero.map (·.cells.size)))=some (8,128,some 8):=by kernel_rfl
 obtain⟨i,h1,h2⟩:=Option.map_eq_some_iff.1 h
 simp only[Prod.mk.injEq] at h2
 obtain⟨z,h3,h4⟩:=Option.map_eq_some_iff.1 h2.2.2
 exact⟨i,h1,h2.1,h2.2.1,z,h3,h4⟩
theorem qw (b off c:Nat)(E:List FE)(w:World)(hE:∀(i:Nat) (f:FE),E[i]? = some f→CellsAt w (some ⟨b,off,none⟩) (i * 8) f.enc)(hn:E.length≤1048576) :
  Calls Tryz.prog 132 #[.slice (some ⟨b,off,none⟩) E.length c] w fun e w'=>∃g cap cur,e=.returned (.slice (some ⟨g,0,none⟩) E.length cap)∧w.heap.size≤g ∧
   w'.heap[g]? = some (.cells cur 67 (0,0))∧E.length≤cap∧cap≤maxLen∧cur.size=cap * 8∧cur.toList.take (E.length * 8)=E.flatMap FE.enc∧Below w.heap.size w w':=by
 obtain⟨i0,h1,h2,h3,z,h4,h5⟩:=iM
 refine (AnyE.slices_Clone Tryz.laysSlE041_f31 i0 z 8 128 h1 h4 h2 h3 h5 (by decide) Tryz.sizeOf67 b off E.length c (E.flatMap FE.enc) w (jV E) (by unfold maxLen;omega) (by omega) ?_ ?_).mono ?_
 ·intro j u hj
  have hlt:=(List.getElem?_eq_some_iff.1 hj).1
  rw[jV] at hlt
  obtain⟨i,cc,hi,hc,rfl⟩:=xI j hlt
  have hf:=List.getElem?_eq_getElem hi
  rw[rf E i cc _ hf hc] at hj
  obtain⟨b',off',e,hcs⟩:=hE i _ hf
  simp only[Option.some.injEq,Addr.mk.injEq] at e
  have:=hcs cc u hj
  rw[←e.1,←e.2.1,Nat.add_assoc] at this
  exact this
 ·intro u hu
  obtain⟨f,_,hf⟩:=List.mem_flatMap.1 hu
  exact f.ones u hf
 ·rintro e w' ⟨v',rfl,⟨_,ho⟩,hne,hb⟩
  rcases ho with ⟨rfl,_⟩ | ⟨g,cap,cur,rfl,hg,hcur,hcap,hm,hsz,ht⟩
  ·exact absurd rfl hne
  ·exact⟨g,cap,cur,rfl,hg,hcur,hcap,hm,hsz,ht,hb⟩
end Go.Proofs.YtcgbmmalfbpjaaaGreatDoor

namespace Go.Proofs.YtcgbmmalfbpjaaaGreatDoor
open Go.RowKit
open Go.Sort (grow putRowK HoldsK flatK get_flatK)
end Go.Proofs.YtcgbmmalfbpjaaaGreatDoor

namespace Go.Proofs.YtcgbmmalfbpjaaaGreatDoor
open Go.RowKit
theorem DI {w:World}{obj:List Fld}(h:RdO w none obj):obj=[]:=by
 cases obj with
 | nil=>rfl
 | cons x obj =>
  obtain⟨cs,⟨b,off,e,_⟩,_⟩:=h 0 x rfl
  cases e
inductive SmallV:JV→Prop
 | mk (v:JV) (h1:v.arr.length≤1048576) (h2:v.obj.length≤1048576) (h3:v.s.length≤1048576) (h4:∀x ∈ v.arr,SmallV x) (h5:∀p ∈ v.obj,p.1.length≤1048576) (h6:∀p ∈ v.obj,SmallV p.2):SmallV v
theorem SmallV.obj {v:JV}(h:SmallV v):v.obj.length≤1048576:=by cases h;assumption
theorem SmallV.arr {v:JV}(h:SmallV v):∀x ∈ v.arr,SmallV x:=by cases h;assumption
theorem SmallV.flds {v:JV}(h:SmallV v):∀p ∈ v.obj,SmallV p.2:=by cases h;assumption
theorem jG {cs:List Value}(h:cs.length=7):∃x1 x2 x3 x4 x5 x6 x7,cs=[x1,x2,x3,x4,x5,x6,x7]:=by
 match cs,h with
 | [x1,x2,x3,x4,x5,x6,x7],_=>exact⟨x1,x2,x3,x4,x5,x6,x7,rfl⟩
theorem aW (w:World)(o o':Obj):Below w.heap.size w ((w.alloc o).alloc o'):=((Below.refl _ _).alloc (Nat.le_refl _) _).alloc (by simp) _
theorem RdV.seven {w:World}{cs:List Value}{v:JV}(h:RdV w cs v):∃kind g a ln c e s aa an ac oa on oc,cs=valCs kind g a ln c e s aa an ac oa on oc:=by
 obtain⟨a,c,aa,ac,oa,oc,P⟩:=h.parts
 exact⟨_,_,_,_,_,_,_,_,_,_,_,_,_,P.cells⟩
end Go.Proofs.YtcgbmmalfbpjaaaGreatDoor
