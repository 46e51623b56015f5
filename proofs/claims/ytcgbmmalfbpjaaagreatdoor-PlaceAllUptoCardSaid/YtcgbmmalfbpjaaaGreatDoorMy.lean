/-  -/
import Derived.Test.YtcgbmmalfbpjaaaGreatDoorMx
import Derived.Test.YtcgbmmalfbpjaaaGreatDoorMu
import Derived.Test.YtcgbmmalfbpjaaaGreatDoorMq
set_option maxRecDepth 100000
set_option maxHeartbeats 16000000
namespace Go.Proofs.YtcgbmmalfbpjaaaGreatDoor
open Go.RowKit Go.Sort
section
variable {w0:World}
theorem iD:∀E:List (VE w0),(E.flatMap VE.cs).length=E.length * 7
 | []=>rfl
 | f :: E=>by rw[List.flatMap_cons,List.length_append,iD E,f.rd.len,List.length_cons];omega
theorem vC:∀(E:List (VE w0)) (i c:Nat) (f:VE w0),E[i]? = some f→c<7→(E.flatMap VE.cs)[i * 7+c]? = f.cs[c]?
 | [],i,c,f,h,_=>by simp at h
 | g :: E,0,c,f,h,hc=>by
  simp at h
  subst h
  rw[List.flatMap_cons,Nat.zero_mul,Nat.zero_add,List.getElem?_append_left (by rw[g.rd.len];exact hc)]
 | g :: E,i+1,c,f,h,hc=>by
  rw[List.flatMap_cons,List.getElem?_append_right (by rw[g.rd.len];omega),g.rd.len,show (i+1) * 7+c-7=i * 7+c by omega]
  exact vC E i c f (by simpa using h) hc
theorem xO (E:List (VE w0)):∀u ∈ E.flatMap VE.cs,u.oneCell'=true:=by
 intro u hu
 obtain⟨f,_,hf⟩:=List.mem_flatMap.1 hu
 exact fM f.rd u hf
theorem vF {n:Nat}(j:Nat)(h:j<n * 7):∃i c,i<n∧c<7∧j=i * 7+c:=⟨j / 7,j % 7,by omega,by omega,by omega⟩
theorem vG {w:World}{b off:Nat}{E:List (VE w0)}(h:∀(i:Nat) (e:VE w0),E[i]? = some e→CellsAt w (some ⟨b,off,none⟩) (i * 7) e.cs)(j:Nat)(u:Value)(hj:(E.flatMap VE.cs)[j]? = some u):w.cell? ⟨b,off+j,none⟩=some u:=by
 have hlt:=(List.getElem?_eq_some_iff.1 hj).1
 rw[iD] at hlt
 obtain⟨i,cc,hi,hc,rfl⟩:=vF j hlt
 have hf:=List.getElem?_eq_getElem hi
 rw[vC E i cc _ hf hc] at hj
 obtain⟨b',off',e,hcs⟩:=h i _ hf
 simp only[Option.some.injEq,Addr.mk.injEq] at e
 have:=hcs cc u hj
 rw[←e.1,←e.2.1,Nat.add_assoc] at this
 exact this
theorem eG:∃i0,Tryz.prog.info? 28=some i0∧i0.size=7∧i0.bytes=112∧∃z,i0.zero=some z∧z.cells.size=7:=by
 have h:(Tryz.prog.info? 28).map (fun i=>(i.size,i.bytes,i.zero.map (·.cells.size)))=some (7,112,some 7):=by kernel_rfl
 obtain⟨i,h1,h2⟩:=Option.map_eq_some_iff.1 h
 simp only[Prod.mk.injEq] at h2
 obtain⟨z,h3,h4⟩:=Option.map_eq_some_iff.1 h2.2.2
 exact⟨i,h1,h2.1,h2.2.1,z,h3,h4⟩
theorem Bg {w:World}{a:Option Addr}:∀{l:List JV} {k:Nat},(∀(i:Nat) (x:JV),l[i]? = some x→∃cs,CellsAt w a ((k+i) * 7) cs∧RdV w cs x)→(∀x ∈ l,mayJ 200 x=true)→(∀x ∈ l,SmallV x) →
  ∃E:List (VE w),E.map VE.v=l∧∀(i:Nat) (e:VE w),E[i]? = some e→CellsAt w a ((k+i) * 7) e.cs
 | [],_,_,_,_=>⟨[],rfl,fun i f h=>by simp at h⟩
 | x :: l,k,h,hm,hs=>by
  obtain⟨cs,h1,h3⟩:=h 0 x rfl
  obtain⟨E,e1,e3⟩:=Bg (k:=k+1) (fun i y hy=>by
   have:=h (i+1) y (by simpa using hy)
   rw[show k+1+i=k+(i+1) by omega]
   exact this) (fun p hp=>hm p (List.mem_cons_of_mem _ hp)) (fun p hp=>hs p (List.mem_cons_of_mem _ hp))
  refine⟨⟨cs,x,h3,hm x (by simp),hs x (by simp)⟩ :: E,by rw[List.map_cons,e1],?_⟩
  intro i f hf
  cases i with
  | zero =>
   simp at hf
   rw[←hf]
   exact h1
  | succ i =>
   have:=e3 i f (by simpa using hf)
   rw[show k+1+i=k+(i+1) by omega] at this
   exact this
theorem uC {w:World}{l:List JV}(h:RdA w none l):l=[]:=by
 cases l with
 | nil=>rfl
 | cons x l =>
  obtain⟨cs,⟨b,off,e,_⟩,_⟩:=h 0 x rfl
  cases e
end
def sortR (l:List JV):List JV × Nat:=if (∀x ∈ l,mayJ 200 x=true) then (sortS (orderJ 201) l,0) else ([],1)
theorem zo {w0:World}(b off c:Nat)(E:List (VE w0))(w:World)(hE:∀(i:Nat) (e:VE w0),E[i]? = some e→CellsAt w (some ⟨b,off,none⟩) (i * 7) e.cs)(hn:E.length≤1048576) :
  Calls Tryz.prog 43 #[.slice (some ⟨b,off,none⟩) E.length c] w fun e w'=>∃g cap cur,e=.returned (.slice (some ⟨g,0,none⟩) E.length cap)∧w.heap.size≤g ∧
   w'.heap[g]? = some (.cells cur 28 (0,0))∧E.length≤cap∧cap≤maxLen∧cur.size=cap * 7∧cur.toList.take (E.length * 7)=E.flatMap VE.cs∧Below w.heap.size w w':=by
 obtain⟨i0,h1,h2,h3,z,h4,h5⟩:=eG
 refine (AnyE.slices_Clone Tryz.laysSlE041_f37 i0 z 7 112 h1 h4 h2 h3 h5 (by decide) Tryz.sizeOf28 b off E.length c (E.flatMap VE.cs) w (iD E) (by unfold maxLen;omega) (by omega) (vG hE) (xO E)).mono ?_
 rintro e w' ⟨v',rfl,⟨_,ho⟩,hne,hb⟩
 rcases ho with ⟨rfl,_⟩ | ⟨g,cap,cur,rfl,hg,hcur,hcap,hm,hsz,ht⟩
 ·exact absurd rfl hne
 ·exact⟨g,cap,cur,rfl,hg,hcur,hcap,hm,hsz,ht,hb⟩
theorem vT (p:Addr)(c:Nat)(w:World) :
  Calls Tryz.prog 43 #[.slice (some p) 0 c] w fun e w'=>∃(q:Option Addr) (c':Nat),e=.returned (.slice q 0 c')∧c'≤9223372036854775807∧Below w.heap.size w w':=by
 obtain⟨i0,i1,i2,i3,z,i4,i5⟩:=eG
 have h0:=World.ownsRow_made (base:=w.heap.size) (e:=28) (size:=7) w #[] 0 (Nat.le_refl _) (by unfold maxLen;omega) rfl
 have hq:=fun (W:World)=>Lib.run_eql_slice_nil (P:=Tryz.prog) W 25 28 (some p) 0 c 0 0 Tryz.underlying25
 have H0:=hid h0
 clear h0
 replace i1:=hid i1
 replace i2:=hid i2
 replace i3:=hid i3
 replace i4:=hid i4
 replace i5:=hid i5
 go_enter Tryz.func43,Tryz.ntmps43
 go_wp2_with (at_builtin;refine wpList_append_own _ rfl _ _ _ rfl w.heap.size _ i0 z 7 112 Tryz.underlying25 i1.out i4.out i2.out i3.out i5.out (by decide) _ 0 [] rfl H0.out p 0 c [] rfl rfl (fun j u h=>by simp at h) (fun u h=>by cases h) (by unfold maxLen;omega) (by omega) (by simp) ?_;intro v' w' hown hgr _)
 have hB:=hid (((Below.refl w.heap.size w).alloc (Nat.le_refl _) (.cells #[] 28)).grown hgr (by simp) (fun k hk=>by
  have hk:some w.heap.size=some k:=hk
  injection hk with hk
  omega))
 clear hgr
 obtain⟨_,ho⟩:=hown
 rcases ho with ⟨rfl,_⟩ | ⟨g,cap,cur,rfl,_,_,_,hm,_⟩
 ·go_ret
  exact⟨none,0,rfl,by omega,hB.out⟩
 ·have hm2:=hid (show cap≤9223372036854775807 by unfold maxLen at hm;exact hm)
  clear hm
  go_ret
  exact⟨some ⟨g,0,none⟩,cap,rfl,hm2.out,hB.out⟩
theorem pg {l:List JV}(h:∀x ∈ l,mayJ 200 x=true):sortR l=(sortS (orderJ 201) l,0):=if_pos h
theorem DR {l:List JV}(h:¬ ∀x ∈ l,mayJ 200 x=true):sortR l=([],1):=if_neg h
end Go.Proofs.YtcgbmmalfbpjaaaGreatDoor
