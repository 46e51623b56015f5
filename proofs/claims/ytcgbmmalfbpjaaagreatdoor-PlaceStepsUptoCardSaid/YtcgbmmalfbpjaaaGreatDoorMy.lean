/-  -/
import Derived.Test.YtcgbmmalfbpjaaaGreatDoorMx
import Derived.Test.YtcgbmmalfbpjaaaGreatDoorMu
import Derived.Test.YtcgbmmalfbpjaaaGreatDoorMq
namespace Go.Proofs.YtcgbmmalfbpjaaaGreatDoor
open Go.RowKit Go.Sort
section
variable {w0:World}
theorem qC3:∀E:List (VE w0),(E.flatMap VE.cs).length=E.length * 7
 | []=>rfl
 | f :: E=>by rw[List.flatMap_cons,List.length_append,qC3 E,f.rd.len,List.length_cons];omega
theorem qFR:∀(E:List (VE w0)) (i c:Nat) (f:VE w0),E[i]? = some f→c<7→(E.flatMap VE.cs)[i * 7+c]? = f.cs[c]?
 | [],i,c,f,h,_=>by simp at h
 | g :: E,0,c,f,h,hc=>by
  simp at h
  subst h
  rw[List.flatMap_cons,Nat.zero_mul,Nat.zero_add,List.getElem?_append_left (by rw[g.rd.len];exact hc)]
 | g :: E,i+1,c,f,h,hc=>by
  rw[List.flatMap_cons,List.getElem?_append_right (by rw[g.rd.len];omega),g.rd.len,show (i+1) * 7+c-7=i * 7+c by omega]
  exact qFR E i c f (by simpa using h) hc
theorem qJL (E:List (VE w0)):∀u ∈ E.flatMap VE.cs,u.oneCell'=true:=by
 intro u hu
 obtain⟨f,_,hf⟩:=List.mem_flatMap.1 hu
 exact qB8 f.rd u hf
theorem qEr {n:Nat}(j:Nat)(h:j<n * 7):∃i c,i<n∧c<7∧j=i * 7+c:=⟨j / 7,j % 7,by omega,by omega,by omega⟩
theorem qHL {w:World}{b off:Nat}{E:List (VE w0)}(h:∀(i:Nat) (e:VE w0),E[i]? = some e→CellsAt w (some ⟨b,off,none⟩) (i * 7) e.cs)(j:Nat)(u:Value)(hj:(E.flatMap VE.cs)[j]? = some u):w.cell? ⟨b,off+j,none⟩=some u:=by
 have hlt:=(List.getElem?_eq_some_iff.1 hj).1
 rw[qC3] at hlt
 obtain⟨i,cc,hi,hc,rfl⟩:=qEr j hlt
 have hf:=List.getElem?_eq_getElem hi
 rw[qFR E i cc _ hf hc] at hj
 obtain⟨b',off',e,hcs⟩:=h i _ hf
 simp only[Option.some.injEq,Addr.mk.injEq] at e
 have:=hcs cc u hj
 rw[←e.1,←e.2.1,Nat.add_assoc] at this
 exact this
theorem qEs:∃i0,Tryz.prog.info? 28=some i0∧i0.size=7∧i0.bytes=112∧∃z,i0.zero=some z∧z.cells.size=7:=by
 have h:(Tryz.prog.info? 28).map (fun i=>(i.size,i.bytes,i.zero.map (·.cells.size)))=some (7,112,some 7):=by kernel_rfl
 obtain⟨i,h1,h2⟩:=Option.map_eq_some_iff.1 h
 simp only[Prod.mk.injEq] at h2
 obtain⟨z,h3,h4⟩:=Option.map_eq_some_iff.1 h2.2.2
 exact⟨i,h1,h2.1,h2.2.1,z,h3,h4⟩
theorem qNq {w:World}{a:Option Addr}:∀{l:List JV} {k:Nat},(∀(i:Nat) (x:JV),l[i]? = some x→∃cs,CellsAt w a ((k+i) * 7) cs∧RdV w cs x)→(∀x ∈ l,mayJ 200 x=true)→(∀x ∈ l,SmallV x) →
  ∃E:List (VE w),E.map VE.v=l∧∀(i:Nat) (e:VE w),E[i]? = some e→CellsAt w a ((k+i) * 7) e.cs
 | [],_,_,_,_=>⟨[],rfl,fun i f h=>by simp at h⟩
 | x :: l,k,h,hm,hs=>by
  obtain⟨cs,h1,h3⟩:=h 0 x rfl
  obtain⟨E,e1,e3⟩:=qNq (k:=k+1) (fun i y hy=>by
   have:=h (i+1) y (by simpa using hy)
   rw[show k+1+i=k+(i+1) by omega]
   exact this) (fun p hp=>hm p (List.mem_cons_of_mem _ hp)) (fun p hp=>hs p (List.mem_cons_of_mem _ hp))
  refine⟨⟨cs,x,h3,hm x (by simp),hs x (by simp)⟩ :: E,by rw[List.map_cons,e1],?_⟩
  intro i f hf
  cases i with
  | zero =>
   simp at hf
   rw[←hf]
   exact h1
  | succ i =>
   have:=e3 i f (by simpa using hf)
   rw[show k+1+i=k+(i+1) by omega] at this
   exact this
theorem qFS {w:World}{l:List JV}(h:RdA w none l):l=[]:=by
 cases l with
 | nil=>rfl
 | cons x l =>
  obtain⟨cs,⟨b,off,e,_⟩,_⟩:=h 0 x rfl
  cases e
theorem qLz (E:List (VE w0))(i:Nat):(withI E)[i]? = (E[i]?).map fun e=>(e,i):=by
 unfold withI
 rw[List.getElem?_zipIdx]
 simp
theorem qLA {w:World}{g cap:Nat}{cur:Array Value}{E:List (VE w0)}(h:w.heap[g]? = some (.cells cur 28 (0,0)))(hcap:E.length≤cap)(hsz:cur.size=cap * 7)(ht:cur.toList.take (E.length * 7)=E.flatMap VE.cs):HoldsK (encT (w0:=w0)) 7 w g 0 (withI E).toArray:=by
 have hlen:(withI E).length=E.length:=by unfold withI;simp
 intro j hj
 have hj7:j<E.length * 7:=by rw[size_flatK,List.size_toArray,hlen] at hj;exact hj
 obtain⟨i,c,hi,hc,rfl⟩:=qEr j hj7
 have hin:i * 7+c<cur.size:=by rw[hsz];omega
 have e1:cur[i * 7+c]? = (E.flatMap VE.cs)[i * 7+c]?:=by
  rw[←ht,List.getElem?_take_of_lt hj7,Array.getElem?_toList]
 have hf:=List.getElem?_eq_getElem hi
 rw[qFR E i c _ hf hc] at e1
 have hl:c<(E[i].cs).length:=by rw[E[i].rd.len];exact hc
 rw[List.getElem?_eq_getElem hl] at e1
 refine⟨?_,?_⟩
 ·rw[get_flatK _ _ _ _ (by rw[List.size_toArray,hlen];exact hj7),show (i * 7+c) / 7=i by omega,show (i * 7+c) % 7=c by omega]
  have e2:((withI E).toArray)[i]! = (E[i],i):=by
   have:=qLz E i
   rw[hf] at this
   simp[this]
  rw[e2]
  have e3:(encT (E[i],i))[c]! = (E[i].cs)[c]:=by show (E[i].cs)[c]! = _;simp[hl]
  rw[e3]
  simp only[World.cell?,h,Nat.zero_add]
  simpa using e1
 ·simp[World.frozen?,h]
end
theorem qIB {α β:Type}{c:β→β→Int}(f:α→β)(x:α):∀l:List α,(insG (fun a b=>c (f a) (f b)) x l).map f=insG c (f x) (l.map f)
 | []=>rfl
 | y :: l=>by
  simp only[insG,List.map_cons]
  split
  ·rfl
  ·rw[List.map_cons,qIB f x l]
theorem qLB {α β:Type}{c:β→β→Int}(f:α→β)(l:List α):(sortS (fun a b=>c (f a) (f b)) l).map f=sortS c (l.map f):=by
 have key:∀(n:Nat) (l:List α),l.length=n→(sortS (fun a b=>c (f a) (f b)) l).map f=sortS c (l.map f):=by
  intro n
  induction n with
  | zero =>
   intro l hl
   obtain rfl:=List.length_eq_zero_iff.1 hl
   rfl
  | succ n ih =>
   intro l hl
   have hne:l≠[]:=by intro e;rw[e] at hl;cases hl
   rw[←List.dropLast_concat_getLast hne,qEW,qIB,ih _ (by simp;omega),List.map_append]
   exact (qEW _ _).symm
 exact key _ l rfl
def sortR (l:List JV):List JV × Nat:=if (∀x ∈ l,mayJ 200 x=true) then (sortS (orderJ 201) l,0) else ([],1)
open Go.RowKit Go.Sort
theorem qGK {w0:World}(b off c:Nat)(E:List (VE w0))(w:World)(hE:∀(i:Nat) (e:VE w0),E[i]? = some e→CellsAt w (some ⟨b,off,none⟩) (i * 7) e.cs)(hn:E.length≤1048576) :
  Calls Tryz.prog 43 #[.slice (some ⟨b,off,none⟩) E.length c] w fun e w'=>∃g cap cur,e=.returned (.slice (some ⟨g,0,none⟩) E.length cap)∧w.heap.size≤g ∧
   w'.heap[g]? = some (.cells cur 28 (0,0))∧E.length≤cap∧cap≤maxLen∧cur.size=cap * 7∧cur.toList.take (E.length * 7)=E.flatMap VE.cs∧Below w.heap.size w w':=by
 obtain⟨i0,h1,h2,h3,z,h4,h5⟩:=qEs
 refine (AnyE.slices_Clone Tryz.laysSlE041_f37 i0 z 7 112 h1 h4 h2 h3 h5 (by decide) Tryz.sizeOf28 b off E.length c (E.flatMap VE.cs) w (qC3 E) (by unfold maxLen;omega) (by omega) (qHL hE) (qJL E)).mono ?_
 rintro e w' ⟨v',rfl,⟨_,ho⟩,hne,hb⟩
 rcases ho with ⟨rfl,_⟩ | ⟨g,cap,cur,rfl,hg,hcur,hcap,hm,hsz,ht⟩
 ·exact absurd rfl hne
 ·exact⟨g,cap,cur,rfl,hg,hcur,hcap,hm,hsz,ht,hb⟩
theorem qFe (p:Addr)(c:Nat)(w:World) :
  Calls Tryz.prog 43 #[.slice (some p) 0 c] w fun e w'=>∃(q:Option Addr) (c':Nat),e=.returned (.slice q 0 c')∧c'≤9223372036854775807∧Below w.heap.size w w':=by
 obtain⟨i0,i1,i2,i3,z,i4,i5⟩:=qEs
 have h0:=World.ownsRow_made (base:=w.heap.size) (e:=28) (size:=7) w #[] 0 (Nat.le_refl _) (by unfold maxLen;omega) rfl
 have hq:=fun (W:World)=>Lib.run_eql_slice_nil (P:=Tryz.prog) W 25 28 (some p) 0 c 0 0 Tryz.underlying25
 have H0:=hid h0
 clear h0
 replace i1:=hid i1
 replace i2:=hid i2
 replace i3:=hid i3
 replace i4:=hid i4
 replace i5:=hid i5
 go_enter Tryz.func43,Tryz.ntmps43
 go_wp2_with (at_builtin;refine wpList_append_own _ rfl _ _ _ rfl w.heap.size _ i0 z 7 112 Tryz.underlying25 i1.out i4.out i2.out i3.out i5.out (by decide) _ 0 [] rfl H0.out p 0 c [] rfl rfl (fun j u h=>by simp at h) (fun u h=>by cases h) (by unfold maxLen;omega) (by omega) (by simp) ?_;intro v' w' hown hgr _)
 have hB:=hid (((Below.refl w.heap.size w).alloc (Nat.le_refl _) (.cells #[] 28)).grown hgr (by simp) (fun k hk=>by
  have hk:some w.heap.size=some k:=hk
  injection hk with hk
  omega))
 clear hgr
 obtain⟨_,ho⟩:=hown
 rcases ho with ⟨rfl,_⟩ | ⟨g,cap,cur,rfl,_,_,_,hm,_⟩
 ·go_ret
  exact⟨none,0,rfl,by omega,hB.out⟩
 ·have hm2:=hid (show cap≤9223372036854775807 by unfold maxLen at hm;exact hm)
  clear hm
  go_ret
  exact⟨some ⟨g,0,none⟩,cap,rfl,hm2.out,hB.out⟩
theorem qHM (q:Option Addr)(c:Nat)(f:Value)(w:World):Calls Tryz.prog 61 #[.slice q 0 c,f] w fun e w'=>e=.returned (.tuple #[])∧w'=w:=by
 have hI:=hid (fun (W:World)=>show Calls Tryz.prog 134 #[.slice q 0 c,.int .i64 0,.int .i64 0,f] W fun e w'=>e=.returned (.tuple #[])∧w'=W from by
  go_enter Tryz.func134,Tryz.ntmps134
  go_upto_region 1 with fail
  go_loopw [8] (fun v8 wr=>v8=.int .i64 1∧wr=W) (fun _ _=>0)
  case atStart=>exact⟨rfl,rfl⟩
  case round =>
   obtain⟨rfl,rfl⟩:=hrel
   go_wp2_with fail
   go_end0
   exact⟨rfl,rfl⟩)
 have hS:=hid (fun (W:World)=>show Calls Tryz.prog 94 #[.slice q 0 c,.int .i64 0,f] W fun e w'=>e=.returned (.tuple #[])∧w'=W from by
  go_enter Tryz.func94,Tryz.ntmps94
  go_upto_region 2 with fail
  go_loopw [7,8] (fun v7 v8 wr=>v7=.int .i64 0∧v8=.int .i64 20∧wr=W) (fun _ _ _=>0)
  case atStart=>exact⟨rfl,rfl,rfl⟩
  case round =>
   obtain⟨rfl,rfl,rfl⟩:=hrel
   go_wp2_with fail
   refine (hI.out _).mono ?_
   rintro en w1 ⟨rfl,hw1⟩
   rw[hw1]
   clear hw1 w1
   go_upto_region 7 with fail
   go_loopw [6,7,8,9] (fun v6 _ _ _ w2=>v6=.int .i64 20∧w2=wr) (fun _ _ _ _ _=>0)
   case atStart=>exact⟨rfl,rfl⟩
   case round =>
    obtain⟨rfl,rfl⟩:=hrel
    go_wp2_with fail
    go_end0
    exact⟨rfl,rfl⟩)
 go_enter Tryz.func61,Tryz.ntmps61
 go_wp2_with fail
 refine (hS.out _).mono ?_
 rintro en w1 ⟨rfl,hw1⟩
 rw[hw1]
 clear hw1 w1
 go_wp2_with fail
 go_end0
 exact⟨rfl,rfl⟩
open Go.RowKit Go.Sort
theorem qGL {l:List JV}(h:∀x ∈ l,mayJ 200 x=true):sortR l=(sortS (orderJ 201) l,0):=if_pos h
theorem qM8 {l:List JV}(h:¬ ∀x ∈ l,mayJ 200 x=true):sortR l=([],1):=if_neg h
end Go.Proofs.YtcgbmmalfbpjaaaGreatDoor
