/-  -/
import Derived.Test.YtcgbmmalfbpjaaaGreatDoorMo
set_option maxRecDepth 100000
set_option maxHeartbeats 16000000
namespace Go.Proofs.YtcgbmmalfbpjaaaGreatDoor
open Go.RowKit Go.ChangeShapes Go.WideShapes Go.ChangeAt Go.Joins
section
variable {H:Type} {enc:TypeId × Value→H}
theorem JZ (W:World){fuel:Nat}{c5:Value}{y3:DataW H × List MemPlace}(g3:DataW.trod enc Tryz.prog W 0 (fun _=>true) true fuel 25 [c5]=some y3) :
  ∃(aa:Option Addr) (arr:List JV) (ac:Nat),c5=.slice aa arr.length ac∧RdA W aa arr∧arr.length≤ac∧ac≤maxLen∧(aa=none→ac=0)∧(Rows.uptoBulk y3.1≤1048576→arr.length≤1048576∧∀x ∈ arr,SmallV x∧x.obj.length+1≤1048576):=by
 rcases DataW.trod_slice Tryz.underlying25 g3 with ⟨e1,_⟩ | ⟨p,len,c,elems,rest,n2,hn2,e1,ey,hb,hlc,hcm,hel,hE,_,_⟩
 ·simp only[List.cons.injEq,and_true] at e1
  subst e1
  exact⟨none,[],0,rfl,(fun i x hx=>by simp at hx),Nat.le_refl _,Nat.zero_le _,(fun _=>rfl),fun _=>⟨Nat.zero_le _,fun x hx=>by cases hx⟩⟩
 ·simp only[List.cons.injEq,and_true] at e1
  subst e1
  rw[nV] at hE
  obtain⟨arr,hal,harr⟩:=lJ (P:=fun i (y:DataW H × List MemPlace) (v:JV)=>∃cs,W.cells? 0 (p.add (i * 7)) 7=some cs∧RdV W cs v∧(Rows.uptoBulk y.1≤1048576→SmallV v∧v.obj.length+1≤1048576)) elems (fun i y hy=>by
   have hi:=(List.getElem?_eq_some_iff.1 hy).1
   have:=hE i (by omega)
   rw[hy] at this
   obtain⟨cs,h1,h2⟩:=Option.bind_eq_some_iff.1 this
   obtain⟨v,v1,v2⟩:=wZ W n2 cs y h2
   exact⟨v,cs,h1,v1,v2⟩)
  have hlen:len=arr.length:=by omega
  subst hlen
  refine⟨some p,arr,c,rfl,?_,hlc,hcm,(fun h=>by cases h),?_⟩
  ·intro i x hx
   obtain⟨y,_,cs,h1,h2,_⟩:=harr i x hx
   have hi:=(List.getElem?_eq_some_iff.1 hx).1
   have h0s:p.spot=none:=by
    obtain⟨y',_,cs',h1',_⟩:=harr 0 _ (List.getElem?_eq_getElem (by omega))
    exact zK (n:=6) h1'
   exact⟨cs,lK h1 h0s,h2⟩
  ·intro hk
   rw[ey] at hk
   dsimp only at hk
   have hbs:=nX (es:=elems.map (·.1)) (sp:=rest.map (·.1))
   refine⟨by have:=hbs.1;simp at this;omega,fun x hx=>?_⟩
   obtain⟨i,hi⟩:=List.getElem?_of_mem hx
   obtain⟨y,hy,cs,_,_,h3⟩:=harr i x hi
   have:=hbs.2 y.1 (List.mem_map_of_mem (List.mem_of_getElem? hy))
   exact h3 (by omega)
theorem IL {r:Reach}{b0:Nat}{W:World}{v:Value}{d:DataW H}{p:List MemPlace}(hv:Value.okWide Tryz.prog W r b0 25 v)(h:DataW.Trod enc Tryz.prog W 0 (fun _=>true) true 25 v d p) :
  ∃(aa:Option Addr) (arr:List JV) (ac:Nat),v=.slice aa arr.length ac∧RdA W aa arr∧arr.length≤ac∧ac≤maxLen∧(aa=none→ac=0)∧(Rows.uptoBulk d≤1048576→arr.length≤1048576∧∀x ∈ arr,SmallV x∧x.obj.length+1≤1048576):=by
 obtain⟨a,len,cap,rfl⟩:=okWide_slice Tryz.underlying25 hv
 obtain⟨fuel,hf⟩:=h
 exact JZ W (y3:=(d,p)) hf
end
end Go.Proofs.YtcgbmmalfbpjaaaGreatDoor
