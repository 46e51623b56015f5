/-  -/
import Derived.Test.YtcgbmmalfbpjaaaGreatDoorMb
import Derived.Test.YtcgbmmalfbpjaaaGreatDoorShelf
import Derived.Test.YtcgbmmalfbpjaaaGreatDoorFa
import Derived.Test.YtcgbmmalfbpjaaaGreatDoorMk
import Derived.Lib.FrozenHead2
import Derived.Lib.BufferWrite
import Derived.Lib.SlBuf
import Derived.Deep.CutBlock
set_option maxRecDepth 100000
set_option maxHeartbeats 16000000
namespace Go.Proofs.YtcgbmmalfbpjaaaGreatDoor
open Go.RowKit
structure BelowX (C b:Nat) (w w':World):Prop where
 os:w'.os=w.os
 tape:w'.tape=w.tape
 output:w'.output=w.output
 size:w.heap.size≤w'.heap.size
 block:∀k,k<C→k≠b→w'.heap[k]? = w.heap[k]?
theorem BelowX.refl (C b:Nat)(w:World):BelowX C b w w:=⟨rfl,rfl,rfl,Nat.le_refl _,fun _ _ _=>rfl⟩
theorem BelowX.trans {C b:Nat}{u v w:World}(h:BelowX C b u v)(k:BelowX C b v w):BelowX C b u w :=
 ⟨k.os.trans h.os,k.tape.trans h.tape,k.output.trans h.output,Nat.le_trans h.size k.size,fun i hi hb=>(k.block i hi hb).trans (h.block i hi hb)⟩
theorem BelowX.of {C b:Nat}{w w':World}(h:Below C w w'):BelowX C b w w':=⟨h.os,h.tape,h.output,h.size,fun k hk _=>h.block k hk⟩
theorem BelowX.below {C b:Nat}{w w':World}(h:BelowX C b w w'){B:Nat}(hB:B≤b)(hC:B≤C):Below B w w' :=
 ⟨h.os,h.tape,h.output,h.size,fun k hk=>h.block k (by omega) (by omega)⟩
theorem BelowX.setCell {C b:Nat}{u w:World}(h:BelowX C b u w){p:Addr}(hp:p.block=b)(x:Value):BelowX C b u (w.setCell p x) :=
 h.trans ⟨rfl,rfl,rfl,by simp[World.setCell],fun k _ hk=>Below.heap_setCell _ _ _ _ (by omega)⟩
def BldAt (C b:Nat) (p:Value) (l:List UInt8) (w:World):Prop :=
 b<C∧∃v,w.heap[b]? = some (.cells #[p,v] 154 (0,0))∧w.ownsRowF C 5 1 v l.length (Lib.byteCells l)
def Bld (C b:Nat) (l:List UInt8) (w:World):Prop:=BldAt C b (.pointer none) l w∨BldAt C b (.pointer (some ⟨b,0,none⟩)) l w
theorem BldAt.lt {C b:Nat}{p:Value}{l:List UInt8}{w:World}(h:BldAt C b p l w):b<w.heap.size:=by
 obtain⟨_,v,hb,_⟩:=h
 exact (Array.getElem?_eq_some_iff.1 hb).1
theorem Bld.lt {C b:Nat}{l:List UInt8}{w:World}(h:Bld C b l w):b<w.heap.size:=h.elim BldAt.lt BldAt.lt
theorem dE {w:World}{C b:Nat}{e:TypeId}{v:Value}{n:Nat}{xs:List Value}(h:w.ownsRowF C e 1 v n xs)(hb:b<C):w.ownsRowF b e 1 v n xs∧v.ownBlock≠some b:=by
 refine⟨⟨h.1,?_⟩,?_⟩
 ·rcases h.2 with h1 | ⟨g,cap,cur,fz,hv,hg,h1⟩
  ·exact Or.inl h1
  ·exact Or.inr ⟨g,cap,cur,fz,hv,by omega,h1⟩
 ·intro e
  have:=(h.lt b e).1
  omega
theorem BldAt.is {C b:Nat}{p:Value}{l:List UInt8}{w:World}(h:BldAt C b p l w):Lib.BuilderAtF 154 5 b b p (Lib.byteCells l) w:=by
 obtain⟨hC,v,hb,hown⟩:=h
 have:=dE hown hC
 exact⟨Nat.le_refl b,v,hb,by rw[Lib.byteCells_length];exact this.1,this.2⟩
theorem Bld.is {C b:Nat}{l:List UInt8}{w:World}(h:Bld C b l w):Lib.IsBuilderF 154 5 b b (Lib.byteCells l) w:=h.imp BldAt.is BldAt.is
theorem Bld.fresh {C b:Nat}{w:World}(hbk:w.heap[b]? = some (.cells #[.pointer none,.slice none 0 0] 154 (0,0)))(h:b<C):Bld C b [] w :=
 Or.inl ⟨h,_,hbk,World.ownsRowF_nil _ _ _ _⟩
theorem xK (C b:Nat)(l:List UInt8)(w:World)(h:Bld C b l w) :
  Calls Tryz.prog 165 #[.pointer (some ⟨b,0,none⟩)] w fun e w'=>e=.returned (.tuple #[])∧(BldAt C b (.pointer (some ⟨b,0,none⟩)) l w'∧BelowX C b w w'∧w'.heap.size=w.heap.size):=by
 rcases h with h | h
 ·have hi:=h.is
  refine (gK b w hi.cell0 hi.shape hi.frozen0).mono ?_
  rintro e w' ⟨rfl,rfl⟩
  refine⟨rfl,?_,(BelowX.refl C b w).setCell rfl _,by simp[World.setCell]⟩
  obtain⟨h1,v,h2,h3⟩:=h
  refine⟨h1,v,?_,?_⟩
  ·simp[World.setCell,Array.getElem?_modify,h2]
  ·refine h3.kept (row:=some b) ⟨rfl,rfl,rfl,by simp[World.setCell],fun k _ hk=>Below.heap_setCell _ _ _ _ (fun e=>hk (by simp[e]))⟩ ?_
   exact Or.inr (dE h3 h1).2
 ·refine (iq b w h.is.cell0).mono ?_
  rintro e w' ⟨rfl,rfl⟩
  exact⟨rfl,h,BelowX.refl C b _,rfl⟩
theorem EL (C b:Nat)(l:List UInt8)(w:World)(h:Bld C b l w) :
  Calls Tryz.prog 125 #[.pointer (some ⟨b,0,none⟩)] w fun e w'=>e=.returned (.string ⟨l.toArray⟩)∧Below b w w' :=
 (Tryz.Builder_String_any_k b b l w h.is (Nat.le_of_lt h.lt)).mono fun _ _ h=>⟨h.1,h.2.2.1⟩
section
variable {P:Program} {o:Oper} {a:Act} {Q:Exit→Act→World→Prop}
end
end Go.Proofs.YtcgbmmalfbpjaaaGreatDoor
