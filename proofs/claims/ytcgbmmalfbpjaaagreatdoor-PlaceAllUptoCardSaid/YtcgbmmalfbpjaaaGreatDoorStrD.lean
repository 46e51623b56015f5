/-  -/
import Derived.Test.YtcgbmmalfbpjaaaGreatDoorFb
set_option maxRecDepth 100000
set_option maxHeartbeats 16000000
namespace Go.Proofs.YtcgbmmalfbpjaaaGreatDoor
open Go.RowKit
theorem WriteRune (C b:Nat)(l:List UInt8)(r:Int)(hr0:-2147483648≤r)(hr1:r≤2147483647)(w:World)(h:Bld C b l w)(hlen:l.length+4≤140737488355328)(hC:C≤w.heap.size) :
  Calls Tryz.prog 124 #[.pointer (some ⟨b,0,none⟩),.int .i32 r] w fun e w'=>∃n:Int,e=.returned (.tuple #[.int .i64 n,.nilIface])∧(Bld C b (l ++ Lib.encodeRune r) w'∧BelowX C b w w'):=by
 have hcc:=hid (xK C b l w h)
 have hk4:=Lib.runeCells_le r
 go_enter Tryz.func124,Tryz.ntmps124
 go_wp2_with fail
 refine (hcc.out).mono ?_
 rintro e w1 ⟨rfl,h1,hb1,hz⟩
 have hz1':C≤w1.heap.size:=by omega
 clear hz
 obtain⟨hbC,v,hbk,hown⟩:=h1
 obtain⟨ao,cap,rfl⟩:∃ao cap,v=.slice ao l.length cap:=by
  rcases hown.2 with ⟨hv,h0⟩ | ⟨g,cap,cur,fz,hv,_⟩
  ·exact⟨none,0,by rw[hv,h0]⟩
  ·exact⟨_,_,hv⟩
 have hne:(Value.slice ao l.length cap).ownBlock≠some b:=(dE hown hbC).2
 have c0:w1.cell? ⟨b,0,none⟩=some (.pointer (some ⟨b,0,none⟩)):=by rw[Lib.cell_of_heap hbk];rfl
 have c1:w1.cell? ⟨b,1,none⟩=some (.slice ao l.length cap):=by rw[Lib.cell_of_heap hbk];rfl
 have CA:=hid (Tryz.utf8_AppendRune_row C _ l.length (Lib.byteCells l) r hr0 hr1 w1 hown hlen hz1')
 go_wp2_with fail
 refine CA.out.mono ?_
 rintro e w2 ⟨v',rfl,hown',o,hgrow⟩
 have hlt:b<w1.heap.size:=(Array.getElem?_eq_some_iff.1 hbk).1
 have hb2:w2.heap[b]? = some (.cells #[.pointer (some ⟨b,0,none⟩),.slice ao l.length cap] 154 (0,0)):=by
  rw[hgrow.block b (by simp;omega) (fun e=>hne e.symm),Lib.alloc_old w1 _ b hlt]
  exact hbk
 have d0:w2.cell? ⟨b,0,none⟩=some (.pointer (some ⟨b,0,none⟩)):=by rw[Lib.cell_of_heap hb2];rfl
 have d1:w2.cell? ⟨b,1,none⟩=some (.slice ao l.length cap):=by rw[Lib.cell_of_heap hb2];rfl
 have f1:w2.frozen? ⟨b,1,none⟩=false:=Lib.frozen_of_heap hb2 1
 obtain⟨ao',cap',rfl⟩:∃ao' cap',v'=.slice ao' (l.length+(Lib.runeCells r).length) cap':=by
  rcases hown'.2 with ⟨hv,h0⟩ | ⟨g,cap,cur,fz,hv,_⟩
  ·exact⟨none,0,by rw[hv,h0]⟩
  ·exact⟨_,_,hv⟩
 have hcells:Lib.byteCells (l ++ Lib.encodeRune r)=Lib.byteCells l ++ Lib.runeCells r:=by rw[Lib.byteCells_append,Lib.byteCells_encodeRune]
 have hlen2:(l ++ Lib.encodeRune r).length=l.length+(Lib.runeCells r).length:=by rw[List.length_append,Lib.runeCells_length]
 have hown2:Hid (w2.ownsRowF C 5 1 (.slice ao' (l.length+(Lib.runeCells r).length) cap') (l ++ Lib.encodeRune r).length (Lib.byteCells (l ++ Lib.encodeRune r))):=by
  show w2.ownsRowF _ _ _ _ _ _
  rw[hcells,hlen2];exact hown'
 have hB:Hid (Below C w1 w2):=((Below.refl C w1).alloc hz1' _).grown hgrow (by simp;omega) (fun k hk=>(hown.lt k hk).1)
 have HX1:=hid hb1
 have hnw:IntKind.i64.wrap (((l.length+(Lib.runeCells r).length:Nat):Int)-(l.length:Nat))=((Lib.runeCells r).length:Nat):=by rw[IntWalk.i64_in _ (by omega)];omega
 clear hcells hown hown' hgrow hb1 hne hcc
 generalize (Lib.runeCells r).length=nr at *
 generalize l.length=nl at *
 go_wp2_with fail
 go_ret2
 refine⟨_,rfl,Or.inr ⟨hbC,_,?_,hown2.out.kept (row:=some b) ⟨rfl,rfl,rfl,by simp[World.setCell],fun k _ hk=>Below.heap_setCell _ _ _ _ (fun e=>hk (by simp[e]))⟩ (Or.inr (dE hown2.out hbC).2)⟩,(HX1.out.trans (BelowX.of hB.out)).setCell rfl _⟩
 simp[World.setCell,Array.getElem?_modify,hb2]
end Go.Proofs.YtcgbmmalfbpjaaaGreatDoor
