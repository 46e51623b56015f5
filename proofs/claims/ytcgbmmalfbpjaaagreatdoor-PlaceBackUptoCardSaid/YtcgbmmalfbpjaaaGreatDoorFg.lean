/-  -/
import Derived.Test.YtcgbmmalfbpjaaaGreatDoorFe
import Derived.Test.YtcgbmmalfbpjaaaGreatDoorFf
import Derived.Test.YtcgbmmalfbpjaaaGreatDoorFb
set_option maxRecDepth 100000
set_option maxHeartbeats 16000000
namespace Go.Proofs.YtcgbmmalfbpjaaaGreatDoor
open Go.RowKit
section
variable {P:Program} {o:Oper} {a:Act} {Q:Exit→Act→World→Prop}
end
theorem Dn (v:Value)(n B:Nat)(L:List UInt8)(W:World)(hn:n=L.length)(h:W.ownsRow B 5 1 v n (Lib.byteCells L)):(convert 104 9 v).run Tryz.prog W=.ok (.string ⟨L.toArray⟩) W:=by
 subst hn
 rcases h.2 with ⟨rfl,h0⟩ | ⟨g,cap,cur,rfl,hB,hg,hc1,hc2,hc3,ht⟩
 ·obtain rfl:=List.length_eq_zero_iff.1 h0
  rw[run_convert_bytes_string (P:=Tryz.prog) W 104 9 5 none 0 0 Tryz.underlying104 Tryz.underlying5 Tryz.underlying9]
  rfl
 ·exact run_convert_bytes_back (P:=Tryz.prog) W 104 9 5 ⟨g,0,none⟩ cap L Tryz.underlying104 Tryz.underlying5 Tryz.underlying9 (fun j hj=>by
   rw[Addr.add_lit,Nat.zero_add,Lib.cell_of_heap hg]
   have h1:(Lib.byteCells L)[j]? = some (.int .u8 (L[j].toNat:Int)):=by simp[Lib.byteCells,hj]
   rw[←ht,List.getElem?_take] at h1
   split at h1
   ·simpa using h1
   ·cases h1)
theorem pV (ps:List Nat){k p:Nat}(h:ps[k]? = some p):u8L (encs (ps.take (k+1)))=u8L (encs (ps.take k)) ++ encU p:=by
 rw[List.take_add_one,h,Option.toList_some,fJ]
 unfold u8L encU
 rw[List.map_append]
 simp[encs,u8L]
theorem Dl (ps:List Nat)(ap:Option Addr)(cp:Nat)(w:World)(hr:Row w ap (i64s ps))(hp:∀p ∈ ps,isPt p)(hl:ps.length≤17592186044415) :
  Calls Tryz.prog 57 #[.slice ap ps.length cp] w fun e w'=>e=.returned (.string ⟨(u8L (encs ps)).toArray⟩)∧Below w.heap.size w w':=by
 obtain⟨i0,hi,hz0,hz1,hz2⟩:=info_parts zu.info
 have HR:=hid hr
 have HP:=hid hp
 clear hr hp
 obtain⟨T,hT⟩:∃T,T=u8L (encs ps):=⟨_,rfl⟩
 rw[←hT]
 replace hT:=hid hT
 go_enter Tryz.func57,Tryz.ntmps57
 go_wp2_with fail
 go_loopw [3,4] (fun v i wr=>∃k:Nat,i=.int .i64 (k:Nat)∧k≤ps.length∧wr.ownsRow w.heap.size 5 1 v (u8L (encs (ps.take k))).length (Lib.byteCells (u8L (encs (ps.take k))))∧Below w.heap.size w wr) (fun _ i _=>ps.length-(intOf i).toNat)
 case atStart=>exact⟨0,rfl,Nat.zero_le _,World.ownsRow_nil _ _ _ _,Below.refl _ _⟩
 case round =>
  obtain⟨k,rfl,hk,hown,hb⟩:=hrel
  have HO:=hid hown
  have HB:=hid hb
  have hszw:=hb.size
  clear hown hb
  by_cases hke:k=ps.length
  ·have HO2:=HO.out
   rw[hke,List.take_length,←hT.out] at HO2
   have hconv:=Dn _ _ _ T wr rfl HO2
   clear HO2
   subst hke
   go_wp2_with fail
   go_ret
   exact⟨rfl,HB.out⟩
  ·have hkl:k<ps.length:=by omega
   obtain⟨p,hpk⟩:∃p,ps[k]? = some p:=⟨_,List.getElem?_eq_getElem hkl⟩
   obtain⟨bb,off,rfl,hcell⟩:=Hq (HR.out.below HB.out) hpk
   have hpp:p≤1114111:=by
    have h:=HP.out p (List.mem_of_getElem? hpk)
    unfold isPt at h
    omega
   have CB:=fun W=>mV p W hpp
   rw[show bysN (encN p)=encU p from rfl] at CB
   have HN:=hid (pV ps hpk)
   have hlen:(u8L (encs (ps.take k))).length+(encU p).length≤140737488355328:=by
    have h1:=rf (ps.take k)
    have h2:=bK p
    rw[List.length_take] at h1
    unfold encU u8L
    rw[List.length_map,List.length_map]
    omega
   obtain⟨L,hL⟩:∃L,L=u8L (encs (ps.take k)):=⟨_,rfl⟩
   rw[←hL] at HO HN hlen
   obtain⟨eb,heb⟩:∃eb:ByteArray,eb=⟨(encU p).toArray⟩:=⟨_,rfl⟩
   rw[←heb] at CB
   have hez:eb.size=(encU p).length:=by rw[heb];rfl
   have hec:Hid (Lib.strCells eb=Lib.byteCells (encU p)):=by rw[heb];exact rfl
   replace CB:=hid CB
   clear hL hpk hpp heb
   go_wp2_with fail
   refine (CB.out _).mono ?_
   rintro e w2 ⟨rfl,hb2⟩
   have hown2:=aP HO.out hb2
   have HB2:=hid (ae HB.out hb2)
   have hsz2:=HB2.out.size
   clear hb2 CB hcell
   go_wp2_with (at_builtin;refine Lib.wpList_append_own_string _ rfl _ _ 104 9 rfl w.heap.size 5 i0 Tryz.underlying104 Tryz.underlying9 hi hz0 hz1 hz2 _ _ _ rfl hown2 eb rfl ?c3 ?c4 ?c5 ?_)
   case c3=>unfold maxLen;omega
   case c4=>omega
   case c5=>exact hsz2
   intro v' w3 hown' hgrow _
   have HOW:=hid (show w3.ownsRow w.heap.size 5 1 v' (u8L (encs (ps.take (k+1)))).length (Lib.byteCells (u8L (encs (ps.take (k+1))))) by
    rw[HN.out,Lib.byteCells_append,←hec.out,List.length_append];exact hown')
   have HB3:=hid (HB2.out.grown hgrow hsz2 (fun j hj=>(hown2.lt j hj).1))
   clear hown' hown2 hgrow
   go_wp2_with fail
   go_roundw
   case rel=>exact⟨k+1,by go_num,by omega,HOW.out,HB3.out⟩
   case measure=>simp[intOf];omega
end Go.Proofs.YtcgbmmalfbpjaaaGreatDoor
