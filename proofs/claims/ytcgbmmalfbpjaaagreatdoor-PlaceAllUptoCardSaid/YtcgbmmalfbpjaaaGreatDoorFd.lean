/-  -/
import Derived.Test.YtcgbmmalfbpjaaaGreatDoorMk
import Derived.Test.YtcgbmmalfbpjaaaGreatDoorMs
import Derived.Test.YtcgbmmalfbpjaaaGreatDoorMj
import Derived.Lib.OthersKept
set_option maxRecDepth 100000
set_option maxHeartbeats 16000000
namespace Go.Proofs.YtcgbmmalfbpjaaaGreatDoor
open Go.RowKit
theorem Et (l:List Nat):1≤(decB l).2:=by
 unfold decB Lib.decodeN
 repeat (first | split | (dsimp only;omega))
theorem Dn (l:List Nat)(h:l≠[]):(decB l).2≤l.length:=by
 have h1:1≤l.length:=List.length_pos_iff.2 h
 unfold decB Lib.decodeN
 repeat (first | split | (dsimp only;omega))
theorem Eu (l:List Nat):isPt (decB l).1:=by
 unfold decB
 generalize l.getD 0 0=b0
 generalize l.getD 1 0=b1
 generalize l.getD 2 0=b2
 generalize l.getD 3 0=b3
 unfold Lib.decodeN isPt
 repeat (first | split | (dsimp only;omega))
theorem jE {l:List UInt8}(h:l≠[]):1≤(decG l).2:=by
 unfold decG;rw[if_neg h];exact Et _
theorem sV {l:List UInt8}(h:l≠[]):(decG l).2≤l.length:=by
 unfold decG;rw[if_neg h,←dJ l];exact Dn _ (fun e=>h (by simpa[nats] using e))
theorem Ew (l:List UInt8):isPt (decG l).1:=by
 unfold decG
 split
 ·unfold isPt;omega
 ·exact Eu _
def ptsF:Nat→List UInt8→List Nat
 | 0,_=>[]
 | f+1,l=>if l=[] then [] else (decG l).1 :: ptsF f (l.drop (decG l).2)
def pts (l:List UInt8):List Nat:=ptsF l.length l
theorem qo:∀(f g:Nat) (l:List UInt8),l.length≤f→l.length≤g→ptsF f l=ptsF g l
 | 0,0,_,_,_=>rfl
 | 0,g+1,l,h,_=>by
  obtain rfl:=List.length_eq_zero_iff.1 (Nat.le_zero.1 h)
  simp[ptsF]
 | f+1,0,l,_,h=>by
  obtain rfl:=List.length_eq_zero_iff.1 (Nat.le_zero.1 h)
  simp[ptsF]
 | f+1,g+1,l,hf,hg=>by
  simp only[ptsF]
  by_cases h:l=[]
  ·rw[if_pos h,if_pos h]
  ·rw[if_neg h,if_neg h]
   have:=jE h
   congr 1
   exact qo f g _ (by rw[List.length_drop];omega) (by rw[List.length_drop];omega)
@[simp] theorem FP:pts []=[]:=rfl
theorem jF {l:List UInt8}(h:l≠[]):pts l=(decG l).1 :: pts (l.drop (decG l).2):=by
 have h1:=jE h
 have h2:0<l.length:=List.length_pos_iff.2 h
 unfold pts
 obtain⟨n,hn⟩:∃n,l.length=n+1:=⟨l.length-1,by omega⟩
 rw[hn]
 simp only[ptsF]
 rw[if_neg h]
 congr 1
 exact qo _ _ _ (by rw[List.length_drop];omega) (Nat.le_refl _)
theorem wV:∀(n:Nat) (l:List UInt8),l.length≤n→∀p ∈ pts l,isPt p
 | 0,l,h=>by
  obtain rfl:=List.length_eq_zero_iff.1 (Nat.le_zero.1 h)
  intro p hp;cases hp
 | n+1,l,h=>by
  by_cases hl:l=[]
  ·subst hl;intro p hp;cases hp
  ·rw[jF hl]
   intro p hp
   rcases List.mem_cons.1 hp with rfl | hp
   ·exact Ew l
   ·have:=jE hl
    exact wV n _ (by rw[List.length_drop];omega) p hp
theorem qP:∀(n:Nat) (l:List UInt8),l.length≤n→(pts l).length≤l.length
 | 0,l,h=>by
  obtain rfl:=List.length_eq_zero_iff.1 (Nat.le_zero.1 h)
  simp
 | n+1,l,h=>by
  by_cases hl:l=[]
  ·subst hl;simp
  ·rw[jF hl]
   have h1:=jE hl
   have h2:=sV hl
   have:=qP n (l.drop (decG l).2) (by rw[List.length_drop];omega)
   rw[List.length_drop] at this
   rw[List.length_cons]
   omega
theorem uM:∀(ps:List Nat) (l:List UInt8),(∀p ∈ ps,isPt p)→nats l=encs ps→pts l=ps
 | [],l,_,h=>by
  have:l=[]:=by simpa[encs,nats] using h
  rw[this];rfl
 | p :: ps,l,hp,h=>by
  rw[iL] at h
  have hne:l≠[]:=by
   rintro rfl
   have h1:=dK p
   have:=congrArg List.length h
   simp[nats] at this
   omega
  have hd:=Dp (hp p (by simp)) h
  rw[jF hne,hd]
  congr 1
  refine uM ps _ (fun q hq=>hp q (by simp[hq])) ?_
  rw[←qp,h,nU]
def u8L (l:List Nat):List UInt8:=l.map UInt8.ofNat
theorem Df (l:List Nat)(h:∀x ∈ l,x<256):nats (u8L l)=l:=by
 unfold nats u8L
 rw[List.map_map]
 conv=>rhs;rw[←List.map_id l]
 refine List.map_congr_left fun x hx=>?_
 simp only[Function.comp,id]
 rw[UInt8.toNat_ofNat']
 exact Nat.mod_eq_of_lt (h x hx)
theorem wW {l:List UInt8}(h:soundB l=true):∃ps,(∀p ∈ ps,isPt p)∧nats l=encs ps:=by
 unfold soundB at h
 rw[decide_eq_true_eq] at h
 exact iV _ (nats l) (Nat.le_refl _) (lU l) (by rw[h,dJ])
theorem yQ:∀(ps:List Nat),(encs ps).length≤4 * ps.length
 | []=>Nat.zero_le _
 | p :: ps=>by
  have:=yQ ps
  have:=dK p
  rw[iL,List.length_append,List.length_cons];omega
theorem sU (l:List UInt8)(pos:Nat)(h:pos<l.length):Utf8.decode ⟨l.toArray⟩ pos=decG (l.drop pos):=by
 have hne:l.drop pos≠[]:=by
  intro e
  have:=congrArg List.length e
  simp at this
  omega
 unfold decG
 rw[if_neg hne,Lib.decode_at]
 unfold decB
 rw[dH,dH,dH,dH]
 unfold nats
 rw[dI,dI,dI,dI]
 simp only[List.getD_eq_getElem?_getD,List.getElem?_drop,List.length_map,List.length_drop,Nat.add_zero]
 rfl
theorem zy {w w':World}{B:Nat}{e:TypeId}{sz:Nat}{v:Value}{n:Nat}{xs:List Value}(h:w.ownsRow B e sz v n xs)(hk:∀k,B≤k→w'.heap[k]? = w.heap[k]?):w'.ownsRow B e sz v n xs:=by
 refine⟨h.1,?_⟩
 rcases h.2 with h1 | ⟨g,cap,cur,hv,hg,hgg,h1⟩
 ·exact Or.inl h1
 ·exact Or.inr ⟨g,cap,cur,hv,hg,(hk g hg).trans hgg,h1⟩
theorem zA {w:World}{B B':Nat}{e:TypeId}{sz:Nat}{v:Value}{n:Nat}{xs:List Value}(h:w.ownsRow B e sz v n xs)(hB:B'≤B):w.ownsRow B' e sz v n xs:=by
 refine⟨h.1,?_⟩
 rcases h.2 with h1 | ⟨g,cap,cur,hv,hg,hgg,h1⟩
 ·exact Or.inl h1
 ·exact Or.inr ⟨g,cap,cur,hv,by omega,hgg,h1⟩
theorem BO (a:List Nat)(p:Nat):i64s (a ++ [p])=i64s a ++ [.int .i64 (p:Int)]:=by simp[i64s]
theorem kW (l:List UInt8)(w:World)(hl:l.length≤17592186044415) :
  Calls Tryz.prog 80 #[.string ⟨l.toArray⟩] w fun e w'=>∃a cap,e=.returned (.slice a (pts l).length cap)∧Below w.heap.size w w'∧w'.ownsRow w.heap.size 3 1 (.slice a (pts l).length cap) (pts l).length (i64s (pts l)):=by
 have hsz:(⟨l.toArray⟩:ByteArray).size=l.length:=rfl
 obtain⟨s,hse⟩:∃s:ByteArray,s=⟨l.toArray⟩:=⟨_,rfl⟩
 rw[←hse] at hsz ⊢
 replace hse:=hid hse
 go_enter Tryz.func80,Tryz.ntmps80
 go_wp2
 go_loopw [3] (fun v wr=>∃(k:Nat) (done:List Nat),k≤l.length∧done.length≤k∧pts l=done ++ pts (l.drop k)∧wr.heap[w.heap.size]? = some (.stringIter s k)∧wr.ownsRow (w.heap.size+1) 3 1 v done.length (i64s done)∧Below w.heap.size w wr∧w.heap.size+1≤wr.heap.size) (fun _ wr=>l.length-wr.iterPos w.heap.size)
 case atStart=>exact⟨0,[],Nat.zero_le _,Nat.zero_le _,rfl,by simp[World.iter_heap],World.ownsRow_nil _ _ _ _,(Below.refl _ w).alloc (Nat.le_refl _) _,by show _≤(w.heap.push _).size;simp⟩
 case round =>
  obtain⟨k,done,hk,hdk,he,hit,hown,hb,hszw⟩:=hrel
  have HE:=hid he
  have HB:=hid hb
  have HIT:=hid hit
  have hpos:wr.iterPos w.heap.size=k:=by unfold World.iterPos;rw[hit]
  have HPOS:=hid hpos
  clear he hpos
  by_cases hkl:k=l.length
  ·have hnx:∀ty,(Instr.next (.pointer (some ⟨w.heap.size,0,none⟩)) true ty).run Tryz.prog wr=.ok (.tuple #[.bool false]) wr:=fun ty=>Lib.run_next_end_at wr _ s k ty hit (by omega)
   have HD:=hid (show pts l=done by rw[HE.out,hkl,List.drop_length];simp)
   have HO:=hid hown
   clear hown hb hit
   go_wp2
   go_ret
   obtain⟨a,cap,rfl,_,_⟩:=df HO.out
   refine⟨a,cap,by rw[HD.out];rfl,HB.out,?_⟩
   rw[HD.out];exact zA HO.out (by omega)
  ·have hkl2:k<l.length:=by omega
   have hne:l.drop k≠[]:=by
    intro e
    have:=congrArg List.length e
    simp at this
    omega
   have h1:=jE hne
   have h2:=sV hne
   rw[List.length_drop] at h2
   have hs:=jF hne
   rw[List.drop_drop] at hs
   have h3:=yt (l.drop k)
   have hdec:=sU l k hkl2
   rw[←hse.out] at hdec
   have hnx:∀ty,(Instr.next (.pointer (some ⟨w.heap.size,0,none⟩)) true ty).run Tryz.prog wr=.ok (.tuple #[.bool true,.int .i64 (k:Nat),.int .i32 ((decG (l.drop k)).1:Nat)]) (wr.iterAt w.heap.size s (k+(decG (l.drop k)).2)):=fun ty=>by
    rw[Lib.run_next_any_at wr _ s k ty hit (by omega),hdec]
   clear hdec
   generalize decG (l.drop k)=q at h1 h2 hs h3 hnx
   obtain⟨p,n⟩:=q
   simp only at h1 h2 hs h3 hnx
   obtain⟨h3,h4⟩:=h3
   have HE2:=hid (show pts l=(done ++ [p]) ++ pts (l.drop (k+n)) by rw[HE.out,hs];simp)
   clear hs hne
   have hown2:(wr.iterAt w.heap.size s (k+n)).ownsRow (w.heap.size+1) 3 1 _ done.length (i64s done):=zy hown fun j hj=>Lib.iterAt_other _ _ _ _ _ (by omega)
   have HBW:=hid (Lib.below_iterAt hb (Nat.le_refl _) s (k+n))
   have HIT2:=hid (Lib.iterAt_heap wr _ s k (k+n) hit)
   have hsz2:w.heap.size+1≤(wr.iterAt w.heap.size s (k+n)).heap.size:=by rw[Lib.iterAt_size];exact hszw
   clear hb hown hit
   generalize wr.iterAt w.heap.size s (k+n)=w2 at *
   have hw:IntKind.i64.wrap (p:Int)=(p:Nat):=by rw[IntWalk.i64_in _ (by omega)]
   go_wp2_with (at_builtin;refine dG BP rfl _ _ rfl (w.heap.size+1) (w0:=w2) hown2 rfl rfl rfl (by unfold maxLen;omega) (by omega) hsz2 ?_;intro v' w3 hown' hb')
   have HOW:=hid (show w3.ownsRow (w.heap.size+1) 3 1 v' (done ++ [p]).length (i64s (done ++ [p])) by rw[BO];simpa using hown')
   have HIT3:Hid (w3.heap[w.heap.size]? = some (.stringIter s (k+n))):=(hb'.block _ (by omega)).trans HIT2.out
   have HB3:=hid (HBW.out.trans (hb'.mono (Nat.le_succ _)))
   have hsz3:=Nat.le_trans hsz2 hb'.size
   clear hown' hb' hown2 HBW
   go_wp2
   go_roundw
   case rel=>exact⟨k+n,done ++ [p],by omega,by simp;omega,HE2.out,HIT3.out,HOW.out,HB3.out,hsz3⟩
   case measure =>
    rw[HPOS.out,show w3.iterPos w.heap.size=k+n by unfold World.iterPos;rw[HIT3.out]]
    omega
end Go.Proofs.YtcgbmmalfbpjaaaGreatDoor
