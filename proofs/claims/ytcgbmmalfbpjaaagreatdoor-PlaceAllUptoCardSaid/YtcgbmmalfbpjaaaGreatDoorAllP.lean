/-  -/
import Derived.Test.YtcgbmmalfbpjaaaGreatDoorPathP
import Derived.Test.YtcgbmmalfbpjaaaGreatDoorPm
set_option maxRecDepth 100000
set_option maxHeartbeats 16000000
namespace Go.Proofs.YtcgbmmalfbpjaaaGreatDoor
def Pre (p:List JV) (L:List (List JV)):Prop:=∀(i:Nat) (q:List JV),L[i]? = some q→q≠[]∧(q.dropLast=p∨∃k,k<i∧L[k]? = some q.dropLast)
theorem Pre.nil (p:List JV):Pre p []:=fun i q h=>by simp at h
theorem Pre.app {p:List JV}{A B:List (List JV)}(hA:Pre p A)(hB:Pre p B):Pre p (A ++ B):=fun i q h=>by
 by_cases hi:i<A.length
 ·rw[List.getElem?_append_left hi] at h
  obtain⟨h1,h2⟩:=hA i q h
  refine⟨h1,h2.imp id fun ⟨k,k1,k2⟩=>⟨k,k1,?_⟩⟩
  rw[List.getElem?_append_left (by omega)]
  exact k2
 ·rw[List.getElem?_append_right (by omega)] at h
  obtain⟨h1,h2⟩:=hB _ q h
  refine⟨h1,h2.imp id fun ⟨k,k1,k2⟩=>⟨k+A.length,by omega,?_⟩⟩
  rw[List.getElem?_append_right (by omega),show k+A.length-A.length=k by omega]
  exact k2
theorem Pre.cons {p:List JV}(s:JV){A:List (List JV)}(hA:Pre (p ++ [s]) A):Pre p ((p ++ [s]) :: A):=fun i q h=>by
 cases i with
 | zero =>
  obtain rfl:p ++ [s]=q:=by simpa using h
  exact⟨by simp,Or.inl (by simp)⟩
 | succ i =>
  obtain⟨h1,h2⟩:=hA i q (by simpa using h)
  refine⟨h1,Or.inr ?_⟩
  rcases h2 with h2 | ⟨k,k1,k2⟩
  ·exact⟨0,by omega,by rw[h2];rfl⟩
  ·exact⟨k+1,by omega,by simpa using k2⟩
theorem Gf {F:JV→List JV→List (List JV)}(hF:∀x p,Pre p (F x p))(p:List JV):∀(l:List JV) (i:Nat),Pre p (itemsP F l i p)
 | [],_=>Pre.nil p
 | x :: l,i=>by
  rw[itemsP,←List.cons_append]
  exact Pre.app (Pre.cons (nJ i) (hF x _)) (Gf hF p l (i+1))
theorem Gl {F:JV→List JV→List (List JV)}(hF:∀x p,Pre p (F x p))(p:List JV):∀(l:List Fld),Pre p (fldsP F l p)
 | []=>Pre.nil p
 | x :: l=>by
  rw[fldsP,←List.cons_append]
  exact Pre.app (Pre.cons (textJ2 x.1) (hF x.2 _)) (Gl hF p l)
theorem FV:∀(f:Nat) (v:JV) (p:List JV),Pre p (pathsJ f v p)
 | 0,_,p=>Pre.nil p
 | f+1,v,p=>Pre.app (Gf (FV f) p v.arr 0) (Gl (FV f) p v.obj)
theorem Gn {i:Nat}(hi:i≤1048576):IsPlain (plainD false i 0)∧fitsB (plainD false i 0)=true∧0≤(plainD false i 0).e∧(plainD false i 0).e+(Num.digs 10 (plainD false i 0).m).length≤16∧wholeN (plainD false i 0)=i:=by
 have h1:=BB i
 have h2:(Num.digs 10 i).length≤7:=(Num.digs_length_le (by decide)).2 (by omega)
 have hm:(plainD false i 0).m≤i:=by
  unfold plainD
  split
  ·exact Nat.zero_le _
  ·exact Nat.div_le_self _ _
 have h3:(Num.digs 10 (plainD false i 0).m).length≤7:=(Num.digs_length_le (by decide)).2 (by omega)
 have he:0≤(plainD false i 0).e∧(plainD false i 0).e≤7:=by
  unfold plainD
  split
  ·simp
  ·dsimp only
   omega
 refine⟨qC _ _ _,?_,he.1,by omega,?_⟩
 ·unfold fitsB
  simp only[Bool.or_eq_true,Bool.and_eq_true,decide_eq_true_eq]
  by_cases h0:(plainD false i 0).m=0
  ·exact Or.inl h0
  ·exact Or.inr ⟨⟨by omega,by omega⟩,by omega⟩
 ·unfold wholeN
  rw[if_pos he.1]
  by_cases h0:i=0
  ·subst h0
   rfl
  ·have:=(rQ h0).1
   unfold plainD
   rw[if_neg h0]
   dsimp only
   rw[Int.zero_add,Int.toNat_natCast]
   exact this
theorem GL {i:Nat}(hi:i≤1048576):wholeJ (nJ i) 1=((i:Int),0):=by
 obtain⟨h1,h2,h3,h4,h5⟩:=Gn hi
 have hn:(plainD false i 0).neg=false:=BD i 0
 obtain⟨e1,e2⟩:=vP h1 h2
 have hw:wholeD (nJ i) 1=plainD false i 0:=by
  unfold wholeD nJ
  simp only[JV.g,JV.ls,JV.e]
  rw[e1,e2]
  unfold roundR
  rw[if_pos (Or.inr h3)]
 unfold wholeJ
 rw[hw,e1,e2]
 unfold intR
 rw[if_neg (by simp),if_neg (by omega),if_neg (by omega),h5,if_neg (by omega),if_neg (by rw[hn];simp)]
theorem GX {i:Nat}(hi:i≤1048576):mayJ 200 (nJ i)=true:=by
 obtain⟨h1,h2,_⟩:=Gn hi
 have hm:=Gz h1 h2
 have hb:baseB (nJ i)=true:=by
  simp[baseB,nJ,JV.kind,JV.g,JV.ls,JV.e,JV.s,JV.arr,JV.obj,hm]
 show (baseB (nJ i) && (nJ i).arr.all (mayJ 199) && (nJ i).obj.all (fun x=>soundB x.1 && mayJ 199 x.2) && decide (((nJ i).obj.map (·.1)).Nodup))=true
 rw[hb]
 rfl
theorem GM {s:List UInt8}(h:soundB s=true):mayJ 200 (textJ2 s)=true:=by
 have hb:baseB (textJ2 s)=true:=by
  simp[baseB,textJ2,JV.kind,JV.g,JV.ls,JV.e,JV.s,JV.arr,JV.obj,h]
 show (baseB (textJ2 s) && (textJ2 s).arr.all (mayJ 199) && (textJ2 s).obj.all (fun x=>soundB x.1 && mayJ 199 x.2) && decide (((textJ2 s).obj.map (·.1)).Nodup))=true
 rw[hb]
 rfl
theorem Gq {v:JV}{i:Nat}(hk:v.kind=5)(hi:i<v.arr.length)(hl:v.arr.length≤1048576):takeJ v (nJ i)=(v.arr[i],0):=by
 have hr:readS (nJ i)=.idx (nJ i):=by
  unfold readS
  rw[if_neg (by simp[nJ,JV.kind]),if_pos (by simp[nJ,JV.kind])]
 have ha:atJ (nJ i) v.arr.length=((i:Int),0):=by
  rw[GY (by simp[nJ,JV.g,BD]),GL (by omega)]
 unfold takeJ
 rw[hr]
 unfold takeS
 dsimp only
 rw[ha,if_neg (by omega),if_pos hk,if_neg (by simp),if_pos ⟨by omega,by omega⟩]
 simp[List.getD_eq_getElem?_getD,hi]
theorem GN {l:List Fld}(hn:(l.map (·.1)).Nodup){p:Fld}(hp:p ∈ l):getO p.1 l=some p.2:=by
 induction l with
 | nil=>cases hp
 | cons q l ih =>
  rw[List.map_cons,List.nodup_cons] at hn
  show (if q.1=p.1 then some q.2 else getO p.1 l)=_
  rcases List.mem_cons.1 hp with rfl | h
  ·rw[if_pos rfl]
  ·rw[if_neg (fun e=>hn.1 (by rw[e];exact List.mem_map_of_mem h))]
   exact ih hn.2 h
theorem GG {v:JV}(hk:v.kind=6)(hn:(v.obj.map (·.1)).Nodup){p:Fld}(hp:p ∈ v.obj):takeJ v (textJ2 p.1)=(p.2,0):=by
 have hr:readS (textJ2 p.1)=.key p.1:=by
  unfold readS
  rw[if_pos (by simp[textJ2,JV.kind])]
  rfl
 unfold takeJ
 rw[hr]
 unfold takeS
 dsimp only
 rw[if_pos (Or.inl hk),GN hn hp]
 rfl
def Lead (v:JV) (p:List JV) (L:List (List JV)):Prop:=∀q ∈ L,∃r,q=p ++ r∧(goJ v r).2=0∧∀x ∈ r,mayJ 200 x=true
theorem Lead.step {v x s:JV}{p:List JV}{L:List (List JV)}(ht:takeJ v s=(x,0))(hs:mayJ 200 s=true)(h:Lead x (p ++ [s]) L):∀q ∈ (p ++ [s]) :: L,∃r,q=p ++ r∧(goJ v r).2=0∧∀x ∈ r,mayJ 200 x=true:=by
 intro q hq
 rcases List.mem_cons.1 hq with rfl | hq
 ·refine⟨[s],rfl,?_,fun y hy=>by rw[List.mem_singleton.1 hy];exact hs⟩
  rw[goJ,ht,if_neg (by simp)]
  rfl
 ·obtain⟨r,rfl,h2,h3⟩:=h q hq
  refine⟨s :: r,by simp,?_,fun y hy=>?_⟩
  ·rw[goJ,ht,if_neg (by simp)]
   exact h2
  ·rcases List.mem_cons.1 hy with rfl | hy
   ·exact hs
   ·exact h3 y hy
theorem FW {F:JV→List JV→List (List JV)}{p q:List JV}:∀{l:List JV} {j:Nat},q ∈ itemsP F l j p→∃(i:Nat) (hi:i<l.length),q ∈ (p ++ [nJ (j+i)]) :: F l[i] (p ++ [nJ (j+i)])
 | [],_,h=>by cases h
 | x :: l,j,h=>by
  rw[itemsP,←List.cons_append] at h
  rcases List.mem_append.1 h with h | h
  ·exact⟨0,by simp,h⟩
  ·obtain⟨i,hi,h2⟩:=FW h
   exact⟨i+1,by simp;omega,by rw[show j+(i+1)=j+1+i by omega];simpa using h2⟩
theorem FZ {F:JV→List JV→List (List JV)}{p q:List JV}:∀{l:List Fld},q ∈ fldsP F l p→∃x ∈ l,q ∈ (p ++ [textJ2 x.1]) :: F x.2 (p ++ [textJ2 x.1])
 | [],h=>by cases h
 | x :: l,h=>by
  rw[fldsP,←List.cons_append] at h
  rcases List.mem_append.1 h with h | h
  ·exact⟨x,List.mem_cons_self ..,h⟩
  ·obtain⟨y,hy,h2⟩:=FZ h
   exact⟨y,List.mem_cons_of_mem _ hy,h2⟩
theorem FT:∀(f:Nat) (v:JV) (p:List JV),mayJ f v=true→SmallV v→Lead v p (pathsJ f v p)
 | 0,_,_,_,_=>fun q hq=>by cases hq
 | f+1,v,p,hm,hs=>by
  intro q hq
  have hb:=fG hm
  simp only[mayJ,Bool.and_eq_true,List.all_eq_true,decide_eq_true_eq] at hm
  rw[pathsJ] at hq
  rcases List.mem_append.1 hq with hq | hq
  ·obtain⟨i,hi,h⟩:=FW hq
   rw[Nat.zero_add] at h
   have hk:v.kind=5:=Decidable.byContradiction fun hk=>by rw[jM hb hk] at hi;simp at hi
   exact Lead.step (Gq hk hi hs.al) (GX (by have:=hs.al;omega)) (FT f v.arr[i] _ (hm.1.1.2 _ (List.getElem_mem hi)) (hs.arr _ (List.getElem_mem hi))) q h
  ·obtain⟨x,hx,h⟩:=FZ hq
   have hk:v.kind=6:=Decidable.byContradiction fun hk=>by rw[jO hb hk] at hx;cases hx
   exact Lead.step (GG hk hm.2 hx) (GM (hm.1.2 x hx).1) (FT f x.2 _ (hm.1.2 x hx).2 (hs.flds x hx)) q h
theorem GR {v:JV}(hm:mayJ 200 v=true)(hs:SmallV v){q:List JV}(hq:q ∈ pathsJ 200 v []):(getPJ v q).2=0:=by
 obtain⟨r,rfl,h2,h3⟩:=FT 200 v [] hm hs q hq
 unfold getPJ
 rw[if_pos ⟨hm,h3⟩]
 exact h2
end Go.Proofs.YtcgbmmalfbpjaaaGreatDoor
