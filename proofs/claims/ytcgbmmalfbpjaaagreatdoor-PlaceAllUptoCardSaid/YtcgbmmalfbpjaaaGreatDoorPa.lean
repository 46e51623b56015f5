/-  -/
import Derived.Test.YtcgbmmalfbpjaaaGreatDoorMj
import Derived.Test.YtcgbmmalfbpjaaaGreatDoorMi
import Derived.Test.YtcgbmmalfbpjaaaGreatDoorFd
import Derived.Test.YtcgbmmalfbpjaaaGreatDoorMm
import Derived.Test.YtcgbmmalfbpjaaaGreatDoorMu
import Derived.Test.YtcgbmmalfbpjaaaGreatDoorMl
set_option maxRecDepth 100000
set_option maxHeartbeats 16000000
namespace Go.Proofs.YtcgbmmalfbpjaaaGreatDoor
def wholeD (k:JV) (way:Nat):D:=(roundR (takenE k.g k.ls.length (Num.worth k.ls) k.e) (takenD k.g k.ls.length (Num.worth k.ls) k.e) way).1
def wholeJ (k:JV) (way:Nat):Int × Nat :=
 intR (takenE (wholeD k way).neg (Num.limbs (wholeD k way).m).length (Num.worth (Num.limbs (wholeD k way).m)) (wholeD k way).e)
  (takenD (wholeD k way).neg (Num.limbs (wholeD k way).m).length (Num.worth (Num.limbs (wholeD k way).m)) (wholeD k way).e)
theorem wU (er:Nat)(d:D):-9007199254740992≤(intR er d).1∧(intR er d).1≤9007199254740992∧((intR er d).2≠0→(intR er d).1=0):=by
 unfold intR
 split
 ·simp
 ·split
  ·simp
  ·split
   ·simp
   ·split
    ·simp
    ·dsimp only
     refine⟨?_,?_,fun h=>absurd rfl h⟩
     ·split<;>omega
     ·split<;>omega
theorem jS (k:JV)(way:Nat):-9007199254740992≤(wholeJ k way).1∧(wholeJ k way).1≤9007199254740992∧((wholeJ k way).2≠0→(wholeJ k way).1=0):=wU _ _
def startK:List UInt8:=[115,116,97,114,116]
def endK:List UInt8:=[101,110,100]
def edgeB (v:JV):Bool:=decide (v.kind=0) || decide (v.kind=3)
inductive StepJ where
 | none
 | key (s:List UInt8)
 | idx (k:JV)
 | slc (a b:JV)
def readF:List Fld→JV × JV→Option (JV × JV)
 | [],s=>some s
 | (k,x) :: l,(a,b)=>if edgeB x=true then (if k=startK then readF l (x,b) else if k=endK then readF l (a,x) else none) else none
def readS (k:JV):StepJ :=
 if k.kind=4 then .key k.s else if k.kind=3 then .idx k else
  if k.kind=6∧k.obj.length=2 then (match readF k.obj (.null,.null) with | some s=>.slc s.1 s.2 | none=>.none) else .none
def atJ (k:JV) (n:Nat):Int × Nat:=(if (wholeJ k 1).1<0 then (wholeJ k 1).1+n else (wholeJ k 1).1,(wholeJ k 1).2)
def withinJ (i:Int) (n:Nat):Nat:=(max 0 (min (if i<0 then i+n else i) n)).toNat
theorem Ae (i:Int)(n:Nat):withinJ i n≤n:=by unfold withinJ;omega
def boundJ (v:JV) (way n none:Nat):Nat × Nat:=if v.kind=0 then (none,0) else if (wholeJ v way).2≠0 then (0,(wholeJ v way).2) else (withinJ (wholeJ v way).1 n,0)
def boundsJ (a b:JV) (n:Nat):Nat × Nat × Nat :=
 if (boundJ a 1 n 0).2≠0 then (0,0,(boundJ a 1 n 0).2) else ((boundJ a 1 n 0).1,max (boundJ a 1 n 0).1 (boundJ b 2 n n).1,(boundJ b 2 n n).2)
theorem uK (v:JV)(way n:Nat):(boundJ v way n 0).1≤n∧(boundJ v way n n).1≤n:=by
 unfold boundJ
 have:=Ae (wholeJ v way).1 n
 split
 ·simp
 ·split<;>simp<;>omega
theorem dW (a b:JV)(n:Nat):(boundsJ a b n).1≤(boundsJ a b n).2.1∧(boundsJ a b n).2.1≤n:=by
 have h1:=(uK a 1 n).1
 have h2:=(uK b 2 n).2
 unfold boundsJ
 split
 ·simp
 ·dsimp only
  omega
def arrJ (l:List JV):JV:=.mk 5 false [] 0 [] l []
def textJ2 (s:List UInt8):JV:=.mk 4 false [] 0 s [] []
def takeS (v:JV):StepJ→JV × Nat
 | .key s=>if v.kind=6∨v.kind=0 then ((getO s v.obj).getD .null,0) else (.null,9)
 | .idx k=>if v.kind=0 then (v,0) else if v.kind=5 then (if (atJ k v.arr.length).2≠0 then (.null,(atJ k v.arr.length).2) else if 0≤(atJ k v.arr.length).1∧(atJ k v.arr.length).1<v.arr.length then (v.arr.getD (atJ k v.arr.length).1.toNat .null,0) else (.null,0)) else (.null,9)
 | .slc a b =>
  if v.kind=0 then (v,0)
  else if v.kind=5 then (if (boundsJ a b v.arr.length).2.2≠0 then (.null,(boundsJ a b v.arr.length).2.2) else (arrJ ((v.arr.take (boundsJ a b v.arr.length).2.1).drop (boundsJ a b v.arr.length).1),0))
  else if v.kind=4 then (if (boundsJ a b (pts v.s).length).2.2≠0 then (.null,(boundsJ a b (pts v.s).length).2.2) else (textJ2 (u8L (encs (((pts v.s).take (boundsJ a b (pts v.s).length).2.1).drop (boundsJ a b (pts v.s).length).1))),0))
  else (.null,9)
 | .none=>(.null,9)
def takeJ (v k:JV):JV × Nat:=takeS v (readS k)
def goJ:JV→List JV→JV × Nat
 | v,[]=>(v,0)
 | v,k :: p=>if (takeJ v k).2≠0 then (.null,(takeJ v k).2) else goJ (takeJ v k).1 p
theorem aK:SmallV .null:=.mk _ (by simp[JV.null,JV.arr]) (by simp[JV.null,JV.obj]) (by simp[JV.null,JV.s]) (by simp[JV.null,JV.arr]) (by simp[JV.null,JV.obj]) (by simp[JV.null,JV.obj])
theorem nP {key:List UInt8}:∀{l:List Fld} {x:JV},getO key l=some x→(key,x) ∈ l
 | (k,y) :: l,x,h=>by
  unfold getO at h
  by_cases hk:k=key
  ·rw[if_pos hk] at h
   obtain rfl:=Option.some.inj h
   subst hk
   exact List.mem_cons_self ..
  ·rw[if_neg hk] at h
   exact List.mem_cons_of_mem _ (nP h)
theorem Dc (ps:List Nat)(a b:Nat)(hp:∀p ∈ ps,isPt p):soundB (u8L (encs ((ps.take b).drop a)))=true:=by
 have hq:∀p ∈ (ps.take b).drop a,isPt p:=fun p h=>hp p (List.mem_of_mem_take (List.mem_of_mem_drop h))
 unfold soundB
 rw[decide_eq_true_eq,Df _ (yI _ hq),nR _ hq]
 unfold u8L
 rw[List.length_map]
theorem qU {l:List JV}(h:∀x ∈ l,mayJ 199 x=true):mayJ 200 (arrJ l)=true:=by
 rw[bC]
 refine⟨⟨⟨?_,h⟩,?_⟩,?_⟩
 ·simp[baseB,arrJ,JV.kind,JV.g,JV.ls,JV.e,JV.s,JV.arr,JV.obj]
 ·intro x hx;simp[arrJ,JV.obj] at hx
 ·simp[arrJ,JV.obj]
theorem Dh {s:List UInt8}(h:soundB s=true):mayJ 200 (textJ2 s)=true:=by
 refine fE ?_ (by simp[textJ2,JV.kind])
 simp[baseB,textJ2,JV.kind,JV.g,JV.ls,JV.e,JV.s,JV.arr,JV.obj,h]
theorem Di {v:JV}(h:mayJ 200 v=true)(s:StepJ):mayJ 200 (takeS v s).1=true:=by
 have hn:=bK 200
 have hs:=bC.1 h
 cases s with
 | none=>exact hn
 | key s =>
  unfold takeS
  dsimp only
  split
  ·cases hg:getO s v.obj with
   | none=>exact hn
   | some x=>exact nS _ _ (hs.1.2 _ (nP hg)).2
  ·exact hn
 | idx k =>
  unfold takeS
  dsimp only
  split
  ·exact h
  ·split
   ·split
    ·exact hn
    ·split
     ·rename_i hr
      have hlt:(atJ k v.arr.length).1.toNat<v.arr.length:=by omega
      dsimp only
      rw[List.getD_eq_getElem?_getD,List.getElem?_eq_getElem hlt]
      exact nS _ _ (hs.1.1.2 _ (List.getElem_mem hlt))
     ·exact hn
   ·exact hn
 | slc a b =>
  unfold takeS
  dsimp only
  split
  ·exact h
  ·split
   ·split
    ·exact hn
    ·exact qU fun x hx=>hs.1.1.2 x (List.mem_of_mem_take (List.mem_of_mem_drop hx))
   ·split
    ·split
     ·exact hn
     ·exact Dh (Dc _ _ _ (wV _ _ (Nat.le_refl _)))
    ·exact hn
theorem ed {v:JV}(h:SmallV v)(s:StepJ)(hs:v.kind=4→soundB v.s=true):SmallV (takeS v s).1:=by
 cases s with
 | none=>exact aK
 | key s =>
  unfold takeS
  dsimp only
  split
  ·cases hg:getO s v.obj with
   | none=>exact aK
   | some x=>exact h.flds _ (nP hg)
  ·exact aK
 | idx k =>
  unfold takeS
  dsimp only
  split
  ·exact h
  ·split
   ·split
    ·exact aK
    ·split
     ·rename_i hr
      have hlt:(atJ k v.arr.length).1.toNat<v.arr.length:=by omega
      dsimp only
      rw[List.getD_eq_getElem?_getD,List.getElem?_eq_getElem hlt]
      exact h.arr _ (List.getElem_mem hlt)
     ·exact aK
   ·exact aK
 | slc a b =>
  unfold takeS
  dsimp only
  split
  ·exact h
  ·split
   ·split
    ·exact aK
    ·have ha:v.arr.length≤1048576:=by cases h;assumption
     refine .mk _ ?_ (by simp[arrJ,JV.obj]) (by simp[arrJ,JV.s]) ?_ (by simp[arrJ,JV.obj]) (by simp[arrJ,JV.obj])
     ·show ((v.arr.take _).drop _).length≤_
      rw[List.length_drop,List.length_take]
      omega
     ·intro x hx
      exact h.arr x (List.mem_of_mem_take (List.mem_of_mem_drop hx))
   ·split
    ·rename_i h4
     split
     ·exact aK
     ·have hl:v.s.length≤1048576:=by cases h;assumption
      obtain⟨ps,hp,he⟩:=wW (hs h4)
      have hpe:=uM ps v.s hp he
      refine .mk _ (by simp[textJ2,JV.arr]) (by simp[textJ2,JV.obj]) ?_ (by simp[textJ2,JV.arr]) (by simp[textJ2,JV.obj]) (by simp[textJ2,JV.obj])
      show (u8L (encs _)).length≤_
      rw[hpe]
      unfold u8L
      rw[List.length_map]
      have h1:(encs ps).length=v.s.length:=by rw[←he,dJ]
      have h2:∀a b,(encs ((ps.take b).drop a)).length≤(encs ps).length:=by
       intro a b
       have e1:encs ps=encs (ps.take b) ++ encs (ps.drop b):=by rw[←mi,List.take_append_drop]
       have e2:encs (ps.take b)=encs ((ps.take b).take a) ++ encs ((ps.take b).drop a):=by rw[←mi,List.take_append_drop]
       rw[e1,e2,List.length_append,List.length_append]
       omega
      have:=h2 (boundsJ a b ps.length).1 (boundsJ a b ps.length).2.1
      omega
    ·exact aK
def putJ (l:List JV) (s:StepJ) (z:JV):List JV × Nat :=
 match s with
 | .idx k=>if (atJ k l.length).2≠0 then ([],(atJ k l.length).2) else if (atJ k l.length).1<0 then ([],3) else if 65536≤(atJ k l.length).1 then ([],10)
   else ((l ++ List.replicate ((atJ k l.length).1.toNat+1-l.length) JV.null).set (atJ k l.length).1.toNat z,0)
 | .slc a b=>if z.kind≠5 then ([],9) else if (boundsJ a b l.length).2.2≠0 then ([],(boundsJ a b l.length).2.2) else (l.take (boundsJ a b l.length).1 ++ (z.arr ++ l.drop (boundsJ a b l.length).2.1),0)
 | _=>([],9)
def layS (v:JV) (s:StepJ) (z:JV):JV × Nat :=
 match s with
 | .key t=>withR v t z
 | s=>if v.kind≠0∧v.kind≠5 then (.null,9) else if (putJ v.arr s z).2≠0 then (.null,(putJ v.arr s z).2) else if 200<depthJ 200 (arrJ (putJ v.arr s z).1) then (.null,6) else (arrJ (putJ v.arr s z).1,0)
def layJ (v k z:JV):JV × Nat:=layS v (readS k) z
def setJ:JV→List JV→JV→JV × Nat
 | _,[],x=>(x,0)
 | v,k :: p,x=>if (takeJ v k).2≠0 then (.null,(takeJ v k).2) else if (setJ (takeJ v k).1 p x).2≠0 then (.null,(setJ (takeJ v k).1 p x).2) else layJ v k (setJ (takeJ v k).1 p x).1
def cutJ (l:List JV) (s:StepJ):Nat × Nat × Nat :=
 match s with
 | .idx k=>if (atJ k l.length).2≠0 then (0,0,(atJ k l.length).2) else if 0≤(atJ k l.length).1∧(atJ k l.length).1<l.length then ((atJ k l.length).1.toNat,(atJ k l.length).1.toNat+1,0) else (0,0,0)
 | .slc a b=>boundsJ a b l.length
 | _=>(0,0,9)
def isNone:StepJ→Bool
 | .none=>true
 | _=>false
def withoutS (v:JV) (s:StepJ):JV × Nat :=
 if v.kind=0∧isNone s=false then (v,0) else
 match s with
 | .key t=>withoutR v t
 | s=>if v.kind≠5 then (.null,9) else if (cutJ v.arr s).2.2≠0 then (.null,(cutJ v.arr s).2.2) else (arrJ (v.arr.take (cutJ v.arr s).1 ++ v.arr.drop (cutJ v.arr s).2.1),0)
def goneJ:JV→List JV→JV × Nat
 | _,[]=>(.null,0)
 | v,[k]=>withoutS v (readS k)
 | v,k :: k2 :: p=>if (takeJ v k).2≠0∨(takeJ v k).1.kind=0 then (v,(takeJ v k).2) else if (goneJ (takeJ v k).1 (k2 :: p)).2≠0 then (.null,(goneJ (takeJ v k).1 (k2 :: p)).2) else layJ v k (goneJ (takeJ v k).1 (k2 :: p)).1
def delJ:JV→Option JV→List JV→JV × Nat
 | v,_,[]=>(v,0)
 | v,q,p :: l=>if (∃x,q=some x∧orderJ 201 p x=0) then delJ v (some p) l else if (goneJ v p.arr).2≠0 then (.null,(goneJ v p.arr).2) else delJ (goneJ v p.arr).1 (some p) l
open Classical in
def deleteJ (v:JV) (ps:List (List JV)):JV × Nat :=
 if ¬ ((∀p ∈ ps,∀x ∈ p,mayJ 200 x=true)∧mayJ 200 v=true∧(∀p ∈ ps,mayJ 200 (arrJ p)=true)) then (.null,1) else delJ v none (sortS (orderJ 201) (ps.map arrJ)).reverse
def stepJ (v k:JV):JV × Nat:=if mayJ 200 v=true∧mayJ 200 k=true then takeJ v k else (.null,1)
def getPJ (v:JV) (p:List JV):JV × Nat:=if mayJ 200 v=true∧(∀x ∈ p,mayJ 200 x=true) then goJ v p else (.null,1)
def setPJ (v:JV) (p:List JV) (x:JV):JV × Nat:=if mayJ 200 v=true∧mayJ 200 x=true∧(∀x ∈ p,mayJ 200 x=true) then setJ v p x else (.null,1)
theorem jr:∀(m:Nat) (v:JV),depthJ m v≤m→depthJ (m+1) v≤m
 | 0,v,h=>by
  by_cases hk:v.kind=5∨v.kind=6
  ·simp only[depthJ] at h
   rw[if_pos hk] at h
   omega
  ·rw[bV hk]
   exact Nat.le_refl _
 | m+1,v,h=>by
  by_cases hk:v.kind=5∨v.kind=6
  ·have h2:=(fB hk).1 h
   exact (fB hk).2 ⟨fun x hx=>jr m x (h2.1 x hx),fun x hx=>jr m x.2 (h2.2 x hx)⟩
  ·rw[bV hk]
   exact Nat.zero_le _
theorem Dj {l:List JV}(h:∀x ∈ l,mayJ 200 x=true)(hd:¬ 200<depthJ 200 (arrJ l)):mayJ 200 (arrJ l)=true:=by
 refine qU fun x hx=>?_
 have h1:depthJ 200 (arrJ l)≤200:=by omega
 have h2:=((fB (m:=199) (B:=199) (v:=arrJ l) (Or.inl rfl)).1 h1).1 x hx
 exact jT 199 200 x (h x hx) (by omega) (jr 199 x h2)
theorem yJ {l:List JV}{s:StepJ}{z x:JV}(h:x ∈ (putJ l s z).1):x ∈ l∨x=JV.null∨x=z∨x ∈ z.arr:=by
 unfold putJ at h
 split at h
 ·split at h
  ·cases h
  ·split at h
   ·cases h
   ·split at h
    ·cases h
    ·rcases List.mem_or_eq_of_mem_set h with h | h
     ·rcases List.mem_append.1 h with h | h
      ·exact Or.inl h
      ·exact Or.inr (Or.inl (List.eq_of_mem_replicate h))
     ·exact Or.inr (Or.inr (Or.inl h))
 ·split at h
  ·cases h
  ·split at h
   ·cases h
   ·rcases List.mem_append.1 h with h | h
    ·exact Or.inl (List.mem_of_mem_take h)
    ·rcases List.mem_append.1 h with h | h
     ·exact Or.inr (Or.inr (Or.inr h))
     ·exact Or.inl (List.mem_of_mem_drop h)
 ·cases h
theorem jC {v:JV}(h:mayJ 200 v=true):∀x ∈ v.arr,mayJ 200 x=true:=fun x hx=>nS _ _ ((bC.1 h).1.1.2 x hx)
theorem Dk {l:List JV}{s:StepJ}{z:JV}(hl:∀x ∈ l,mayJ 200 x=true)(hz:mayJ 200 z=true)(hd:¬ 200<depthJ 200 (arrJ (putJ l s z).1)):mayJ 200 (arrJ (putJ l s z).1)=true:=by
 refine Dj (fun x hx=>?_) hd
 rcases yJ hx with h | h | h | h
 ·exact hl x h
 ·rw[h];exact bK _
 ·rw[h];exact hz
 ·exact jC hz x h
theorem qV {v:JV}{s:StepJ}{z:JV}(P:JV→Prop)(hn:P .null)(hk:∀t,s=.key t→(withR v t z).2=0→P (withR v t z).1)(hk2:∀t,(withR v t z).2≠0→P (withR v t z).1)
  (ha:∀l,(v.kind=0∨v.kind=5)→l=(putJ v.arr s z).1→(putJ v.arr s z).2=0→¬ 200<depthJ 200 (arrJ l)→P (arrJ l)):P (layS v s z).1:=by
 cases s with
 | key t =>
  unfold layS
  dsimp only
  by_cases h:(withR v t z).2=0
  ·exact hk t rfl h
  ·exact hk2 t h
 | _ =>
  unfold layS
  dsimp only
  split
  ·exact hn
  ·split
   ·exact hn
   ·split
    ·exact hn
    ·rename_i h1 h2 h3
     exact ha _ (by omega) rfl (by simpa using h2) h3
theorem nT {v x:JV}{t:List UInt8}(h:(withR v t x).2≠0):(withR v t x).1=.null:=by
 unfold withR at h ⊢
 split
 ·rfl
 ·split
  ·rfl
  ·split
   ·rfl
   ·rename_i h1 h2 h3
    rw[if_neg h1,if_neg h2,if_neg h3] at h
    exact absurd rfl h
theorem Eo {v:JV}{s:StepJ}{z:JV}(hv:mayJ 200 v=true)(hz:mayJ 200 z=true):mayJ 200 (layS v s z).1=true:=by
 refine qV (fun x=>mayJ 200 x=true) (bK _) ?_ ?_ ?_
 ·intro t _ h
  have h1:=qX (v:=v) (x:=z) (k:=t) (a:=(withR v t z).1) (by rw[←h])
  rw[h1.2.2.2.2.2]
  exact Ep hv h1.2.2.2.2.1 h1.2.2.1
 ·intro t h
  rw[nT h]
  exact bK _
 ·rintro l _ rfl _ hd
  exact Dk (jC hv) hz hd
theorem dV {v k:JV}(hv:mayJ 200 v=true):mayJ 200 (takeJ v k).1=true:=Di hv _
theorem uN {v:JV}{s:StepJ}(hv:mayJ 200 v=true):mayJ 200 (withoutS v s).1=true:=by
 unfold withoutS
 split
 ·exact hv
 ·split
  ·unfold withoutR
   split
   ·exact bK _
   ·split
    ·exact bK _
    ·split
     ·exact bK _
     ·have h:=bC.1 hv
      exact Es (o:=v.obj) (lT.2 ⟨h.1.2,h.2⟩)
  ·split
   ·exact bK _
   ·split
    ·exact bK _
    ·refine qU fun x hx=>(bC.1 hv).1.1.2 x ?_
     rcases List.mem_append.1 hx with h | h
     ·exact List.mem_of_mem_take h
     ·exact List.mem_of_mem_drop h
theorem mG:∀{p:List JV} {v:JV},mayJ 200 v=true→mayJ 200 (goneJ v p).1=true
 | [],v,_=>bK _
 | [k],v,hv=>uN hv
 | k :: k2 :: p,v,hv=>by
  unfold goneJ
  split
  ·exact hv
  ·split
   ·exact bK _
   ·exact Eo hv (mG (dV hv))
theorem fA {l:List JV}(h1:l.length≤1048576)(h2:∀x ∈ l,SmallV x):SmallV (arrJ l) :=
 .mk _ h1 (by simp[arrJ,JV.obj]) (by simp[arrJ,JV.s]) h2 (by simp[arrJ,JV.obj]) (by simp[arrJ,JV.obj])
theorem iK {o:List Fld}(h1:o.length≤1048576)(h2:∀p ∈ o,p.1.length≤1048576∧SmallV p.2):SmallV (objV o) :=
 .mk _ (by simp[objV,JV.arr]) h1 (by simp[objV,JV.s]) (by simp[objV,JV.arr]) (fun p hp=>(h2 p hp).1) (fun p hp=>(h2 p hp).2)
theorem SmallV.al {v:JV}(h:SmallV v):v.arr.length≤1048576:=by cases h;assumption
theorem SmallV.sl {v:JV}(h:SmallV v):v.s.length≤1048576:=by cases h;assumption
theorem SmallV.keys {v:JV}(h:SmallV v):∀p ∈ v.obj,p.1.length≤1048576:=by cases h;assumption
theorem yK {v k z:JV}{b:Nat}(hv:mayJ 200 v=true)(hk:v.kind=0∨v.kind=5)(h:(takeJ v k).2=0)(hz:z.arr.length≤(takeJ v k).1.arr.length+b)(hp:(putJ v.arr (readS k) z).2=0) :
  (putJ v.arr (readS k) z).1.length≤v.arr.length+max b (if (takeJ v k).1.kind=0 then 65536 else 0):=by
 unfold takeJ at h hz ⊢
 generalize readS k=s at h hz hp ⊢
 cases s with
 | none=>simp[putJ]
 | key t=>simp[putJ]
 | idx n =>
  simp only[putJ] at hp ⊢
  split
  ·simp
  ·split
   ·simp
   ·split
    ·simp
    ·rename_i h1 h2 h3
     dsimp only
     simp only[List.length_set,List.length_append,List.length_replicate]
     by_cases hi:(atJ n v.arr.length).1<v.arr.length
     ·split<;>omega
     ·have e:(takeS v (.idx n)).1.kind=0:=by
       unfold takeS
       dsimp only
       split
       ·assumption
       ·have h5:v.kind=5:=by omega
        have h6:¬ (0≤(atJ n v.arr.length).1∧(atJ n v.arr.length).1<(v.arr.length:Int)):=fun h=>hi h.2
        rw[if_pos h5]
        first
         | (rw[if_neg h6];rfl)
         | (rw[if_neg h1,if_neg h6];rfl)
      rw[if_pos e]
      omega
 | slc n m =>
  simp only[putJ] at hp ⊢
  split
  ·simp
  ·split
   ·simp
   ·rename_i h1 h2
    dsimp only
    have hb:=dW n m v.arr.length
    simp only[List.length_append,List.length_take,List.length_drop]
    have e:(takeS v (.slc n m)).1.arr.length≤(boundsJ n m v.arr.length).2.1-(boundsJ n m v.arr.length).1:=by
     unfold takeS
     dsimp only
     by_cases h0:v.kind=0
     ·rw[if_pos h0]
      have:=jM (fG hv) (by omega)
      simp[this]
     ·rw[if_neg h0,if_pos (by omega),if_neg h2]
      show ((v.arr.take _).drop _).length≤_
      rw[List.length_drop,List.length_take]
      omega
    omega
theorem fQ:∀{p:List JV} {v:JV},mayJ 200 v=true→SmallV v→(∀k ∈ p,SmallV k)→SmallV (goneJ v p).1∧(goneJ v p).1.arr.length≤v.arr.length
 | [],v,_,_,_=>⟨aK,Nat.zero_le _⟩
 | [k],v,hv,sv,_=>by
  show SmallV (withoutS v (readS k)).1∧_
  unfold goneJ
  generalize readS k=s
  unfold withoutS
  split
  ·exact⟨sv,Nat.le_refl _⟩
  ·split
   ·unfold withoutR
    split
    ·exact⟨aK,Nat.zero_le _⟩
    ·split
     ·exact⟨aK,Nat.zero_le _⟩
     ·split
      ·exact⟨aK,Nat.zero_le _⟩
      ·refine⟨iK (Nat.le_trans (List.length_filter_le _ _) sv.obj) fun q hq=>?_,Nat.zero_le _⟩
       have:=(List.mem_filter.1 hq).1
       exact⟨sv.keys q this,sv.flds q this⟩
   ·split
    ·exact⟨aK,Nat.zero_le _⟩
    ·split
     ·exact⟨aK,Nat.zero_le _⟩
     ·rename_i h1 h2
      have hc:(cutJ v.arr s).1≤(cutJ v.arr s).2.1:=by
       unfold cutJ
       split
       ·split
        ·simp
        ·split<;>simp
       ·exact (dW _ _ _).1
       ·simp
      have hl:(v.arr.take (cutJ v.arr s).1 ++ v.arr.drop (cutJ v.arr s).2.1).length≤v.arr.length:=by
       rw[List.length_append,List.length_take,List.length_drop]
       omega
      refine⟨fA (Nat.le_trans hl sv.al) fun x hx=>?_,hl⟩
      rcases List.mem_append.1 hx with h | h
      ·exact sv.arr x (List.mem_of_mem_take h)
      ·exact sv.arr x (List.mem_of_mem_drop h)
 | k :: k2 :: p,v,hv,sv,hp=>by
  unfold goneJ
  split
  ·exact⟨sv,Nat.le_refl _⟩
  ·split
   ·exact⟨aK,Nat.zero_le _⟩
   ·rename_i h1 h2
    have ht0:(takeJ v k).2=0:=Classical.not_not.1 fun h=>h1 (Or.inl h)
    have ht1:¬ (takeJ v k).1.kind=0:=fun h=>h1 (Or.inr h)
    have IH:=fQ (p:=k2 :: p) (dV (k:=k) hv) (ed sv (readS k) fun h4=>by
     have:=fG hv
     simp only[baseB,Bool.and_eq_true] at this
     have h3:=this.1.1.2
     rw[if_pos h4] at h3
     exact h3) (fun x hx=>hp x (List.mem_cons_of_mem _ hx))
    generalize (goneJ (takeJ v k).1 (k2 :: p)).1=z at IH
    unfold layJ
    refine qV (fun x=>SmallV x∧x.arr.length≤v.arr.length) ⟨aK,Nat.zero_le _⟩ ?_ ?_ ?_
    ·intro t hr h
     have h1:=qX (v:=v) (x:=z) (k:=t) (a:=(withR v t z).1) (by rw[←h])
     rw[h1.2.2.2.2.2]
     unfold takeJ at ht0 ht1
     rw[hr] at ht0 ht1
     unfold takeS at ht0 ht1
     dsimp only at ht0 ht1
     rw[if_pos h1.2.2.2.1] at ht0 ht1
     cases hg:getO t v.obj with
     | none=>rw[hg] at ht1;exact absurd rfl ht1
     | some y =>
      have hm:=yL hg
      have hh:hasO t v.obj=true:=uO.2 (List.mem_map_of_mem (f:=(·.1)) hm)
      have hkl:=uP t z v.obj
      rw[if_pos hh] at hkl
      have hlen:(setO t z v.obj).length=v.obj.length:=by have:=congrArg List.length hkl;simpa using this
      refine⟨iK (by rw[hlen];exact sv.obj) fun q hq=>?_,Nat.zero_le _⟩
      rcases yM hq with h | h
      ·rw[h]
       exact⟨sv.keys (t,y) hm,IH.1⟩
      ·exact⟨sv.keys q h,sv.flds q h⟩
    ·intro t h
     rw[nT h]
     exact⟨aK,Nat.zero_le _⟩
    ·rintro l hk rfl hp0 hd
     have hl:=yK (b:=0) hv hk ht0 (by simpa using IH.2) hp0
     rw[if_neg ht1] at hl
     replace hl:(putJ v.arr (readS k) z).1.length≤v.arr.length:=by omega
     refine⟨fA (Nat.le_trans hl sv.al) fun x hx=>?_,hl⟩
     rcases yJ hx with h | h | h | h
     ·exact sv.arr x h
     ·rw[h];exact aK
     ·rw[h];exact IH.1
     ·exact IH.1.arr x h
theorem yN:∀{p:List JV} {v x:JV},mayJ 200 v=true→(setJ v p x).1.arr.length≤v.arr.length+(x.arr.length+65536)
 | [],v,x,_=>by show x.arr.length≤_;omega
 | k :: p,v,x,hv=>by
  unfold setJ
  split
  ·exact Nat.zero_le _
  ·split
   ·exact Nat.zero_le _
   ·rename_i h1 h2
    have ht0:(takeJ v k).2=0:=Classical.not_not.1 h1
    have IH:=yN (p:=p) (x:=x) (dV (k:=k) hv)
    have IHk:∀{z:JV},z=(setJ (takeJ v k).1 p x).1→z.arr.length≤(takeJ v k).1.arr.length+(x.arr.length+65536):=fun e=>by rw[e];exact IH
    generalize hz:(setJ (takeJ v k).1 p x).1=z at IH
    unfold layJ
    refine qV (fun y=>y.arr.length≤v.arr.length+(x.arr.length+65536)) (Nat.zero_le _) ?_ ?_ ?_
    ·intro t hr h
     have h1:=qX (v:=v) (x:=z) (k:=t) (a:=(withR v t z).1) (by rw[←h])
     rw[h1.2.2.2.2.2]
     exact Nat.zero_le _
    ·intro t h
     rw[nT h]
     exact Nat.zero_le _
    ·rintro l hk rfl hp0 hd
     show (putJ v.arr (readS k) z).1.length≤_
     have hl:=yK (b:=x.arr.length+65536) hv hk ht0 IH hp0
     split at hl<;>omega
end Go.Proofs.YtcgbmmalfbpjaaaGreatDoor

namespace Go.Proofs.YtcgbmmalfbpjaaaGreatDoor
open Go.RowKit
def OutW (w:World) (d:D) (e:Ending) (w':World):Prop:=∃b cap er,e=.returned (.tuple #[.agg #[.bool d.neg,.slice b (Num.limbs d.m).length cap,.int .i64 d.e],.int .i64 er])∧Below w.heap.size w w'∧U32 w' b (Num.limbs d.m)
theorem OutDE.outW {w w':World}{d:D}{er:Nat}{e:Ending}(h:OutDE w d er e w'):OutW w d e w':=by
 obtain⟨b,cap,rfl,h⟩:=h
 exact⟨b,cap,er,rfl,h.1,aS h.2⟩
theorem yO (k:JV)(a:Option Addr)(c:Nat)(W:World)(h:U32 W a k.ls)(hp:Pow W):Calls Tryz.prog 121 #[.agg #[.bool k.g,.slice a k.ls.length c,.int .i64 k.e]] W (OutW W (wholeD k 1)) :=
 (wX k.g a c k.e k.ls W h hp).mono fun _ _ h=>h.outW
theorem Fg (k:JV)(a:Option Addr)(c:Nat)(W:World)(h:U32 W a k.ls)(hp:Pow W):Calls Tryz.prog 164 #[.agg #[.bool k.g,.slice a k.ls.length c,.int .i64 k.e]] W (OutW W (wholeD k 2)) :=
 (Af k.g a c k.e k.ls W h hp).mono fun _ _ h=>h.outW
theorem EX (k:JV)(way:Nat)(b:Option Addr)(cap:Nat)(W:World)(h:U32 W b (Num.limbs (wholeD k way).m))(hp:Pow W) :
  Calls Tryz.prog 122 #[.agg #[.bool (wholeD k way).neg,.slice b (Num.limbs (wholeD k way).m).length cap,.int .i64 (wholeD k way).e]] W fun e w'=>e=.returned (.tuple #[.int .i64 (wholeJ k way).1,.int .i64 ((wholeJ k way).2:Nat)])∧Below W.heap.size W w' :=
 Dl (wholeD k way).neg b cap (wholeD k way).e _ W h hp
theorem mP (k:JV)(a:Option Addr)(c n:Nat)(w:World)(h:U32 w a k.ls)(hn:n≤1152921504606846976)(htab:Pow w) :
  Calls Tryz.prog 78 #[.agg #[.bool k.g,.slice a k.ls.length c,.int .i64 k.e],.int .i64 n] w fun e w'=>e=.returned (.tuple #[.int .i64 (atJ k n).1,.int .i64 ((atJ k n).2:Nat)])∧Below w.heap.size w w':=by
 have CF:=hid (fun W (hb:Below w.heap.size w W)=>yO k a c W (h.below hb) (htab.next hb))
 have CI:=hid (fun W b cap (hb:Below w.heap.size w W) hu=>EX k 1 b cap W hu (htab.next hb))
 have hr:=jS k 1
 obtain⟨r,hR⟩:∃r,r=atJ k n:=⟨_,rfl⟩
 rw[←hR]
 unfold atJ at hR
 generalize wholeJ k 1=q at *
 generalize wholeD k 1=d at *
 generalize k.g=g at *
 generalize k.ls.length=m at *
 generalize k.e=e at *
 replace hR:=hid hR
 obtain⟨q,er⟩:=q
 simp only at hr hR
 obtain⟨h1,h2,_⟩:=hr
 clear h htab
 unfold OutW at CF
 generalize (Num.limbs d.m).length=dl at *
 generalize d.neg=dn at *
 generalize d.e=de at *
 go_enter Tryz.func78,Tryz.ntmps78
 go_wp2_with fail
 refine (CF.out _ ((Below.refl _ _).alloc (Nat.le_refl _) _)).mono ?_
 rintro en w1 ⟨b,cap,er1,rfl,hb1,hu1⟩
 have hb2:=hid (ae ((Below.refl _ _).alloc (Nat.le_refl _) _) hb1)
 replace hu1:=hid hu1
 clear hb1
 go_wp2_with fail
 have hbA:=hid (hb2.out.alloc hb2.out.size (.cells #[.bool dn,.slice b dl cap,.int .i64 de] 24))
 refine (CI.out _ b cap hbA.out (hu1.out.below ((Below.refl w1.heap.size w1).alloc (Nat.le_refl _) _))).mono ?_
 rintro en w2 ⟨rfl,hb⟩
 have hb3:=hid (ae hbA.out hb)
 clear hb hu1 hb2 hbA CF CI
 by_cases hq:q<0
 ·have hR2:Hid (r=(q+n,er)):=by rw[hR.out,if_pos hq];rfl
  have hw:IntKind.i64.wrap (q+(n:Int))=q+(n:Int):=IntWalk.i64_in _ (by omega)
  clear hR
  go_wp2_with fail
  go_ret2
  rw[hR2.out]
  exact⟨by first | rfl | (rw[hw]),hb3.out⟩
 ·have hR2:Hid (r=(q,er)):=by rw[hR.out,if_neg hq];rfl
  clear hR
  go_wp2_with fail
  go_ret2
  rw[hR2.out]
  exact⟨rfl,hb3.out⟩
theorem Gh (i:Int)(n:Nat):((withinJ i n:Nat):Int)=max 0 (min (if i<0 then i+n else i) n):=by unfold withinJ;omega
theorem lC (v:JV)(cs:List Value)(up:Bool)(n none:Nat)(w:World)(rv:RdV w cs v)(hn:n≤1152921504606846976)(_hnn:none≤1152921504606846976)(htab:Pow w) :
  Calls Tryz.prog 123 #[.agg cs.toArray,.bool up,.int .i64 n,.int .i64 none] w fun e w'=>e=.returned (.tuple #[.int .i64 ((boundJ v (if up=true then 2 else 1) n none).1:Nat),.int .i64 ((boundJ v (if up=true then 2 else 1) n none).2:Nat)])∧Below w.heap.size w w':=by
 obtain⟨a,c,aa,ac,oa,oc,P⟩:=rv.parts
 have e:=P.cells
 subst e
 have CF:=hid (fun W (hb:Below w.heap.size w W)=>yO v a c W (P.u.below hb) (htab.next hb))
 have CC:=hid (fun W (hb:Below w.heap.size w W)=>Fg v a c W (P.u.below hb) (htab.next hb))
 have CI:=hid (fun way W b cap (hb:Below w.heap.size w W) hu=>EX v way b cap W hu (htab.next hb))
 have hr:=jS v
 obtain⟨r,hR⟩:∃r,r=boundJ v (if up=true then 2 else 1) n none:=⟨_,rfl⟩
 rw[←hR]
 unfold boundJ at hR
 have HB0:=hid ((Below.refl w.heap.size w).alloc (Nat.le_refl _) (.cells #[.int .i64 v.kind,.bool v.g,.slice a v.ls.length c,.int .i64 v.e,.string ⟨v.s.toArray⟩,.slice aa v.arr.length ac,.slice oa v.obj.length oc] 28))
 unfold valCs strV
 generalize wholeJ v=q at *
 generalize wholeD v=d at *
 generalize v.kind=kind at *
 generalize v.g=g at *
 generalize v.ls.length=m at *
 generalize v.e=e at *
 generalize (⟨v.s.toArray⟩:ByteArray)=sb at *
 generalize v.arr.length=an at *
 generalize v.obj.length=on at *
 replace hR:=hid hR
 unfold OutW at CF CC
 clear htab P rv
 by_cases h0:kind=0
 ·subst h0
  have hR2:Hid (r=(none,0)):=by rw[hR.out,if_pos rfl];rfl
  clear hR CF CC CI hr
  go_enter Tryz.func123,Tryz.ntmps123
  go_wp2_with fail
  go_ret2
  rw[hR2.out]
  exact⟨rfl,HB0.out⟩
 have f0:(kind == 0)=false:=by rw[beq_eq_false_iff_ne];exact h0
 have hR1:=hR.out
 rw[if_neg h0] at hR1
 clear hR h0
 obtain⟨way,hway⟩:∃way:Nat,way=(if up=true then 2 else 1):=⟨_,rfl⟩
 rw[←hway] at hR1
 have hr2:=hr way
 have CI2:=hid (CI.out way)
 have CR:Hid (∀W,Below w.heap.size w W→Calls Tryz.prog (if up=true then 164 else 121) #[.agg #[.bool g,.slice a m c,.int .i64 e]] W (fun e w'=>∃b cap er,e=.returned (.tuple #[.agg #[.bool (d way).neg,.slice b (Num.limbs (d way).m).length cap,.int .i64 (d way).e],.int .i64 er])∧Below W.heap.size W w'∧U32 w' b (Num.limbs (d way).m))):=by
  intro W hb
  cases up with
  | true=>rw[hway];exact CC.out W hb
  | false=>rw[hway];exact CF.out W hb
 clear hr CF CC CI hway
 generalize d way=d at *
 generalize q way=q at *
 generalize (Num.limbs d.m).length=dl at *
 generalize d.neg=dn at *
 generalize d.e=de at *
 obtain⟨q,er⟩:=q
 simp only at hr2 hR1
 obtain⟨h1,h2,_⟩:=hr2
 replace hR1:=hid hR1
 cases up
 all_goals
  simp only[if_true,if_false,Bool.false_eq_true] at CR
  go_enter Tryz.func123,Tryz.ntmps123
  go_wp2_with fail
  refine (CR.out _ HB0.out).mono ?_
  rintro en w1 ⟨b,cap,er1,rfl,hb1,hu1⟩
  have hb2:=hid (ae HB0.out hb1)
  replace hu1:=hid hu1
  clear hb1
  go_wp2_with fail
  have hbA:=hid (hb2.out.alloc hb2.out.size (.cells #[.bool dn,.slice b dl cap,.int .i64 de] 24))
  refine (CI2.out _ b cap hbA.out (hu1.out.below ((Below.refl w1.heap.size w1).alloc (Nat.le_refl _) _))).mono ?_
  rintro en w2 ⟨rfl,hb⟩
  have hb3:=hid (ae hbA.out hb)
  clear hb hu1 hb2 hbA CR CI2 HB0
  by_cases he:er=0
  ·subst he
   have hR3:=hR1.out
   rw[if_neg (by simp)] at hR3
   by_cases hq:q<0
   ·have hw:IntKind.i64.wrap (q+(n:Int))=q+(n:Int):=IntWalk.i64_in _ (by omega)
    have hmm:((r.1:Nat):Int)=max 0 (min (q+(n:Int)) n):=by rw[hR3];simp only[Gh,if_pos hq]
    have hr0:r.2=0:=by rw[hR3]
    replace hmm:=hid hmm
    clear hR3 hR1
    go_wp2_with fail
    go_ret2
    rw[hmm.out,hr0]
    exact⟨by first | rfl | (simp;omega) | (simp[hw];omega),hb3.out⟩
   ·have hmm:((r.1:Nat):Int)=max 0 (min q n):=by rw[hR3];simp only[Gh,if_neg hq]
    have hr0:r.2=0:=by rw[hR3]
    replace hmm:=hid hmm
    clear hR3 hR1
    go_wp2_with fail
    go_ret2
    rw[hmm.out,hr0]
    exact⟨by first | rfl | (simp;omega),hb3.out⟩
  ·have hne:((er:Int) != 0)=true:=by rw[bne_iff_ne];omega
   have hR3:=hR1.out
   rw[if_pos he] at hR3
   replace hR3:=hid hR3
   clear hR1 he
   go_wp2_with fail
   go_ret2
   rw[hR3.out]
   exact⟨rfl,hb3.out⟩
open Classical in
theorem bP (l:List JV)(a:Option Addr)(c:Nat)(w:World)(hl:RdA w a l)(hn:l.length≤1152921504606846976)(hT:Tabs w) :
  Calls Tryz.prog 26 #[.slice a l.length c] w fun e w'=>e=.returned (.bool (decide (∀x ∈ l,mayJ 200 x=true)))∧Below w.heap.size w w':=by
 have hM:=hid fun (x:JV) (cs:List Value) (W:World) (hb:Below w.heap.size w W) (r:RdV W cs x)=>bQ x cs W r (hT.below hb)
 obtain⟨n,hnd⟩:∃n,n=l.length:=⟨_,rfl⟩
 have hnB:=hid hnd
 rw[←hnd] at hn ⊢
 have hLd:=hid hl
 obtain⟨R,hR⟩:∃R,R=decide (∀x ∈ l,mayJ 200 x=true):=⟨_,rfl⟩
 have hno:=hid (show (¬ ∀x ∈ l,mayJ 200 x=true)→R=false from fun h=>by rw[hR];exact decide_eq_false h)
 have hyes:=hid (show (∀x ∈ l,mayJ 200 x=true)→R=true from fun h=>by rw[hR];exact decide_eq_true h)
 rw[←hR]
 clear hR hl hT hnd
 go_enter Tryz.func26,Tryz.ntmps26
 go_upto_region 2 with fail
 go_loopw [4,7] (fun _ v9 wr=>∃k:Nat,k≤n∧v9=.int .i64 k∧Hid (∀x ∈ l.take k,mayJ 200 x=true)∧Hid (Below w.heap.size w wr)) (fun _ v9 _=>n-(intOf v9).toNat)
 case atStart=>exact⟨0,Nat.zero_le _,rfl,hid (by simp),hid (Below.refl _ _)⟩
 case round =>
  obtain⟨k,hk,rfl,hA,hb⟩:=hrel
  by_cases hlt:k<n
  ·have hlt2:(k:Int)<(n:Int):=by omega
   have hk1:k<l.length:=by have:=hnB.out;omega
   obtain⟨b,off,a1,c1,aa1,ac1,oa1,oc1,rfl,P1,C1⟩:=(hLd.out.below hb.out).at hk1
   have rd:=P1.rd
   clear P1
   unfold Cells7 strV at C1
   obtain⟨x,hx⟩:∃x,x=l[k]:=⟨_,rfl⟩
   rw[←hx] at C1 rd
   have hM2:=hid (fun W' (hb':Below wr.heap.size wr W')=>hM.out x _ W' (ae hb.out hb') (rd.stay hb'))
   unfold valCs strV at hM2
   obtain⟨C10,C11,C12,C13,C14,C15,C16⟩:=C1
   generalize (⟨x.s.toArray⟩:ByteArray)=sb at hM2 C14
   have hl1:=ax C10
   obtain⟨d,hd⟩:∃d,d=mayJ 200 x:=⟨_,rfl⟩
   rw[←hd] at hM2
   have hxd:=hid (And.intro hx hd)
   have hst:=hid (show l.take (k+1)=l.take k ++ [x] by rw[List.take_succ_eq_append_getElem hk1,hx])
   clear hx hd rd
   cases d with
   | true =>
    have hA2:Hid (∀y ∈ l.take (k+1),mayJ 200 y=true):=by
     intro y hy
     rw[hst.out] at hy
     rcases List.mem_append.1 hy with h | h
     ·exact hA.out y h
     ·rw[List.mem_singleton.1 h];exact hxd.out.2.symm
    clear hA hst hxd hno hyes
    go_wp2_with fail
    refine (hM2.out _ ((Below.refl _ _).alloc (Nat.le_refl _) _)).mono ?_
    rintro en w1 ⟨rfl,hb1⟩
    have hb2:=hid (ae hb.out (ae ((Below.refl _ _).alloc (Nat.le_refl _) _) hb1))
    clear hb1 C10 C11 C12 C13 C14 C15 C16
    go_wp2_with fail
    go_roundw
    case rel=>exact⟨k+1,by omega,by go_num,hA2,hb2⟩
    case measure=>simp[intOf];omega
   | false =>
    have hnot:¬ ∀y ∈ l,mayJ 200 y=true:=by
     intro h
     have:=h x (by rw[hxd.out.1];exact List.getElem_mem hk1)
     rw[←hxd.out.2] at this
     cases this
    obtain rfl:=hno.out hnot
    clear hA hst hxd hno hyes hnot
    go_wp2_with fail
    refine (hM2.out _ ((Below.refl _ _).alloc (Nat.le_refl _) _)).mono ?_
    rintro en w1 ⟨rfl,hb1⟩
    have hb2:=hid (ae hb.out (ae ((Below.refl _ _).alloc (Nat.le_refl _) _) hb1))
    clear hb1 C10 C11 C12 C13 C14 C15 C16
    go_wp2_with fail
    go_ret
    exact⟨rfl,hb2.out⟩
  ·obtain rfl:k=n:=by omega
   have hlt2:¬ (k:Int)<(k:Int):=by omega
   have hall:∀x ∈ l,mayJ 200 x=true:=by
    have:=hA.out
    rw[List.take_of_length_le (by have:=hnB.out;omega)] at this
    exact this
   obtain rfl:=hyes.out hall
   clear hA hall hyes hno hM hLd
   go_wp2_with fail
   go_ret
   exact⟨rfl,hb.out⟩
def StepV (w:World) (u:Value):StepJ→Prop
 | .none=>u=.nilIface
 | .key s=>u=.iface 73 (.agg #[strV s])∧s.length≤9223372036854775807
 | .idx k=>∃a c,u=.iface 76 (.agg #[.bool k.g,.slice a k.ls.length c,.int .i64 k.e])∧U32 w a k.ls
 | .slc x y=>∃cx cy,u=.iface 79 (.agg (cx ++ cy).toArray)∧RdV w cx x∧RdV w cy y
theorem StepV.stay {w w':World}{u:Value}{s:StepJ}(h:StepV w u s)(hb:Below w.heap.size w w'):StepV w' u s:=by
 cases s with
 | none=>exact h
 | key s=>exact h
 | idx k =>
  obtain⟨a,c,h1,h2⟩:=h
  exact⟨a,c,h1,h2.below hb⟩
 | slc x y =>
  obtain⟨cx,cy,h1,h2,h3⟩:=h
  exact⟨cx,cy,h1,h2.stay hb,h3.stay hb⟩
theorem Dv {w:World}{S:Nat}{c0 c1 c2 c3 c4 c5 c6 c7 c8 c9 c10 c11 c12 c13 d0 d1 d2 d3 d4 d5 d6:Value}{T:TypeId}(h:w.heap[S]? = some (.cells #[c0,c1,c2,c3,c4,c5,c6,c7,c8,c9,c10,c11,c12,c13] T (0,0))) :
  (w.setCells S 0 [d0,d1,d2,d3,d4,d5,d6]).heap[S]? = some (.cells #[d0,d1,d2,d3,d4,d5,d6,c7,c8,c9,c10,c11,c12,c13] T (0,0)):=by
 simp[World.setCells,World.setCell,Array.getElem?_modify,h]
theorem Dw {w:World}{S:Nat}{c0 c1 c2 c3 c4 c5 c6 c7 c8 c9 c10 c11 c12 c13 d0 d1 d2 d3 d4 d5 d6:Value}{T:TypeId}(h:w.heap[S]? = some (.cells #[c0,c1,c2,c3,c4,c5,c6,c7,c8,c9,c10,c11,c12,c13] T (0,0))) :
  (w.setCells S 7 [d0,d1,d2,d3,d4,d5,d6]).heap[S]? = some (.cells #[c0,c1,c2,c3,c4,c5,c6,d0,d1,d2,d3,d4,d5,d6] T (0,0)):=by
 simp[World.setCells,World.setCell,Array.getElem?_modify,h]
theorem kH {w:World}{N:Nat}{c0 c1 c2 c3 c4 c5 c6 c7 c8 c9 c10 c11 c12 c13:Value}{T:TypeId}(h:w.heap[N]? = some (.cells #[c0,c1,c2,c3,c4,c5,c6,c7,c8,c9,c10,c11,c12,c13] T (0,0))) :
  (w.cell? ⟨N,0,none⟩=some c0∧w.cell? ⟨N,1,none⟩=some c1∧w.cell? ⟨N,2,none⟩=some c2∧w.cell? ⟨N,3,none⟩=some c3∧w.cell? ⟨N,4,none⟩=some c4∧w.cell? ⟨N,5,none⟩=some c5∧w.cell? ⟨N,6,none⟩=some c6 ∧
   w.cell? ⟨N,7,none⟩=some c7∧w.cell? ⟨N,8,none⟩=some c8∧w.cell? ⟨N,9,none⟩=some c9∧w.cell? ⟨N,10,none⟩=some c10∧w.cell? ⟨N,11,none⟩=some c11∧w.cell? ⟨N,12,none⟩=some c12∧w.cell? ⟨N,13,none⟩=some c13) ∧
  (∀j,w.frozen? ⟨N,j,none⟩=false) :=
 ⟨⟨ay h 0,ay h 1,ay h 2,ay h 3,ay h 4,ay h 5,ay h 6,ay h 7,ay h 8,ay h 9,ay h 10,ay h 11,ay h 12,ay h 13⟩,fun j=>aP h j⟩
theorem Am (kind:Int)(g:Bool)(a:Option Addr)(n c:Nat)(e:Int)(sb:ByteArray)(aa:Option Addr)(an ac:Nat)(oa:Option Addr)(on oc:Nat)(w:World)(Q:Ending→World→Prop)(hk:kind≠6∨on≠2)
  (hQ4:kind=4→∀w',Below w.heap.size w w'→Q (.returned (.iface 73 (.agg #[.string sb]))) w')
  (hQ3:kind=3→∀w',Below w.heap.size w w'→Q (.returned (.iface 76 (.agg #[.bool g,.slice a n c,.int .i64 e]))) w')
  (hQn:kind≠4→kind≠3→∀w',Below w.heap.size w w'→Q (.returned .nilIface) w') :
  Calls Tryz.prog 47 #[.agg #[.int .i64 kind,.bool g,.slice a n c,.int .i64 e,.string sb,.slice aa an ac,.slice oa on oc]] w Q:=by
 have hB:=hid ((Below.refl w.heap.size w).alloc (Nat.le_refl _) (.cells #[.int .i64 kind,.bool g,.slice a n c,.int .i64 e,.string sb,.slice aa an ac,.slice oa on oc] 28))
 by_cases h4:kind=4
 ·subst h4
  have hq:=hid (hQ4 rfl)
  clear hQ4 hQ3 hQn hk
  go_enter Tryz.func47,Tryz.ntmps47
  go_wp2_with fail
  exact hq.out _ hB.out
 by_cases h3:kind=3
 ·subst h3
  have hq:=hid (hQ3 rfl)
  clear hQ4 hQ3 hQn hk
  go_enter Tryz.func47,Tryz.ntmps47
  go_wp2_with fail
  exact hq.out _ hB.out
 have hq:=hid (hQn h4 h3)
 have f4:(kind == 4)=false:=by rw[beq_eq_false_iff_ne];exact h4
 have f3:(kind == 3)=false:=by rw[beq_eq_false_iff_ne];exact h3
 clear hQ4 hQ3 hQn h4 h3
 by_cases h6:kind=6
 ·subst h6
  have hn:((on:Int) != 2)=true:=by rw[bne_iff_ne];omega
  clear hk
  go_enter Tryz.func47,Tryz.ntmps47
  go_wp2_with fail
  exact hq.out _ hB.out
 ·have f6:(kind == 6)=false:=by rw[beq_eq_false_iff_ne];exact h6
  clear hk
  go_enter Tryz.func47,Tryz.ntmps47
  go_wp2_with fail
  exact hq.out _ hB.out
theorem xx {o:List Fld}{i:Nat}(hi:i<o.length)(s:JV × JV):readF (o.drop i) s=(if edgeB (o[i]).2=true then (if (o[i]).1=startK then readF (o.drop (i+1)) ((o[i]).2,s.2) else if (o[i]).1=endK then readF (o.drop (i+1)) (s.1,(o[i]).2) else none) else none):=by
 rw[List.drop_eq_getElem_cons hi]
 rfl
theorem dL {B:Nat}{a:World}(b:Nat)(hb:B≤b):∀(vs:List Value) (o:Nat) (w:World),Below B a w→Below B a (w.setCells b o vs)
 | [],_,_,h=>h
 | v :: vs,o,w,h=>dL b hb vs (o+1) _ (h.setCell (by exact hb) v)
theorem cZ {w w':World}{b off:Nat}{x:Value}(h:w.cell? ⟨b,off,none⟩=some x)(hb:Below w.heap.size w w'):w'.cell? ⟨b,off,none⟩=some x:=((bcell hb).1 _ _ (ax h)).trans h
theorem yV (a b:List UInt8):((⟨a.toArray⟩:ByteArray).toList == (⟨b.toArray⟩:ByteArray).toList)=decide (a=b):=by
 rw[ByteArray.toList_eq,ByteArray.toList_eq]
 show (a == b)=_
 rw[Bool.eq_iff_iff,beq_iff_eq,decide_eq_true_eq]
theorem Ap (g:Bool)(a:Option Addr)(n c:Nat)(e:Int)(sb:ByteArray)(aa:Option Addr)(an ac:Nat)(oa:Option Addr)(oc:Nat)(o:List Fld)(w:World)(Q:Ending→World→Prop)(hO:RdO w oa o)(ho:o.length=2)
  (hQn:readF o (.null,.null)=none→∀w',Below w.heap.size w w'→Q (.returned .nilIface) w')
  (hQs:∀x y,readF o (.null,.null)=some (x,y)→∀w' c0 c1 c2 c3 c4 c5 c6 c7 c8 c9 c10 c11 c12 c13,Below w.heap.size w w'→RdV w [c0,c1,c2,c3,c4,c5,c6] x→RdV w [c7,c8,c9,c10,c11,c12,c13] y→Q (.returned (.iface 79 (.agg #[c0,c1,c2,c3,c4,c5,c6,c7,c8,c9,c10,c11,c12,c13]))) w') :
  Calls Tryz.prog 47 #[.agg #[.int .i64 6,.bool g,.slice a n c,.int .i64 e,.string sb,.slice aa an ac,.slice oa 2 oc]] w Q:=by
 have HO:=hid hO
 have HL:=hid ho
 have HN:=hid hQn
 have HS:=hid hQs
 clear hO ho hQn hQs
 obtain⟨W,hW⟩:∃W,W=(w.alloc (.cells #[.int .i64 6,.bool g,.slice a n c,.int .i64 e,.string sb,.slice aa an ac,.slice oa 2 oc] 28)).alloc (.cells #[.int .i64 0,.bool false,.slice none 0 0,.int .i64 0,.string ⟨#[]⟩,.slice none 0 0,.slice none 0 0,.int .i64 0,.bool false,.slice none 0 0,.int .i64 0,.string ⟨#[]⟩,.slice none 0 0,.slice none 0 0] 79):=⟨_,rfl⟩
 have HB:=hid (show Below w.heap.size w W by rw[hW];exact ((Below.refl _ _).alloc (Nat.le_refl _) _).alloc (by simp) _)
 have HZ:Hid (W.heap[w.heap.size+1]? = some (.cells #[.int .i64 0,.bool false,.slice none 0 0,.int .i64 0,.string ⟨#[]⟩,.slice none 0 0,.slice none 0 0,.int .i64 0,.bool false,.slice none 0 0,.int .i64 0,.string ⟨#[]⟩,.slice none 0 0,.slice none 0 0] 79)):=by
  rw[hW]
  exact aB w _ _
 have HP:Hid (W.cell? ⟨w.heap.size,6,none⟩=some (.slice oa 2 oc)):=by
  rw[hW]
  show _=_
  simp[go_sem]
 replace hW:=hid hW.symm
 obtain⟨S,hS⟩:∃S,S=w.heap.size+1:=⟨_,rfl⟩
 have hwS:Hid (w.heap.size≤S):=by rw[hS];exact Nat.le_succ _
 have hS1:=hid hS
 rw[←hS] at HZ
 have p6:=HP.out
 go_enter Tryz.func47,Tryz.ntmps47
 go_upto_region 10 with fail
 rw[hW.out]
 go_upto_region 11 with fail
 rw[←hS1.out]
 clear hW HP p6 hS
 go_loopw [5,29] (fun _ v29 wr=>∃(i:Nat) (x y:JV) (c0 c1 c2 c3 c4 c5 c6 c7 c8 c9 c10 c11 c12 c13:Value),i≤2∧v29=.int .i64 i∧Hid (readF (o.drop i) (x,y)=readF o (.null,.null))∧Hid (wr.heap[S]? = some (.cells #[c0,c1,c2,c3,c4,c5,c6,c7,c8,c9,c10,c11,c12,c13] 79)) ∧
  Hid (RdV w [c0,c1,c2,c3,c4,c5,c6] x)∧Hid (RdV w [c7,c8,c9,c10,c11,c12,c13] y)∧Hid (Below w.heap.size w wr)) (fun _ v29 _=>2-(intOf v29).toNat)
 case atStart=>exact⟨0,.null,.null,_,_,_,_,_,_,_,_,_,_,_,_,_,_,by omega,rfl,hid rfl,HZ,hid (dZ w),hid (dZ w),HB⟩
 case round =>
  obtain⟨i,x,y,c0,c1,c2,c3,c4,c5,c6,c7,c8,c9,c10,c11,c12,c13,hi,rfl,hF,hz,hx,hy,hb⟩:=hrel
  clear HZ HB
  by_cases hlt:i<2
  ·have hlt2:(i:Int)<2:=by omega
   have hi1:i<o.length:=by rw[HL.out];exact hlt
   obtain⟨b,off,a1,c1',aa1,ac1,oa1,oc1,rfl,hkl,P1,C1⟩:=HO.out.at hi1
   have hF2:=hF.out
   rw[xx hi1] at hF2
   obtain⟨f,hf⟩:∃f,f=o[i]:=⟨_,rfl⟩
   rw[←hf] at C1 P1 hF2 hkl
   clear hf
   obtain⟨kx,v⟩:=f
   simp only at C1 P1 hF2 hkl
   have rd:=hid P1.rd
   clear P1
   unfold Cells8f strV at C1
   unfold valCs strV at rd
   generalize hvs:(⟨v.s.toArray⟩:ByteArray)=vs at C1 rd
   clear hvs
   obtain⟨u0,u1,u2,u3,u4,u5,u6,u7⟩:=C1
   replace u0:=cZ u0 hb.out
   replace u1:=cZ u1 hb.out
   replace u2:=cZ u2 hb.out
   replace u3:=cZ u3 hb.out
   replace u4:=cZ u4 hb.out
   replace u5:=cZ u5 hb.out
   replace u6:=cZ u6 hb.out
   replace u7:=cZ u7 hb.out
   have hu:=ax u0
   have hq1:((⟨kx.toArray⟩:ByteArray).toList == (⟨#[115,116,97,114,116]⟩:ByteArray).toList)=decide (kx=startK):=yV kx startK
   have hq2:((⟨kx.toArray⟩:ByteArray).toList == (⟨#[101,110,100]⟩:ByteArray).toList)=decide (kx=endK):=yV kx endK
   generalize (⟨kx.toArray⟩:ByteArray)=kb at u0 hq1 hq2
   have hSw:=hwS.out
   have hSr:S<wr.heap.size:=aA hz.out
   obtain⟨W2,hW2⟩:∃W2,W2=wr.alloc (.cells #[.string kb,.int .i64 v.kind,.bool v.g,.slice a1 v.ls.length c1',.int .i64 v.e,.string vs,.slice aa1 v.arr.length ac1,.slice oa1 v.obj.length oc1] 67):=⟨_,rfl⟩
   have hb12:Below wr.heap.size wr W2:=by rw[hW2];exact (Below.refl wr.heap.size wr).alloc (Nat.le_refl _) _
   have hbA:=hid (ae hb.out hb12)
   have hz2:=hid (af hz.out hb12)
   have hfl:W2.heap[wr.heap.size]? = some (.cells #[.string kb,.int .i64 v.kind,.bool v.g,.slice a1 v.ls.length c1',.int .i64 v.e,.string vs,.slice aa1 v.arr.length ac1,.slice oa1 v.obj.length oc1] 67):=by rw[hW2];exact aj wr _
   obtain⟨q0,q1,q2,q3,q4,q5,q6,q7⟩:W2.cell? ⟨wr.heap.size,0,none⟩=some (.string kb)∧W2.cell? ⟨wr.heap.size,1,none⟩=some (.int .i64 v.kind)∧W2.cell? ⟨wr.heap.size,2,none⟩=some (.bool v.g)∧W2.cell? ⟨wr.heap.size,3,none⟩=some (.slice a1 v.ls.length c1') ∧
     W2.cell? ⟨wr.heap.size,4,none⟩=some (.int .i64 v.e)∧W2.cell? ⟨wr.heap.size,5,none⟩=some (.string vs)∧W2.cell? ⟨wr.heap.size,6,none⟩=some (.slice aa1 v.arr.length ac1)∧W2.cell? ⟨wr.heap.size,7,none⟩=some (.slice oa1 v.obj.length oc1) :=
    ⟨ay hfl 0,ay hfl 1,ay hfl 2,ay hfl 3,ay hfl 4,ay hfl 5,ay hfl 6,ay hfl 7⟩
   replace hW2:=hid hW2.symm
   clear hfl hb12
   go_upto_region 13 with fail
   rw[hW2.out]
   clear u0 u1 u2 u3 u4 u5 u6 u7 hW2 hz hb
   obtain⟨F,hF9⟩:∃F,F=wr.heap.size:=⟨_,rfl⟩
   rw[←hF9] at q0 q1 q2 q3 q4 q5 q6 q7 ⊢
   clear hF9 hSr hu
   by_cases hE:v.kind=0∨v.kind=3
   ·have hEB:edgeB v=true:=by unfold edgeB;simpa using hE
    rw[if_pos hEB] at hF2
    have hG:((v.kind != 0)=false)∨((v.kind != 0)=true∧(v.kind != 3)=false):=by
     rcases hE with h | h
     ·exact Or.inl (by rw[h];rfl)
     ·exact Or.inr (by rw[h];exact⟨rfl,rfl⟩)
    clear hE hEB hF
    by_cases hs:kx=startK
    ·rw[if_pos hs] at hF2
     have hF3:=hid hF2
     rw[decide_eq_true hs] at hq1
     have hz3:=hid (Dv (d0:=.int .i64 v.kind) (d1:=.bool v.g) (d2:=.slice a1 v.ls.length c1') (d3:=.int .i64 v.e) (d4:=.string vs) (d5:=.slice aa1 v.arr.length ac1) (d6:=.slice oa1 v.obj.length oc1) hz2.out)
     have hb3:=hid (dL S hwS.out [.int .i64 v.kind,.bool v.g,.slice a1 v.ls.length c1',.int .i64 v.e,.string vs,.slice aa1 v.arr.length ac1,.slice oa1 v.obj.length oc1] 0 _ hbA.out)
     obtain⟨⟨z0,z1,z2,z3,z4,z5,z6,z7,z8,z9,z10,z11,z12,z13⟩,zf⟩:=kH hz2.out
     have f0:=zf 0
     have f1:=zf 1
     have f2:=zf 2
     have f3:=zf 3
     have f4:=zf 4
     have f5:=zf 5
     have f6:=zf 6
     clear zf z7 z8 z9 z10 z11 z12 z13 hF2 hq2 hs HN HS hx hz2 hbA
     rcases hG with g0 | ⟨g0,g3⟩
     all_goals
      go_upto_region 17 with fail
      generalize (⟨#[115,116,97,114,116]⟩:ByteArray)=L1 at hq1 ⊢
      go_wp2_with fail
      go_roundw
      case rel=>exact⟨i+1,v,y,_,_,_,_,_,_,_,_,_,_,_,_,_,_,by omega,by go_num,hF3,hz3,rd,hy,hb3⟩
      case measure=>simp[intOf];omega
    ·rw[if_neg hs] at hF2
     rw[decide_eq_false hs] at hq1
     by_cases he:kx=endK
     ·rw[if_pos he] at hF2
      have hF3:=hid hF2
      rw[decide_eq_true he] at hq2
      have hz3:=hid (Dw (d0:=.int .i64 v.kind) (d1:=.bool v.g) (d2:=.slice a1 v.ls.length c1') (d3:=.int .i64 v.e) (d4:=.string vs) (d5:=.slice aa1 v.arr.length ac1) (d6:=.slice oa1 v.obj.length oc1) hz2.out)
      have hb3:=hid (dL S hwS.out [.int .i64 v.kind,.bool v.g,.slice a1 v.ls.length c1',.int .i64 v.e,.string vs,.slice aa1 v.arr.length ac1,.slice oa1 v.obj.length oc1] 7 _ hbA.out)
      obtain⟨⟨z0,z1,z2,z3,z4,z5,z6,z7,z8,z9,z10,z11,z12,z13⟩,zf⟩:=kH hz2.out
      have f7:=zf 7
      have f8:=zf 8
      have f9:=zf 9
      have f10:=zf 10
      have f11:=zf 11
      have f12:=zf 12
      have f13:=zf 13
      clear zf z0 z1 z2 z3 z4 z5 z6 hF2 hs he HN HS hy hz2 hbA
      rcases hG with g0 | ⟨g0,g3⟩
      all_goals
       go_upto_region 17 with fail
       generalize (⟨#[115,116,97,114,116]⟩:ByteArray)=L1 at hq1 ⊢
       go_upto_region 19 with fail
       generalize (⟨#[101,110,100]⟩:ByteArray)=L2 at hq2 ⊢
       go_wp2_with fail
       go_roundw
       case rel=>exact⟨i+1,x,v,_,_,_,_,_,_,_,_,_,_,_,_,_,_,by omega,by go_num,hF3,hz3,hx,rd,hb3⟩
       case measure=>simp[intOf];omega
     ·rw[if_neg he] at hF2
      rw[decide_eq_false he] at hq2
      have hR:=hid (HN.out hF2.symm)
      clear hF2 hs he HN HS hx hy hz2
      rcases hG with g0 | ⟨g0,g3⟩
      all_goals
       go_upto_region 17 with fail
       generalize (⟨#[115,116,97,114,116]⟩:ByteArray)=L1 at hq1 ⊢
       go_upto_region 19 with fail
       generalize (⟨#[101,110,100]⟩:ByteArray)=L2 at hq2 ⊢
       go_wp2_with fail
       exact hR.out _ hbA.out
   ·have hEB:edgeB v=false:=by unfold edgeB;simpa using hE
    rw[hEB,if_neg (by decide)] at hF2
    have hR:=hid (HN.out hF2.symm)
    have g0:(v.kind != 0)=true:=by rw[bne_iff_ne];omega
    have g3:(v.kind != 3)=true:=by rw[bne_iff_ne];omega
    clear hF2 hq1 hq2 hE hEB hF HN HS
    go_wp2_with fail
    exact hR.out _ hbA.out
  ·obtain rfl:i=2:=by omega
   have hlt2:¬ ((2:Nat):Int)<2:=by omega
   have hF2:=hF.out
   rw[List.drop_of_length_le (by rw[HL.out];exact Nat.le_refl _)] at hF2
   have hR:=hid (HS.out x y hF2.symm)
   clear hF hF2 HN HS
   obtain⟨⟨z0,z1,z2,z3,z4,z5,z6,z7,z8,z9,z10,z11,z12,z13⟩,_⟩:=kH hz.out
   go_wp2_with fail
   exact hR.out _ _ _ _ _ _ _ _ _ _ _ _ _ _ _ hb.out hx.out hy.out
theorem ji (k:JV)(cs:List Value)(w:World)(rk:RdV w cs k) :
  Calls Tryz.prog 47 #[.agg cs.toArray] w fun e w'=>∃u,e=.returned u∧StepV w' u (readS k)∧Below w.heap.size w w':=by
 obtain⟨a,c,aa,ac,oa,oc,P⟩:=rk.parts
 have e:=P.cells
 subst e
 by_cases h:k.kind≠6∨k.obj.length≠2
 ·refine Am k.kind k.g a k.ls.length c k.e ⟨k.s.toArray⟩ aa k.arr.length ac oa k.obj.length oc w _ h ?_ ?_ ?_
  ·intro h4 w' hb
   refine⟨_,rfl,?_,hb⟩
   unfold readS
   rw[if_pos h4]
   exact⟨rfl,P.s⟩
  ·intro h3 w' hb
   refine⟨_,rfl,?_,hb⟩
   unfold readS
   rw[if_neg (by omega),if_pos h3]
   exact⟨a,c,rfl,P.u.below hb⟩
  ·intro h4 h3 w' hb
   refine⟨_,rfl,?_,hb⟩
   unfold readS
   rw[if_neg h4,if_neg h3,if_neg (by omega)]
   exact rfl
 ·have h6:k.kind=6:=by omega
  have h2:k.obj.length=2:=by omega
  have hr:readS k=(match readF k.obj (.null,.null) with | some s=>.slc s.1 s.2 | none=>.none):=by
   unfold readS
   rw[if_neg (by omega),if_neg (by omega),if_pos ⟨h6,h2⟩]
   all_goals (cases readF k.obj (.null,.null)<;>rfl)
  have:=Ap k.g a k.ls.length c k.e ⟨k.s.toArray⟩ aa k.arr.length ac oa oc k.obj w (fun e w'=>∃u,e=.returned u∧StepV w' u (readS k)∧Below w.heap.size w w') P.obj h2
   (fun hn w' hb=>⟨_,rfl,by rw[hr,hn];exact rfl,hb⟩)
   (fun x y hs w' c0 c1 c2 c3 c4 c5 c6 c7 c8 c9 c10 c11 c12 c13 hb hx hy=>⟨_,rfl,by rw[hr,hs];exact⟨_,_,rfl,hx.stay hb,hy.stay hb⟩,hb⟩)
  unfold valCs strV
  rw[h6,h2]
  exact this
end Go.Proofs.YtcgbmmalfbpjaaaGreatDoor

namespace Go.Proofs.YtcgbmmalfbpjaaaGreatDoor
end Go.Proofs.YtcgbmmalfbpjaaaGreatDoor
