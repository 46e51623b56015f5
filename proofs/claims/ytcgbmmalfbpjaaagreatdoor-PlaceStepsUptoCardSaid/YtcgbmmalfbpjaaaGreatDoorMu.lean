/-  -/
import Derived.Test.YtcgbmmalfbpjaaaGreatDoorMj
import Derived.Test.YtcgbmmalfbpjaaaGreatDoorMe
import Derived.Test.YtcgbmmalfbpjaaaGreatDoorMa
namespace Go.Proofs.YtcgbmmalfbpjaaaGreatDoor
section
variable {α:Type} {S:α→Prop} {c:α→α→Int}
def Lt (c:α→α→Int) (p q:α × Nat):Prop:=c p.1 q.1<0∨(c p.1 q.1=0∧p.2<q.2)
instance (c:α→α→Int) (p q:α × Nat):Decidable (Lt c p q):=by unfold Lt;infer_instance
theorem Lt.asymm (h:OrdOn S c){p q:α × Nat}(hp:S p.1)(hq:S q.1)(a:Lt c p q):¬ Lt c q p:=by
 unfold Lt at a ⊢
 have e:=h.anti p.1 q.1 hp hq
 omega
theorem Lt.trans (h:OrdOn S c){p q r:α × Nat}(hp:S p.1)(hq:S q.1)(hr:S r.1)(a:Lt c p q)(b:Lt c q r):Lt c p r:=by
 unfold Lt at a b ⊢
 have t:=h.trans p.1 q.1 r.1 hp hq hr (by omega) (by omega)
 by_cases e:c p.1 r.1=0
 ·right
  refine⟨e,?_⟩
  have s:=h.same hp hr hq e
  have a1:=h.anti q.1 r.1 hq hr
  have s2:c p.1 q.1=-c q.1 r.1:=by omega
  omega
 ·left;omega
def Stab (c:α→α→Int) (l:List (α × Nat)):Prop:=l.Pairwise (Lt c)
theorem qGD (h:OrdOn S c):∀{l m:List (α × Nat)},(∀p ∈ l,S p.1)→(∀p ∈ m,S p.1)→Stab c l→Stab c m→(∀z,z ∈ l ↔ z ∈ m)→l=m
 | [],[],_,_,_,_,_=>rfl
 | [],y :: m,_,_,_,_,e=>by have:=(e y).2 (by simp);cases this
 | x :: l,[],_,_,_,_,e=>by have:=(e x).1 (by simp);cases this
 | x :: l,y :: m,hl,hm,sl,sm,e=>by
  have h1:=List.pairwise_cons.1 sl
  have h2:=List.pairwise_cons.1 sm
  have hxy:x=y:=by
   rcases List.mem_cons.1 ((e x).1 (by simp)) with e1 | e1
   ·exact e1
   ·rcases List.mem_cons.1 ((e y).2 (by simp)) with e2 | e2
    ·exact e2.symm
    ·exact absurd (h2.1 x e1) (Lt.asymm h (hl x (by simp)) (hm y (by simp)) (h1.1 y e2))
  subst hxy
  have irr:∀z:α × Nat,S z.1→¬ Lt c z z:=fun z hz hh=>Lt.asymm h hz hz hh hh
  congr 1
  refine qGD h (fun p hp=>hl p (by simp[hp])) (fun p hp=>hm p (by simp[hp])) h1.2 h2.2 fun z=>⟨fun hz=>?_,fun hz=>?_⟩
  ·rcases List.mem_cons.1 ((e z).1 (by simp[hz])) with e1 | e1
   ·subst e1
    exact absurd (h1.1 z hz) (irr z (hl z (by simp)))
   ·exact e1
  ·rcases List.mem_cons.1 ((e z).2 (by simp[hz])) with e1 | e1
   ·subst e1
    exact absurd (h2.1 z hz) (irr z (hl z (by simp)))
   ·exact e1
def insS (c:α→α→Int) (x:α × Nat):List (α × Nat)→List (α × Nat)
 | []=>[x]
 | y :: l=>if Lt c x y then x :: y :: l else y :: insS c x l
theorem qCU (x:α × Nat):∀l:List (α × Nat),(insS c x l).Perm (x :: l)
 | []=>List.Perm.refl _
 | y :: l=>by
  simp only[insS]
  split
  ·exact List.Perm.refl _
  ·exact ((qCU x l).cons y).trans (List.Perm.swap x y l)
theorem qGE (h:OrdOn S c){x:α × Nat}(hx:S x.1):∀{l:List (α × Nat)},(∀p ∈ l,S p.1)→Stab c l→(∀p ∈ l,p.2≠x.2)→Stab c (insS c x l)
 | [],_,_,_=>List.pairwise_singleton _ _
 | y :: l,hl,hs,hn=>by
  have h1:=List.pairwise_cons.1 hs
  have hy:=hl y (by simp)
  simp only[insS]
  split
  ·rename_i hlt
   refine List.pairwise_cons.2 ⟨fun z hz=>?_,hs⟩
   rcases List.mem_cons.1 hz with e | e
   ·rw[e];exact hlt
   ·exact Lt.trans h hx hy (hl z hz) hlt (h1.1 z e)
  ·rename_i hge
   have hlt:Lt c y x:=by
    have a:=h.anti x.1 y.1 hx hy
    have n:=hn y (by simp)
    unfold Lt at hge ⊢
    omega
   refine List.pairwise_cons.2 ⟨fun z hz=>?_,qGE h hx (fun p hp=>hl p (by simp[hp])) h1.2 (fun p hp=>hn p (by simp[hp]))⟩
   rcases List.mem_cons.1 ((qCU x l).mem_iff.1 hz) with e | e
   ·rw[e];exact hlt
   ·exact h1.1 z e
def withI (l:List α):List (α × Nat):=l.zipIdx
def sortI (c:α→α→Int) (l:List (α × Nat)):List (α × Nat):=l.foldl (fun acc x=>insS c x acc) []
def sortS (c:α→α→Int) (l:List α):List α:=(sortI c (withI l)).map (·.1)
theorem qCm (l:List (α × Nat)):(sortI c l).Perm l:=by
 have key:∀(l acc:List (α × Nat)),(l.foldl (fun acc x=>insS c x acc) acc).Perm (l ++ acc):=by
  intro l
  induction l with
  | nil=>intro acc;exact List.Perm.refl _
  | cons y l ih =>
   intro acc
   rw[List.foldl_cons]
   exact (ih _).trans (((qCU y acc).append_left l).trans List.perm_middle)
 have:=key l []
 rwa [List.append_nil] at this
theorem qJz (h:OrdOn S c){l:List (α × Nat)}(hl:∀p ∈ l,S p.1)(hn:(l.map (·.2)).Nodup):Stab c (sortI c l):=by
 have key:∀(l acc:List (α × Nat)),(∀p ∈ l ++ acc,S p.1)→Stab c acc→((l ++ acc).map (·.2)).Nodup→Stab c (l.foldl (fun acc x=>insS c x acc) acc):=by
  intro l
  induction l with
  | nil=>intro acc _ ha _;exact ha
  | cons y l ih =>
   intro acc hs ha hn
   rw[List.foldl_cons]
   have hn2:=hn
   simp only[List.cons_append,List.map_cons,List.nodup_cons] at hn2
   have p:(l ++ insS c y acc).Perm (y :: (l ++ acc)):=((qCU y acc).append_left l).trans List.perm_middle
   refine ih _ (fun q hq=>?_) (qGE h (hs y (by simp)) (fun q hq=>hs q (by simp[hq])) ha fun q hq e=>hn2.1 ?_) ?_
   ·exact hs q (by have:=p.mem_iff.1 hq;simpa using this)
   ·rw[←e]
    exact List.mem_map.2 ⟨q,by simp[hq],rfl⟩
   ·rw[(p.map (·.2)).nodup_iff]
    exact hn
 exact key l [] (by simpa using hl) List.Pairwise.nil (by simpa using hn)
theorem qHD (l:List α):((withI l).map (·.2)).Nodup:=by
 unfold withI
 rw[List.zipIdx_map_snd]
 exact List.nodup_range' ..
theorem qEi (l:List α):(withI l).map (·.1)=l:=List.zipIdx_map_fst ..
theorem qM3 (h:OrdOn S c){l:List α}{m:List (α × Nat)}(hl:∀x ∈ l,S x)(hm:Stab c m)(e:m.Perm (withI l)):m.map (·.1)=sortS c l:=by
 have hw:∀p ∈ withI l,S p.1:=fun p hp=>hl p.1 (by
  have:p.1 ∈ (withI l).map (·.1):=List.mem_map_of_mem hp
  rwa [qEi] at this)
 unfold sortS
 congr 1
 exact qGD h (fun p hp=>hw p (e.mem_iff.1 hp)) (fun p hp=>hw p ((qCm _).mem_iff.1 hp)) hm (qJz h hw (qHD l)) fun z=>e.mem_iff.trans (qCm _).mem_iff.symm
theorem qLj (h:OrdOn S c){L1 L2 R1 R2:List (α × Nat)}(hs:∀p ∈ L1 ++ L2 ++ (R1 ++ R2),S p.1)(hL:Stab c (L1 ++ L2))(hR:Stab c (R1 ++ R2))
  (c1:∀p ∈ R1.getLast?,∀q ∈ L2.head?,Lt c p q)(c2:∀p ∈ L1.getLast?,∀q ∈ R2.head?,Lt c p q):∀p ∈ L1 ++ R1,∀q ∈ L2 ++ R2,Lt c p q:=by
 have pL:=List.pairwise_append.1 hL
 have pR:=List.pairwise_append.1 hR
 have S1:∀p ∈ L1,S p.1:=fun p hp=>hs p (by simp[hp])
 have S2:∀p ∈ L2,S p.1:=fun p hp=>hs p (by simp[hp])
 have S3:∀p ∈ R1,S p.1:=fun p hp=>hs p (by simp[hp])
 have S4:∀p ∈ R2,S p.1:=fun p hp=>hs p (by simp[hp])
 have last:∀{A:List (α × Nat)},Stab c A→(∀p ∈ A,S p.1)→∀p ∈ A,∃z,z ∈ A.getLast?∧(p=z∨Lt c p z):=by
  intro A hA _ p hp
  obtain⟨B,z,rfl⟩:∃B z,A=B ++ [z]:=⟨A.dropLast,A.getLast (by intro e;rw[e] at hp;cases hp),(List.dropLast_concat_getLast _).symm⟩
  refine⟨z,by simp,?_⟩
  rcases List.mem_append.1 hp with e | e
  ·exact Or.inr ((List.pairwise_append.1 hA).2.2 p e z (by simp))
  ·simp at e;exact Or.inl e
 have first:∀{A:List (α × Nat)},Stab c A→∀p ∈ A,∃z,z ∈ A.head?∧(p=z∨Lt c z p):=by
  intro A hA p hp
  cases A with
  | nil=>cases hp
  | cons z B =>
   refine⟨z,by simp,?_⟩
   rcases List.mem_cons.1 hp with e | e
   ·exact Or.inl e
   ·exact Or.inr ((List.pairwise_cons.1 hA).1 p e)
 intro p hp q hq
 rcases List.mem_append.1 hp with hp | hp<;>rcases List.mem_append.1 hq with hq | hq
 ·exact pL.2.2 p hp q hq
 ·obtain⟨z,hz,ez⟩:=last pL.1 S1 p hp
  obtain⟨y,hy,ey⟩:=first pR.2.1 q hq
  have zy:=c2 z hz y hy
  have sz:=S1 z (List.mem_of_getLast? hz)
  have sy:=S4 y (List.mem_of_head? hy)
  have t1:Lt c p y:=by
   rcases ez with e | e
   ·rw[e];exact zy
   ·exact Lt.trans h (S1 p hp) sz sy e zy
  rcases ey with e | e
  ·rw[e];exact t1
  ·exact Lt.trans h (S1 p hp) sy (S4 q hq) t1 e
 ·obtain⟨z,hz,ez⟩:=last pR.1 S3 p hp
  obtain⟨y,hy,ey⟩:=first pL.2.1 q hq
  have zy:=c1 z hz y hy
  have sz:=S3 z (List.mem_of_getLast? hz)
  have sy:=S2 y (List.mem_of_head? hy)
  have t1:Lt c p y:=by
   rcases ez with e | e
   ·rw[e];exact zy
   ·exact Lt.trans h (S3 p hp) sz sy e zy
  rcases ey with e | e
  ·rw[e];exact t1
  ·exact Lt.trans h (S3 p hp) sy (S2 q hq) t1 e
 ·exact pR.2.2 p hp q hq
theorem qCn (l:List α):(sortS c l).Perm l:=by
 have:=(qCm (c:=c) (withI l)).map (·.1)
 rwa [qEi] at this
end
open Go.RowKit
def strs (ks:List (List UInt8)):List Value:=ks.map strV
@[simp] theorem strs_len (ks:List (List UInt8)):(strs ks).length=ks.length:=by simp[strs]
section
variable {α:Type} {S:α→Prop} {c:α→α→Int}
def insG (c:α→α→Int) (x:α):List α→List α
 | []=>[x]
 | y :: l=>if c x y<0 then x :: y :: l else y :: insG c x l
theorem qH8 (x:α)(n:Nat):∀l:List (α × Nat),(∀p ∈ l,p.2<n)→(insS c (x,n) l).map (·.1)=insG c x (l.map (·.1))
 | [],_=>rfl
 | p :: l,h=>by
  have hp:=h p (by simp)
  have ih:=qH8 x n l (fun q hq=>h q (by simp[hq]))
  have e:Lt c (x,n) p ↔ c x p.1<0:=by
   unfold Lt
   show c x p.1<0∨(c x p.1=0∧n<p.2) ↔ _
   omega
  simp only[insS,List.map_cons,insG]
  by_cases hc:c x p.1<0
  ·rw[if_pos (e.2 hc),if_pos hc];rfl
  ·rw[if_neg (fun hh=>hc (e.1 hh)),if_neg hc,List.map_cons,ih]
theorem qEW (l:List α)(x:α):sortS c (l ++ [x])=insG c x (sortS c l):=by
 unfold sortS sortI withI
 rw[List.zipIdx_append,List.foldl_append]
 simp only[List.zipIdx_cons,List.zipIdx_nil,List.foldl_cons,List.foldl_nil,Nat.zero_add]
 refine qH8 x l.length _ fun p hp=>?_
 have:=(qCm (c:=c) (withI l)).mem_iff.1 hp
 have:=List.mem_zipIdx this
 omega
end
end Go.Proofs.YtcgbmmalfbpjaaaGreatDoor
