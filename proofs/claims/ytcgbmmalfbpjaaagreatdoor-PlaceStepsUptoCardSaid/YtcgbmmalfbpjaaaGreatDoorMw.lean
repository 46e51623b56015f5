/-  -/
import Derived.Test.YtcgbmmalfbpjaaaGreatDoorMu
import Derived.Test.YtcgbmmalfbpjaaaGreatDoorMm
import Derived.Test.YtcgbmmalfbpjaaaGreatDoorMn
import Derived.Sort.Defs
import Derived.Sort.Grow
import Derived.BigRegion
import Derived.Deep.RegionLaw
namespace Go.Proofs.YtcgbmmalfbpjaaaGreatDoor
section
variable {α:Type} {S:α→Prop} {c:α→α→Int}
theorem qN1 (h:OrdOn S c){A:List (α × Nat)}{x:α × Nat}(hA:Stab c A)(hs:∀p ∈ A,S p.1)(hx:S x.1)(h1:∀p ∈ A.getLast?,Lt c p x):∀p ∈ A,Lt c p x:=by
 intro p hp
 obtain⟨B,z,rfl⟩:∃B z,A=B ++ [z]:=⟨A.dropLast,A.getLast (by intro e;rw[e] at hp;cases hp),(List.dropLast_concat_getLast _).symm⟩
 have hz:=h1 z (by simp)
 rcases List.mem_append.1 hp with e | e
 ·exact Lt.trans h (hs p hp) (hs z (by simp)) hx ((List.pairwise_append.1 hA).2.2 p e z (by simp)) hz
 ·simp at e;rw[e];exact hz
theorem qN2 (h:OrdOn S c){A:List (α × Nat)}{x:α × Nat}(hA:Stab c A)(hs:∀p ∈ A,S p.1)(hx:S x.1)(h1:∀p ∈ A.head?,Lt c x p):∀p ∈ A,Lt c x p:=by
 intro p hp
 cases A with
 | nil=>cases hp
 | cons z B =>
  have hz:=h1 z (by simp)
  rcases List.mem_cons.1 hp with e | e
  ·rw[e];exact hz
  ·exact Lt.trans h hx (hs z (by simp)) (hs p hp) hz ((List.pairwise_cons.1 hA).1 p e)
theorem qFL (h:OrdOn S c){A B:List (α × Nat)}{x:α × Nat}(hs:∀p ∈ A ++ B,S p.1)(hx:S x.1)(hAB:Stab c (A ++ B))(h1:∀p ∈ A.getLast?,Lt c p x)(h2:∀q ∈ B.head?,Lt c x q):Stab c (A ++ x :: B):=by
 have hp:=List.pairwise_append.1 hAB
 have k1:=qN1 h hp.1 (fun p hp=>hs p (by simp[hp])) hx h1
 have k2:=qN2 h hp.2.1 (fun p hp=>hs p (by simp[hp])) hx h2
 refine List.pairwise_append.2 ⟨hp.1,List.pairwise_cons.2 ⟨k2,hp.2.1⟩,fun a ha b hb=>?_⟩
 rcases List.mem_cons.1 hb with e | e
 ·rw[e];exact k1 a ha
 ·exact hp.2.2 a ha b e
theorem qHE {X Y M N:List (α × Nat)}(hX:Stab c M)(hY:Stab c N)(pX:M.Perm X)(pY:N.Perm Y)(hc:∀p ∈ X,∀q ∈ Y,Lt c p q):Stab c (M ++ N) :=
 List.pairwise_append.2 ⟨hX,hY,fun a ha b hb=>hc a (pX.mem_iff.1 ha) b (pY.mem_iff.1 hb)⟩
theorem qFM (h:OrdOn S c){x:α × Nat}{R1 R2:List (α × Nat)}(hs:∀p ∈ R1 ++ R2,S p.1)(hx:S x.1)(hR:Stab c (R1 ++ R2))(ht:∀p ∈ R1 ++ R2,x.2<p.2)
  (h1:∀p ∈ R1.getLast?,c p.1 x.1<0)(h2:∀q ∈ R2.head?,¬ c q.1 x.1<0):Stab c (R1 ++ x :: R2):=by
 refine qFL h hs hx hR (fun p hp=>Or.inl (h1 p hp)) (fun q hq=>?_)
 have hq2:q ∈ R1 ++ R2:=List.mem_append_right _ (List.mem_of_head? hq)
 have e:=h.anti q.1 x.1 (hs q hq2) hx
 have n:=h2 q hq
 have t:=ht q hq2
 unfold Lt
 omega
theorem qEP (h:OrdOn S c){x:α × Nat}{L1 L2:List (α × Nat)}(hs:∀p ∈ L1 ++ L2,S p.1)(hx:S x.1)(hL:Stab c (L1 ++ L2))(ht:∀p ∈ L1 ++ L2,p.2<x.2)
  (h1:∀p ∈ L1.getLast?,¬ c x.1 p.1<0)(h2:∀q ∈ L2.head?,c x.1 q.1<0):Stab c (L1 ++ x :: L2):=by
 refine qFL h hs hx hL (fun p hp=>?_) (fun q hq=>Or.inl (h2 q hq))
 have hp2:p ∈ L1 ++ L2:=List.mem_append_left _ (List.mem_of_getLast? hp)
 have e:=h.anti x.1 p.1 hx (hs p hp2)
 have n:=h1 p hp
 have t:=ht p hp2
 unfold Lt
 omega
theorem qJA (h:OrdOn S c){L1 L2 R1 R2:List (α × Nat)}(hs:∀p ∈ L1 ++ L2 ++ (R1 ++ R2),S p.1)(hL:Stab c (L1 ++ L2))(hR:Stab c (R1 ++ R2))(ht:∀p ∈ L1 ++ L2,∀q ∈ R1 ++ R2,p.2<q.2)
  (c1:∀p ∈ R1.getLast?,∀q ∈ L2.head?,c p.1 q.1<0)(c2:∀p ∈ L1.getLast?,∀q ∈ R2.head?,¬ c q.1 p.1<0):∀p ∈ L1 ++ R1,∀q ∈ L2 ++ R2,Lt c p q:=by
 refine qLj h hs hL hR (fun p hp q hq=>Or.inl (c1 p hp q hq)) (fun p hp q hq=>?_)
 have hp2:p ∈ L1 ++ L2:=List.mem_append_left _ (List.mem_of_getLast? hp)
 have hq2:q ∈ R1 ++ R2:=List.mem_append_right _ (List.mem_of_head? hq)
 have e:=h.anti q.1 p.1 (hs q (List.mem_append_right _ hq2)) (hs p (List.mem_append_left _ hp2))
 have n:=c2 p hp q hq
 have t:=ht p hp2 q hq2
 unfold Lt
 omega
inductive Ch (c:α→α→Int) (bs:Nat):List (α × Nat)→List (α × Nat)→Prop
 | nil:Ch c bs [] []
 | cons (s s0 l l0:List (α × Nat)):s.length=bs→Stab c s→s.Perm s0→Ch c bs l l0→Ch c bs (s ++ l) (s0 ++ l0)
theorem Ch.perm {bs:Nat}{l l0:List (α × Nat)}(h:Ch c bs l l0):l.Perm l0:=by
 induction h with
 | nil=>exact List.Perm.refl _
 | cons s s0 l l0 _ _ h1 _ ih=>exact h1.append ih
theorem Ch.snoc {bs:Nat}{l l0 s s0:List (α × Nat)}(h:Ch c bs l l0)(h1:s.length=bs)(h2:Stab c s)(h3:s.Perm s0):Ch c bs (l ++ s) (l0 ++ s0):=by
 induction h with
 | nil=>have:=Ch.cons s s0 [] [] h1 h2 h3 Ch.nil;simpa using this
 | cons t t0 l l0 k1 k2 k3 _ ih=>rw[List.append_assoc,List.append_assoc];exact Ch.cons t t0 _ _ k1 k2 k3 ih
theorem Ch.front {bs:Nat}{l l0:List (α × Nat)}(h:Ch c bs l l0)(hl:0<l.length):∃s s0 t t0,l=s ++ t∧l0=s0 ++ t0∧s.length=bs∧Stab c s∧s.Perm s0∧Ch c bs t t0:=by
 cases h with
 | nil=>simp at hl
 | cons s s0 l l0 h1 h2 h3 h4=>exact⟨s,s0,l,l0,rfl,rfl,h1,h2,h3,h4⟩
theorem Ch.none {bs:Nat}{l l0:List (α × Nat)}(h:Ch c bs l l0)(hl:l.length<bs):l=[]∧l0=[]:=by
 cases h with
 | nil=>exact⟨rfl,rfl⟩
 | cons s s0 l l0 h1 h2 h3 h4=>rw[List.length_append] at hl;omega
theorem qLk {X Y A B:List (α × Nat)}(h:((X ++ Y).map (·.2)).Pairwise (·<·))(pA:A.Perm X)(pB:B.Perm Y):∀p ∈ A,∀q ∈ B,p.2<q.2:=by
 intro p hp q hq
 rw[List.map_append] at h
 exact (List.pairwise_append.1 h).2.2 p.2 (List.mem_map_of_mem (pA.mem_iff.1 hp)) q.2 (List.mem_map_of_mem (pB.mem_iff.1 hq))
theorem qJB (l:List α):((withI l).map (·.2)).Pairwise (·<·):=by
 unfold withI
 rw[List.zipIdx_map_snd]
 exact List.pairwise_lt_range' ..
end
open Go.Sort
section
variable {α:Type} [Inhabited α]
theorem arr_at (X Y:List α)(x:α):(X ++ x :: Y).toArray[X.length]! = x:=by simp
theorem qLp (X M Y:List α)(x y:α)(i j:Nat)(hi:i=X.length)(hj:j=X.length+1+M.length):swp (X ++ x :: (M ++ y :: Y)).toArray i j=(X ++ y :: (M ++ x :: Y)).toArray:=by
 subst hi hj
 have e1:(X ++ x :: (M ++ y :: Y)).toArray[X.length]! = x:=arr_at _ _ _
 have e2:(X ++ x :: (M ++ y :: Y)).toArray[X.length+1+M.length]! = y:=by
  simp[Nat.add_comm,Nat.add_left_comm]
 unfold swp
 rw[e1,e2]
 simp only[List.setIfInBounds_toArray]
 congr 1
 rw[List.set_append_right _ _ (Nat.le_refl _),Nat.sub_self,List.set_cons_zero,List.set_append_right _ _ (by omega),show X.length+1+M.length-X.length=M.length+1 by omega,List.set_cons_succ,List.set_append_right _ _ (Nat.le_refl _),Nat.sub_self,List.set_cons_zero]
theorem qM5 (d:Array α)(i j:Nat):swp d i j=swp d j i:=by
 unfold swp
 by_cases h:i=j
 ·subst h;rfl
 ·exact Array.setIfInBounds_comm _ _ h
theorem qN4 (X M Y:List α)(x y:α)(i j:Nat)(hi:i=X.length)(hj:j=X.length+1+M.length):swp (X ++ x :: (M ++ y :: Y)).toArray j i=(X ++ y :: (M ++ x :: Y)).toArray:=by
 rw[qM5]
 exact qLp X M Y x y i j hi hj
theorem qLq (X M Y U V:List α)(n k:Nat)(hU:U.length=n)(hV:V.length=n)(hk:k<n) :
  swp (X ++ (V.take k ++ U.drop k) ++ M ++ (U.take k ++ V.drop k) ++ Y).toArray (X.length+k) (X.length+n+M.length+k)=(X ++ (V.take (k+1) ++ U.drop (k+1)) ++ M ++ (U.take (k+1) ++ V.drop (k+1)) ++ Y).toArray:=by
 have h1:k<U.length:=by omega
 have h2:k<V.length:=by omega
 have e:=qLp (X ++ V.take k) (U.drop (k+1) ++ M ++ U.take k) (V.drop (k+1) ++ Y) U[k] V[k] (X.length+k) (X.length+n+M.length+k) (by simp;omega) (by simp;omega)
 rw[List.drop_eq_getElem_cons h1,List.drop_eq_getElem_cons h2,List.take_succ_eq_append_getElem h1,List.take_succ_eq_append_getElem h2]
 simp only[List.append_assoc,List.cons_append,List.nil_append] at e ⊢
 exact e
structure Mid (a L:Nat) (A:List α) (x:α) (T:Nat→List α):Prop where
 fit:a+A.length<L
 len:∀t,t≤A.length→(T t).length=L
 atx:∀t,t≤A.length→(T t)[a+t]? = some x
 before:∀t,t<A.length→(T (t+1))[a+t]? = A[t]?
 after:∀t,t<A.length→(T t)[a+t+1]? = A[t]?
 up:∀t,t<A.length→swp (T t).toArray (a+t) (a+t+1)=(T (t+1)).toArray
 down:∀t,t<A.length→swp (T (t+1)).toArray (a+t+1) (a+t)=(T t).toArray
theorem qLr (X A Z:List α)(x:α)(a L:Nat)(ha:X.length=a)(hL:a+A.length+1+Z.length=L):Mid a L A x (fun t=>X ++ A.take t ++ x :: (A.drop t ++ Z)):=by
 subst ha
 have gx:∀(B D:List α) (y:α) (n:Nat),n=B.length→(B ++ y :: D)[n]? = some y:=by
  intro B D y n h
  subst h
  simp
 have e1:∀t (h:t<A.length),X ++ A.take (t+1) ++ x :: (A.drop (t+1) ++ Z)=X ++ A.take t ++ A[t] :: x :: (A.drop (t+1) ++ Z):=by
  intro t h
  rw[List.take_succ_eq_append_getElem h]
  simp only[List.append_assoc,List.cons_append,List.nil_append]
 have e2:∀t (h:t<A.length),X ++ A.take t ++ x :: (A.drop t ++ Z)=X ++ A.take t ++ x :: A[t] :: (A.drop (t+1) ++ Z):=by
  intro t h
  rw[List.drop_eq_getElem_cons h]
  simp only[List.cons_append]
 have hup:∀t,t<A.length→swp (X ++ A.take t ++ x :: (A.drop t ++ Z)).toArray (X.length+t) (X.length+t+1)=(X ++ A.take (t+1) ++ x :: (A.drop (t+1) ++ Z)).toArray:=by
  intro t h
  rw[e1 t h,e2 t h]
  have:=qLp (X ++ A.take t) [] (A.drop (t+1) ++ Z) x A[t] (X.length+t) (X.length+t+1) (by simp;omega) (by simp;omega)
  simpa using this
 refine⟨by omega,fun t ht=>?_,fun t ht=>?_,fun t ht=>?_,fun t ht=>?_,hup,fun t ht=>?_⟩
 ·simp only[List.length_append,List.length_cons,List.length_take,List.length_drop]
  omega
 ·exact gx _ _ _ _ (by simp;omega)
 ·rw[e1 t ht,gx _ _ _ _ (by simp;omega),List.getElem?_eq_getElem ht]
 ·rw[e2 t ht,show X ++ A.take t ++ x :: A[t] :: (A.drop (t+1) ++ Z)=(X ++ A.take t ++ [x]) ++ A[t] :: (A.drop (t+1) ++ Z) by simp,gx _ _ _ _ (by simp;omega),List.getElem?_eq_getElem ht]
 ·rw[e1 t ht,e2 t ht]
  have:=qN4 (X ++ A.take t) [] (A.drop (t+1) ++ Z) A[t] x (X.length+t) (X.length+t+1) (by simp;omega) (by simp;omega)
  simpa using this
end
open Go.RowKit Go.Sort
theorem qDt {w W' w1:World}{g o0 o1 o2 o3 o4 o5 o6 o7 o8 o9 o10 o11 o12 o13:Nat}{x0 x1 x2 x3 x4 x5 x6 x7 x8 x9 x10 x11 x12 x13:Value}(h:W'.cell? ⟨g,o0,none⟩=some x0∧W'.cell? ⟨g,o1,none⟩=some x1∧W'.cell? ⟨g,o2,none⟩=some x2∧W'.cell? ⟨g,o3,none⟩=some x3∧W'.cell? ⟨g,o4,none⟩=some x4∧W'.cell? ⟨g,o5,none⟩=some x5∧W'.cell? ⟨g,o6,none⟩=some x6∧W'.cell? ⟨g,o7,none⟩=some x7∧W'.cell? ⟨g,o8,none⟩=some x8∧W'.cell? ⟨g,o9,none⟩=some x9∧W'.cell? ⟨g,o10,none⟩=some x10∧W'.cell? ⟨g,o11,none⟩=some x11∧W'.cell? ⟨g,o12,none⟩=some x12∧W'.cell? ⟨g,o13,none⟩=some x13∧Below w.heap.size w W')(hb:Below W'.heap.size W' w1) :
  w1.cell? ⟨g,o0,none⟩=some x0∧w1.cell? ⟨g,o1,none⟩=some x1∧w1.cell? ⟨g,o2,none⟩=some x2∧w1.cell? ⟨g,o3,none⟩=some x3∧w1.cell? ⟨g,o4,none⟩=some x4∧w1.cell? ⟨g,o5,none⟩=some x5∧w1.cell? ⟨g,o6,none⟩=some x6∧w1.cell? ⟨g,o7,none⟩=some x7∧w1.cell? ⟨g,o8,none⟩=some x8∧w1.cell? ⟨g,o9,none⟩=some x9∧w1.cell? ⟨g,o10,none⟩=some x10∧w1.cell? ⟨g,o11,none⟩=some x11∧w1.cell? ⟨g,o12,none⟩=some x12∧w1.cell? ⟨g,o13,none⟩=some x13∧Below w.heap.size w w1:=by
 obtain⟨h0,h1,h2,h3,h4,h5,h6,h7,h8,h9,h10,h11,h12,h13,h14⟩:=h
 exact⟨qAd h0 hb,qAd h1 hb,qAd h2 hb,qAd h3 hb,qAd h4 hb,qAd h5 hb,qAd h6 hb,qAd h7 hb,qAd h8 hb,qAd h9 hb,qAd h10 hb,qAd h11 hb,qAd h12 hb,qAd h13 hb,qAa h14 hb⟩
structure VE (w0:World) where
 cs:List Value
 v:JV
 rd:RdV w0 cs v
 may:mayJ 200 v=true
 sm:SmallV v
instance (w0:World):Inhabited (VE w0):=⟨⟨_,.null,qBG w0,by decide,.mk _ (by decide) (by decide) (by decide) (fun _ h=>by cases h) (fun _ h=>by cases h) (fun _ h=>by cases h)⟩⟩
abbrev VT (w0:World):=VE w0 × Nat
section
variable {w0:World}
def encT (p:VT w0):List Value:=p.1.cs
theorem qFQ (p:VT w0):(encT p).length=7:=p.1.rd.len
theorem qAN (p:VT w0):∃k g a n c e s aa an ac oa on oc,encT p=valCs k g a n c e s aa an ac oa on oc:=p.1.rd.seven
def veC (x y:VE w0):Int:=orderJ 201 x.v y.v
theorem qFd:OrdOn (fun _:VE w0=>True) veC:=by
 have h:=(qGN 201).by (fun x:VE w0=>x.v)
 exact h.mono (fun x _=>⟨200,x.may⟩)
def HoldV (g off:Nat) (l:List (VT w0)) (W:World):Prop:=HoldsK encT 7 W g off l.toArray∧Below w0.heap.size w0 W∧w0.heap.size≤g∧g<W.heap.size
variable {g off:Nat} {l:List (VT w0)} {W W':World}
theorem HoldV.stay (h:HoldV g off l W)(hb:Below W.heap.size W W'):HoldV g off l W':=by
 refine⟨fun j hj=>?_,qAa h.2.1 hb,h.2.2.1,Nat.lt_of_lt_of_le h.2.2.2 hb.size⟩
 have:=h.1 j hj
 exact⟨qAd this.1 hb,by rw[(bcell hb).2 _ _ h.2.2.2];exact this.2⟩
theorem HoldV.cells (h:HoldV g off l W){i:Nat}{p:VT w0}(hp:l[i]? = some p){x0 x1 x2 x3 x4 x5 x6:Value}(e:encT p=[x0,x1,x2,x3,x4,x5,x6]) :
  W.cell? ⟨g,off+i * 7,none⟩=some x0∧W.cell? ⟨g,off+i * 7+1,none⟩=some x1∧W.cell? ⟨g,off+i * 7+2,none⟩=some x2∧W.cell? ⟨g,off+i * 7+3,none⟩=some x3∧W.cell? ⟨g,off+i * 7+4,none⟩=some x4∧W.cell? ⟨g,off+i * 7+5,none⟩=some x5∧W.cell? ⟨g,off+i * 7+6,none⟩=some x6:=by
 obtain⟨hi,he⟩:=List.getElem?_eq_some_iff.1 hp
 have hi2:i<l.toArray.size:=by simpa using hi
 have hg:l.toArray[i]! = p:=by
  rw[getElem!_pos _ i hi2]
  simpa using he
 have hc:=HoldsK.cells h.1 qFQ hi2
 rw[hg,e] at hc
 simp only[Addr.add_lit] at hc
 exact⟨hc 0 _ rfl,hc 1 _ rfl,hc 2 _ rfl,hc 3 _ rfl,hc 4 _ rfl,hc 5 _ rfl,hc 6 _ rfl⟩
theorem HoldV.frozen (h:HoldV g off l W){i:Nat}(hi:i<l.length):∀c,c<7→W.frozen? ⟨g,off+i * 7+c,none⟩=false:=by
 intro c hc
 have:=(h.1 (i * 7+c) (by rw[size_flatK,List.size_toArray];omega)).2
 rw[←Nat.add_assoc] at this
 exact this
theorem HoldV.swap (h:HoldV g off l W){i j:Nat}{p q:VT w0}(hp:l[i]? = some p)(hq:l[j]? = some q){m:List (VT w0)}(hm:swp l.toArray i j=m.toArray):HoldV g off m ((W.drew.setCells g (off+i * 7) (encT q)).setCells g (off+j * 7) (encT p)):=by
 obtain⟨hi,he⟩:=List.getElem?_eq_some_iff.1 hp
 obtain⟨hj,he'⟩:=List.getElem?_eq_some_iff.1 hq
 have hi2:i<l.toArray.size:=by simpa using hi
 have hj2:j<l.toArray.size:=by simpa using hj
 have hg:l.toArray[i]! = p:=by rw[getElem!_pos _ i hi2];simpa using he
 have hg':l.toArray[j]! = q:=by rw[getElem!_pos _ j hj2];simpa using he'
 have e0:W=sortWorldK encT 7 W g off 0 l.toArray #[]:=by unfold sortWorldK;rw[grow_empty];exact (putRowK_self encT 7 W g off l.toArray h.1).symm
 have e1:=sortWorldK_swp_c encT 7 W g off qFQ 0 l.toArray #[] h.2.2.2 i j hi2 hj2
 rw[←e0,hg,hg'] at e1
 have e2:=holdsK_sortWorldK_c encT 7 W g off l.toArray (swp l.toArray i j) (0+1) #[] h.1 h.2.2.2 (size_swp _ _ _)
 have e3:=size_sortWorldK_c encT 7 W g off (0+1) (swp l.toArray i j) #[]
 rw[←e1] at e2 e3
 rw[hm] at e2
 refine⟨e2,?_,h.2.2.1,Nat.lt_of_lt_of_le h.2.2.2 e3⟩
 exact qAj _ h.2.2.1 _ _ _ (qAj _ h.2.2.1 _ _ _ h.2.1.drew)
theorem qBT (b:Nat):∀(vs:List Value) (o:Nat) (W:World),W.drew.setCells b o vs=(W.setCells b o vs).drew
 | [],_,_=>rfl
 | v :: vs,o,W=>qBT b vs (o+1) (W.setCell ⟨b,o,none⟩ v)
theorem qGJ (W:World)(b o:Nat)(x0 x1 x2 x3 x4 x5 x6:Value):W.setCells b o [x0,x1,x2,x3,x4,x5,x6]=((((((W.setCell ⟨b,o,none⟩ x0).setCell ⟨b,o+1,none⟩ x1).setCell ⟨b,o+2,none⟩ x2).setCell ⟨b,o+3,none⟩ x3).setCell ⟨b,o+4,none⟩ x4).setCell ⟨b,o+5,none⟩ x5).setCell ⟨b,o+6,none⟩ x6:=rfl
theorem HoldV.swap7 (h:HoldV g off l W){i j:Nat}{p q:VT w0}(hp:l[i]? = some p)(hq:l[j]? = some q){m:List (VT w0)}(hm:swp l.toArray i j=m.toArray){x0 x1 x2 x3 x4 x5 x6 y0 y1 y2 y3 y4 y5 y6:Value}(ex:encT p=[x0,x1,x2,x3,x4,x5,x6])(ey:encT q=[y0,y1,y2,y3,y4,y5,y6]) :
  HoldV g off m (((((((((((((((W.setCell ⟨g,off+i * 7,none⟩ y0).setCell ⟨g,off+i * 7+1,none⟩ y1).setCell ⟨g,off+i * 7+2,none⟩ y2).setCell ⟨g,off+i * 7+3,none⟩ y3).setCell ⟨g,off+i * 7+4,none⟩ y4).setCell ⟨g,off+i * 7+5,none⟩ y5).setCell ⟨g,off+i * 7+6,none⟩ y6).setCell ⟨g,off+j * 7,none⟩ x0).setCell ⟨g,off+j * 7+1,none⟩ x1).setCell ⟨g,off+j * 7+2,none⟩ x2).setCell ⟨g,off+j * 7+3,none⟩ x3).setCell ⟨g,off+j * 7+4,none⟩ x4).setCell ⟨g,off+j * 7+5,none⟩ x5).setCell ⟨g,off+j * 7+6,none⟩ x6).drew):=by
 have e:=h.swap hp hq hm
 rw[ex,ey,qBT,qBT,qGJ,qGJ] at e
 exact e
end
open Go.RowKit Go.Sort
set_option maxRecDepth 100000 in
set_option maxHeartbeats 6400000 in
theorem qBJ {w0:World}(g off cap:Nat)(X U M V Y:List (VT w0))(n a b L:Nat)(fv:Value)(w:World)(hU:U.length=n)(hV:V.length=n)(ha:X.length=a)(hb:X.length+n+M.length=b)(hL:(X ++ U ++ M ++ V ++ Y).length=L)(hLs:L≤1048576)(h:HoldV g off (X ++ U ++ M ++ V ++ Y) w) :
  Calls Tryz.prog 203 #[.slice (some ⟨g,off,none⟩) L cap,.int .i64 a,.int .i64 b,.int .i64 n,fv] w fun e w'=>e=.returned (.tuple #[])∧HoldV g off (X ++ V ++ M ++ U ++ Y) w':=by
 have h1:b+n≤L:=by
  rw[←hL]
  simp only[List.length_append]
  omega
 have h2:a+n≤b:=by omega
 have h0:=hid (show HoldV g off (X ++ (V.take 0 ++ U.drop 0) ++ M ++ (U.take 0 ++ V.drop 0) ++ Y) w by simpa using h)
 have hlen:=hid (show ∀k,k≤n→(X ++ (V.take k ++ U.drop k) ++ M ++ (U.take k ++ V.drop k) ++ Y).length=L by
  intro k hk
  rw[←hL]
  simp only[List.length_append,List.length_take,List.length_drop]
  omega)
 have hs:=hid (show ∀k,k<n→swp (X ++ (V.take k ++ U.drop k) ++ M ++ (U.take k ++ V.drop k) ++ Y).toArray (a+k) (b+k)=(X ++ (V.take (k+1) ++ U.drop (k+1)) ++ M ++ (U.take (k+1) ++ V.drop (k+1)) ++ Y).toArray by
  intro k hk
  have:=qLq X M Y U V n k hU hV hk
  rw[ha,show a+n+M.length=b by omega] at this
  exact this)
 have hfin:Hid (∀wr,HoldV g off (X ++ (V.take n ++ U.drop n) ++ M ++ (U.take n ++ V.drop n) ++ Y) wr→HoldV g off (X ++ V ++ M ++ U ++ Y) wr):=by
  intro wr hh
  rw[List.take_of_length_le (by omega),List.take_of_length_le (by omega),List.drop_of_length_le (by omega),List.drop_of_length_le (by omega),List.append_nil,List.append_nil] at hh
  exact hh
 replace hfin:=hid hfin.out
 obtain⟨Z,hZ⟩:∃Z,Z=X ++ V ++ M ++ U ++ Y:=⟨_,rfl⟩
 rw[←hZ] at hfin ⊢
 obtain⟨T,hT⟩:∃T:Nat→List (VT w0),T=fun k=>X ++ (V.take k ++ U.drop k) ++ M ++ (U.take k ++ V.drop k) ++ Y:=⟨_,rfl⟩
 have g0:Hid (HoldV g off (T 0) w):=by rw[hT];exact h0
 have g1:Hid (∀k,k≤n→(T k).length=L):=by rw[hT];exact hlen
 have g2:Hid (∀k,k<n→swp (T k).toArray (a+k) (b+k)=(T (k+1)).toArray):=by rw[hT];exact hs
 have g3:Hid (∀wr,HoldV g off (T n) wr→HoldV g off Z wr):=by rw[hT];exact hfin
 clear hT hZ h0 hlen hs hfin h hU hV ha hb hL
 go_enter Tryz.func203,Tryz.ntmps203
 go_upto_region 1 with fail
 go_loopw [10] (fun v10 wr=>∃k:Nat,k≤n∧v10=.int .i64 k∧Hid (HoldV g off (T k) wr)) (fun v10 _=>n-(intOf v10).toNat)
 case atStart=>exact⟨0,Nat.zero_le _,rfl,g0⟩
 case round =>
  obtain⟨k,hk,rfl,H⟩:=hrel
  by_cases hlt:k<n
  ·have hlt2:(k:Int)<(n:Int):=by omega
   have hl:=g1.out k hk
   obtain⟨p,hp⟩:∃p,(T k)[a+k]? = some p:=⟨_,List.getElem?_eq_getElem (by omega)⟩
   obtain⟨q,hq⟩:∃q,(T k)[b+k]? = some q:=⟨_,List.getElem?_eq_getElem (by omega)⟩
   obtain⟨k1,q1,a1,n1,z1,w1,s1,aa1,an1,ac1,oa1,on1,oc1,ex⟩:=qAN p
   obtain⟨k2,q2,a2,n2,z2,w2,s2,aa2,an2,ac2,oa2,on2,oc2,ey⟩:=qAN q
   unfold valCs strV at ex ey
   generalize (⟨s1.toArray⟩:ByteArray)=sb1 at ex
   generalize (⟨s2.toArray⟩:ByteArray)=sb2 at ey
   obtain⟨c0,c1,c2,c3,c4,c5,c6⟩:=H.out.cells hp ex
   obtain⟨d0,d1,d2,d3,d4,d5,d6⟩:=H.out.cells hq ey
   have f1:=H.out.frozen (i:=a+k) (by omega)
   have f2:=H.out.frozen (i:=b+k) (by omega)
   have e1:=hid (H.out.swap7 hp hq (g2.out k hlt) ex ey)
   have u0:=f1 0 (by omega)
   have u1:=f1 1 (by omega)
   have u2:=f1 2 (by omega)
   have u3:=f1 3 (by omega)
   have u4:=f1 4 (by omega)
   have u5:=f1 5 (by omega)
   have u6:=f1 6 (by omega)
   have v0:=f2 0 (by omega)
   have v1:=f2 1 (by omega)
   have v2:=f2 2 (by omega)
   have v3:=f2 3 (by omega)
   have v4:=f2 4 (by omega)
   have v5:=f2 5 (by omega)
   have v6:=f2 6 (by omega)
   rw[Nat.add_zero] at u0 v0
   have i1:a+k<L:=by omega
   have i2:b+k<L:=by omega
   have i3:(a:Int)+(k:Int)<(L:Int):=by omega
   have i4:(b:Int)+(k:Int)<(L:Int):=by omega
   clear f1 f2 hp hq ex ey hl
   have mixed:Tryz.prog.follows .mixedOrders=true:=by kernel_rfl
   go_wp2_with fail
   go_big_region_o
   all_goals
    go_wp2_with fail
    go_roundw
    case rel=>exact⟨k+1,by omega,by go_num,e1⟩
    case measure=>simp[intOf];omega
  ·obtain rfl:k=n:=by omega
   have hlt2:¬ ((k:Nat):Int)<(k:Int):=by omega
   have hF:=hid (g3.out _ H.out)
   go_wp2_with fail
   go_end0
   exact⟨rfl,hF.out⟩
set_option maxRecDepth 100000 in
set_option maxHeartbeats 3200000 in
theorem qHH {w0:World}(g off cap:Nat)(X U V Y:List (VT w0))(a m b L:Nat)(fv:Value)(w:World)(ha:X.length=a)(hm:a+U.length=m)(hb:m+V.length=b)(hU:0<U.length)(hV:0<V.length)(hL:(X ++ U ++ V ++ Y).length=L)(hLs:L≤1048576)(h:HoldV g off (X ++ U ++ V ++ Y) w) :
  Calls Tryz.prog 171 #[.slice (some ⟨g,off,none⟩) L cap,.int .i64 a,.int .i64 m,.int .i64 b,fv] w fun e w'=>e=.returned (.tuple #[])∧HoldV g off (X ++ V ++ U ++ Y) w':=by
 obtain⟨T,hT⟩:∃T,T=X ++ V ++ U ++ Y:=⟨_,rfl⟩
 rw[←hT]
 obtain⟨i0,hi0⟩:∃i0,i0=U.length:=⟨_,rfl⟩
 obtain⟨j0,hj0⟩:∃j0,j0=V.length:=⟨_,rfl⟩
 rw[←hi0] at hm hU
 rw[←hj0] at hb hV
 have hbL:b≤L:=by
  rw[←hL]
  simp only[List.length_append]
  omega
 have hst:Hid (∃X' P Q Y':List (VT w0),P.length=i0∧Q.length=j0∧X'.length+i0=m∧X' ++ Q ++ P ++ Y'=T∧(X' ++ P ++ Q ++ Y').length=L∧HoldV g off (X' ++ P ++ Q ++ Y') w):=⟨X,U,V,Y,hi0.symm,hj0.symm,by omega,hT.symm,hL,h⟩
 have hw1:IntKind.i64.wrap ((m:Int)-(a:Int))=(i0:Int):=by rw[IntWalk.i64_in _ (by omega)];omega
 have hw2:IntKind.i64.wrap ((b:Int)-(m:Int))=(j0:Int):=by rw[IntWalk.i64_in _ (by omega)];omega
 clear h hL hT hi0 hj0 ha
 have him:i0≤m:=by omega
 have hjm:m+j0≤L:=by omega
 clear hm hb
 go_enter Tryz.func171,Tryz.ntmps171
 go_upto_region 2 with fail
 go_loopw [10,11] (fun v10 v11 wr=>∃i j:Nat,0<i∧0<j∧i≤m∧m+j≤L∧v10=.int .i64 i∧v11=.int .i64 j∧Hid (∃X' P Q Y':List (VT w0),P.length=i∧Q.length=j∧X'.length+i=m∧X' ++ Q ++ P ++ Y'=T∧(X' ++ P ++ Q ++ Y').length=L∧HoldV g off (X' ++ P ++ Q ++ Y') wr)) (fun v10 v11 _=>(intOf v10).toNat+(intOf v11).toNat)
 case atStart=>exact⟨i0,j0,hU,hV,him,hjm,rfl,rfl,hst⟩
 case round =>
  clear hst hw1 hw2 him hjm hU hV
  obtain⟨i,j,hi,hj,him,hjm,rfl,rfl,hst⟩:=hrel
  have hw3:IntKind.i64.wrap ((m:Int)-(i:Int))=((m-i:Nat):Int):=by rw[IntWalk.i64_in _ (by omega)];omega
  by_cases hij:i=j
  ·subst hij
   have f1:((i:Int) != (i:Int))=false:=by simp
   have C:=hid (by
    obtain⟨X',P,Q,Y',hP,hQ,hX,hT,hL,hH⟩:=hst.out
    have:=qBJ g off cap X' P [] Q Y' i (m-i) m L fv wr hP hQ (by omega) (by simp;omega) (by simpa using hL) hLs (by simpa using hH)
    rw[show X' ++ Q ++ [] ++ P ++ Y'=T by rw[←hT];simp] at this
    exact this:Calls Tryz.prog 203 #[.slice (some ⟨g,off,none⟩) L cap,.int .i64 ((m-i:Nat):Int),.int .i64 m,.int .i64 i,fv] wr fun e w'=>e=.returned (.tuple #[])∧HoldV g off T w')
   clear hst
   go_wp2_with fail
   refine C.out.mono ?_
   rintro en w1 ⟨rfl,hH⟩
   have hF:=hid hH
   clear hH
   go_wp2_with fail
   go_end0
   exact⟨rfl,hF.out⟩
  ·have f1:((i:Int) != (j:Int))=true:=by rw[bne_iff_ne];omega
   by_cases hgt:j<i
   ·have hgt2:(j:Int)<(i:Int):=by omega
    have hw4:IntKind.i64.wrap ((i:Int)-(j:Int))=((i-j:Nat):Int):=by rw[IntWalk.i64_in _ (by omega)];omega
    have C:=hid (by
     obtain⟨X',P,Q,Y',hP,hQ,hX,hT,hL,hH⟩:=hst.out
     have e:P=P.take j ++ P.drop j:=(List.take_append_drop j P).symm
     have:=qBJ g off cap X' (P.take j) (P.drop j) Q Y' j (m-i) m L fv wr (by rw[List.length_take];omega) hQ (by omega) (by rw[List.length_drop];omega) (by rw[←hL];simp) hLs (by rw[e] at hH;simpa using hH)
     refine this.mono ?_
     rintro en w1 ⟨he,hh⟩
     refine⟨he,X' ++ Q,P.drop j,P.take j,Y',by rw[List.length_drop];omega,by rw[List.length_take];omega,by simp;omega,by rw[←hT];simp,?_,by simpa using hh⟩
     rw[←hL]
     simp
     omega:Calls Tryz.prog 203 #[.slice (some ⟨g,off,none⟩) L cap,.int .i64 ((m-i:Nat):Int),.int .i64 m,.int .i64 j,fv] wr fun e w'=>e=.returned (.tuple #[])∧∃X' P Q Y':List (VT w0),P.length=i-j∧Q.length=j∧X'.length+(i-j)=m∧X' ++ Q ++ P ++ Y'=T∧(X' ++ P ++ Q ++ Y').length=L∧HoldV g off (X' ++ P ++ Q ++ Y') w')
    clear hst
    go_wp2_with fail
    refine C.out.mono ?_
    rintro en w1 ⟨rfl,hH⟩
    have hF:=hid hH
    clear hH
    go_wp2_with fail
    go_roundw
    case rel=>exact⟨i-j,j,by omega,by omega,by omega,by omega,rfl,rfl,hF⟩
    case measure=>simp[intOf];omega
   ·have hlt2:¬ (j:Int)<(i:Int):=by omega
    have hw4:IntKind.i64.wrap ((j:Int)-(i:Int))=((j-i:Nat):Int):=by rw[IntWalk.i64_in _ (by omega)];omega
    have hw5:IntKind.i64.wrap ((m:Int)+(j:Int))=(m:Int)+(j:Int):=by rw[IntWalk.i64_in _ (by omega)]
    have hw6:IntKind.i64.wrap ((m:Int)+(j:Int)-(i:Int))=((m+j-i:Nat):Int):=by rw[IntWalk.i64_in _ (by omega)];omega
    have C:=hid (by
     obtain⟨X',P,Q,Y',hP,hQ,hX,hT,hL,hH⟩:=hst.out
     have e:Q=Q.take (j-i) ++ Q.drop (j-i):=(List.take_append_drop (j-i) Q).symm
     have:=qBJ g off cap X' P (Q.take (j-i)) (Q.drop (j-i)) Y' i (m-i) (m+j-i) L fv wr hP (by rw[List.length_drop];omega) (by omega) (by rw[List.length_take];omega) (by rw[←hL];simp) hLs (by rw[e] at hH;simpa using hH)
     refine this.mono ?_
     rintro en w1 ⟨he,hh⟩
     refine⟨he,X',Q.drop (j-i),Q.take (j-i),P ++ Y',by rw[List.length_drop];omega,by rw[List.length_take];omega,by omega,by rw[←hT];simp,?_,by simpa using hh⟩
     rw[←hL]
     simp
     omega:Calls Tryz.prog 203 #[.slice (some ⟨g,off,none⟩) L cap,.int .i64 ((m-i:Nat):Int),.int .i64 ((m+j-i:Nat):Int),.int .i64 i,fv] wr fun e w'=>e=.returned (.tuple #[])∧∃X' P Q Y':List (VT w0),P.length=i∧Q.length=j-i∧X'.length+i=m∧X' ++ Q ++ P ++ Y'=T∧(X' ++ P ++ Q ++ Y').length=L∧HoldV g off (X' ++ P ++ Q ++ Y') w')
    clear hst
    go_wp2_with fail
    refine C.out.mono ?_
    rintro en w1 ⟨rfl,hH⟩
    have hF:=hid hH
    clear hH
    go_wp2_with fail
    go_roundw
    case rel=>exact⟨i,j-i,by omega,by omega,by omega,by omega,rfl,rfl,hF⟩
    case measure=>simp[intOf];omega
open Go.RowKit Go.Sort
def CmpC (w0:World) (g:Nat):Prop:=∀(p q:VT w0) (W:World),Below w0.heap.size w0 W→Calls Tryz.prog g #[.agg (encT p).toArray,.agg (encT q).toArray] W fun e w'=>e=.returned (.int .i64 (veC p.1 q.1))∧Below W.heap.size W w'
set_option maxRecDepth 100000 in
set_option maxHeartbeats 6400000 in
theorem qEF {w0:World}(g:Nat)(eg:∀args w,(callFunc g args).run Tryz.prog w=.ok (.enter g args) w)(hC:CmpC w0 g)(gb off cap:Nat)(X S Y:List (VT w0))(a b L:Nat)(w:World)(ha:X.length=a)(hb:a+S.length=b)(hL:(X ++ S ++ Y).length=L)(hLs:L≤1048576)
  (htag:(S.map (·.2)).Pairwise (·<·))(h:HoldV gb off (X ++ S ++ Y) w) :
  Calls Tryz.prog 134 #[.slice (some ⟨gb,off,none⟩) L cap,.int .i64 a,.int .i64 b,.func (.func g) #[] #[]] w fun e w'=>e=.returned (.tuple #[])∧∃S':List (VT w0),S'.Perm S∧Stab veC S'∧HoldV gb off (X ++ S' ++ Y) w':=by
 have hbL:b≤L:=by
  rw[←hL]
  simp only[List.length_append]
  omega
 have hfin:Hid (∀wr (P:List (VT w0)),P.Perm S→Stab veC P→HoldV gb off (X ++ P ++ [] ++ Y) wr→∃S':List (VT w0),S'.Perm S∧Stab veC S'∧HoldV gb off (X ++ S' ++ Y) wr):=by
  intro wr P h1 h2 h3
  exact⟨P,h1,h2,by simpa using h3⟩
 have hst:Hid (∃P:List (VT w0),P.Perm (S.take 1)∧Stab veC P∧HoldV gb off (X ++ P ++ S.drop 1 ++ Y) w):=by
  refine⟨S.take 1,List.Perm.refl _,?_,by rw[List.append_assoc X,List.take_append_drop];exact h⟩
  cases S with
  | nil=>exact List.Pairwise.nil
  | cons y S=>exact List.pairwise_singleton _ _
 obtain⟨G,hG⟩:∃G:List (VT w0)→World→Prop,G=fun S' W=>HoldV gb off (X ++ S' ++ Y) W:=⟨_,rfl⟩
 have hfin2:Hid (∀wr (P:List (VT w0)),P.Perm S→Stab veC P→HoldV gb off (X ++ P ++ [] ++ Y) wr→∃S':List (VT w0),S'.Perm S∧Stab veC S'∧G S' wr):=by rw[hG];exact hfin
 show Calls _ _ _ w fun e w'=>e=.returned (.tuple #[])∧∃S':List (VT w0),S'.Perm S∧Stab veC S'∧(fun S' W=>HoldV gb off (X ++ S' ++ Y) W) S' w'
 rw[←hG]
 clear hG hfin
 replace hC:=hid hC
 replace htag:=hid htag
 have hLX:Hid (∀Q:List (VT w0),Q.length=S.length→(X ++ Q ++ Y).length=L):=by
  intro Q hQ
  rw[←hL]
  simp only[List.length_append]
  omega
 clear h hL
 go_enter Tryz.func134,Tryz.ntmps134
 go_upto_region 1 with fail
 go_loopw [8] (fun v8 wr=>∃i I:Nat,1≤i∧Hid (I=a+i)∧v8=.int .i64 I∧i≤S.length+1∧Hid (∃P:List (VT w0),P.Perm (S.take i)∧Stab veC P∧HoldV gb off (X ++ P ++ S.drop i ++ Y) wr)) (fun v8 _=>b+1-(intOf v8).toNat)
 case atStart=>exact⟨1,a+1,Nat.le_refl _,hid rfl,by go_num,by omega,hst⟩
 case round =>
  clear hst
  obtain⟨i,I,hi1,hI,rfl,hi2,hst⟩:=hrel
  have hIle:I≤b+1:=by have:=hI.out;omega
  by_cases hlt:I<b
  ·have hlt2:(I:Int)<(b:Int):=by omega
   have hIi:=hI.out
   obtain⟨P,hP,hS,hH⟩:=hst.out
   have hPl:P.length=i:=by
    have:=hP.length_eq
    rw[List.length_take] at this
    omega
   have hiS:i<S.length:=by omega
   obtain⟨x,hx⟩:∃x,x=S[i]:=⟨_,rfl⟩
   have hM:=hid (qLr X P (S.drop (i+1) ++ Y) x a L ha (by rw[List.length_append,List.length_drop];have:=hLX.out S rfl;simp only[List.length_append] at this;omega))
   have hxt:Hid (∀p ∈ P,p.2<x.2):=by
    intro p hp
    have h1:=hP.mem_iff.1 hp
    obtain⟨j,hj,e⟩:=List.mem_iff_getElem.1 h1
    rw[List.length_take] at hj
    rw[List.getElem_take] at e
    have:=List.pairwise_iff_getElem.1 htag.out j i (by simpa using (by omega:j<S.length)) (by simpa using hiS) (by omega)
    rw[List.getElem_map,List.getElem_map] at this
    rw[←e,hx]
    exact this
   have hT0:Hid (HoldV gb off ((fun t=>X ++ P.take t ++ x :: (P.drop t ++ (S.drop (i+1) ++ Y))) i) wr):=by
    show HoldV gb off (X ++ P.take i ++ x :: (P.drop i ++ (S.drop (i+1) ++ Y))) wr
    rw[List.take_of_length_le (by omega),List.drop_of_length_le (by omega),List.nil_append,hx,←List.cons_append,←List.drop_eq_getElem_cons hiS,←List.append_assoc]
    exact hH
   have hTe:Hid (∀(t:Nat) (wr':World),t≤i→(∀p ∈ (P.take t).getLast?,¬ veC x.1 p.1<0)→(∀q ∈ (P.drop t).head?,veC x.1 q.1<0)→HoldV gb off ((fun t=>X ++ P.take t ++ x :: (P.drop t ++ (S.drop (i+1) ++ Y))) t) wr' →
     ∃Q:List (VT w0),Q.Perm (S.take (i+1))∧Stab veC Q∧HoldV gb off (X ++ Q ++ S.drop (i+1) ++ Y) wr'):=by
    intro t wr' ht k1 k2 hh
    refine⟨P.take t ++ x :: P.drop t,?_,?_,?_⟩
    ·rw[List.take_succ_eq_append_getElem hiS,←hx]
     refine List.perm_middle.trans ?_
     rw[List.take_append_drop]
     exact ((hP.cons x).trans (List.perm_append_singleton x _).symm)
    ·refine qFL qFd (fun _ _=>trivial) trivial (by rw[List.take_append_drop];exact hS) (fun p hp=>?_) (fun q hq=>Or.inl (k2 q hq))
     have n:=k1 p hp
     have e:=(qFd (w0:=w0)).anti x.1 p.1 trivial trivial
     have tg:=hxt.out p (List.mem_of_mem_take (List.mem_of_getLast? hp))
     unfold Lt
     omega
    ·simpa using hh
   generalize (fun t=>X ++ P.take t ++ x :: (P.drop t ++ (S.drop (i+1) ++ Y)))=T at hM hT0 hTe
   replace hPl:=hid hPl
   clear hP hS hH hst hxt hx hiS
   clear hIi
   have hN:Hid (∀t:Nat,t=i→∀q ∈ (P.drop t).head?,veC x.1 q.1<0):=by
    intro t ht q hq
    rw[List.drop_of_length_le (by have:=hPl.out;omega)] at hq
    cases hq
   go_upto_region 4 with fail
   go_loopw [9] (fun v9 wr=>∃t J:Nat,t≤i∧Hid (J=a+t)∧J≤I∧v9=.int .i64 J∧Hid (∀q ∈ (P.drop t).head?,veC x.1 q.1<0)∧Hid (HoldV gb off (T t) wr)) (fun v9 _=>(intOf v9).toNat)
   case atStart=>exact⟨i,I,Nat.le_refl _,hI,Nat.le_refl _,rfl,hid (hN.out i rfl),hT0⟩
   case round =>
    clear hT0 hN
    obtain⟨t,J,ht,hJ,hJI,rfl,hN,hT⟩:=hrel
    by_cases ht0:t=0
    ·subst ht0
     obtain rfl:J=a:=hJ.out
     have hg:decide ((J:Int) > (J:Int))=false:=decide_eq_false (by omega)
     have hg2:¬ (J:Int)<(J:Int):=by omega
     have hq:=hid (fun W' (hb:Below wr.heap.size wr W')=>hTe.out 0 W' (by omega) (fun p hp=>by simp at hp) hN.out (hT.out.stay hb))
     have hI1:Hid (I+1=J+(i+1)):=by have:=hI.out;show _=_;omega
     have hiS:i+1≤S.length+1:=by have:=hI.out;omega
     clear hTe hN hT hM hJ hg
     go_wp2_with fail
     go_quiet (fail)
     all_goals
      go_wp2_with fail
      go_roundw
      case rel=>exact⟨i+1,I+1,by omega,hI1,by go_num,by omega,hid (hq.out _ (by first | exact (Below.refl _ _).drew | exact Below.refl _ _ | exact below_drewN (Below.refl _ _) _))⟩
      case measure=>simp[intOf];omega
    ·obtain⟨t,rfl⟩:∃s,t=s+1:=⟨t-1,by omega⟩
     have htP:t<P.length:=by have:=hPl.out;omega
     obtain⟨K,hK⟩:∃K,K=a+t:=⟨_,rfl⟩
     obtain rfl:J=K+1:=by have:=hJ.out;omega
     have hx1:=hM.out.atx (t+1) (by omega)
     have hp1:=hM.out.before t htP
     have hsw:=hM.out.down t htP
     have hfit:=hM.out.fit
     rw[show a+(t+1)=K+1 by omega] at hx1
     rw[show a+t+1=K+1 by omega] at hsw
     rw[←hK] at hp1 hsw
     have hg2:(a:Int)<(K:Int)+1:=by omega
     have hKL:K+1<L:=by omega
     have hKL2:(K:Int)+1<(L:Int):=by omega
     have hKL3:(K:Int)<(L:Int):=by omega
     have hwp:IntKind.i64.wrap (K:Int)=(K:Int):=by rw[IntKind.wrap_i64];omega
     have hwp2:IntKind.i64.wrap ((K:Int)+1-1)=(K:Int):=by rw[IntKind.wrap_i64];omega
     have hK0:(0:Int)≤(K:Int):=by omega
     have hp0:(0:Int)≤(K:Int)+1:=by omega
     have he0:((K:Int)+1).toNat=K+1:=by omega
     obtain⟨p,hp⟩:∃p,P[t]? = some p:=⟨_,List.getElem?_eq_getElem htP⟩
     rw[hp] at hp1
     have hlast:=hid (show (P.take (t+1)).getLast? = some p by
      rw[List.take_succ_eq_append_getElem htP]
      rw[List.getLast?_append,List.getLast?_singleton,(List.getElem?_eq_some_iff.1 hp).2]
      rfl)
     have hhead:=hid (show (P.drop t).head? = some p by
      rw[List.head?_drop]
      exact hp)
     have hC0:=hid (fun W' (hb:Below wr.heap.size wr W')=>hC.out x p W' (qAa hT.out.2.1 hb))
     obtain⟨d,hd⟩:∃d,d=veC x.1 p.1:=⟨_,rfl⟩
     rw[←hd] at hC0
     obtain⟨k1,q1,a1,n1,z1,w1,s1,aa1,an1,ac1,oa1,on1,oc1,ex⟩:=qAN x
     obtain⟨k2,q2,a2,n2,z2,w2,s2,aa2,an2,ac2,oa2,on2,oc2,ey⟩:=qAN p
     unfold valCs strV at ex ey
     generalize (⟨s1.toArray⟩:ByteArray)=sb1 at ex
     generalize (⟨s2.toArray⟩:ByteArray)=sb2 at ey
     rw[ex,ey] at hC0
     obtain⟨c0,c1,c2,c3,c4,c5,c6⟩:=hT.out.cells hx1 ex
     obtain⟨d0,d1,d2,d3,d4,d5,d6⟩:=hT.out.cells hp1 ey
     have hll:(T (t+1)).length=L:=hM.out.len (t+1) (by omega)
     have hH2:=hid (fun W' (hb:Below wr.heap.size wr W')=>hT.out.stay hb)
     have hEX:=hid (And.intro ex ey)
     have hXP:=hid (And.intro hx1 (And.intro hp1 hsw))
     have hDD:=hid hd
     replace hll:=hid hll
     replace hp:=hid hp
     clear hK hx1 hp1 hsw hfit ex ey hd hM hT
     by_cases hneg:d<0
     ·have hN2:Hid (∀q ∈ (P.drop t).head?,veC x.1 q.1<0):=by
       intro q hq
       rw[hhead.out] at hq
       injection hq with hq
       rw[←hq,←hDD.out]
       exact hneg
      clear hTe hN hhead hlast hDD
      go_wp2_with fail
      first | go_region_held3 (fun W'=>W'.cell? ⟨gb,off+(K+1) * 7,none⟩=some (.int .i64 k1)∧W'.cell? ⟨gb,off+(K+1) * 7+1,none⟩=some (.bool q1)∧W'.cell? ⟨gb,off+(K+1) * 7+2,none⟩=some (.slice a1 n1 z1)∧W'.cell? ⟨gb,off+(K+1) * 7+3,none⟩=some (.int .i64 w1)∧W'.cell? ⟨gb,off+(K+1) * 7+4,none⟩=some (.string sb1)∧W'.cell? ⟨gb,off+(K+1) * 7+5,none⟩=some (.slice aa1 an1 ac1)∧W'.cell? ⟨gb,off+(K+1) * 7+6,none⟩=some (.slice oa1 on1 oc1)∧W'.cell? ⟨gb,off+K * 7,none⟩=some (.int .i64 k2)∧W'.cell? ⟨gb,off+K * 7+1,none⟩=some (.bool q2)∧W'.cell? ⟨gb,off+K * 7+2,none⟩=some (.slice a2 n2 z2)∧W'.cell? ⟨gb,off+K * 7+3,none⟩=some (.int .i64 w2)∧W'.cell? ⟨gb,off+K * 7+4,none⟩=some (.string sb2)∧W'.cell? ⟨gb,off+K * 7+5,none⟩=some (.slice aa2 an2 ac2)∧W'.cell? ⟨gb,off+K * 7+6,none⟩=some (.slice oa2 on2 oc2)∧Below wr.heap.size wr W') (first | (exact⟨c0,c1,c2,c3,c4,c5,c6,d0,d1,d2,d3,d4,d5,d6,(Below.refl _ _).drew⟩) | (exact qDt (by assumption) (by assumption)) | assumption) ((go_at_fn g;(with_reducible refine (hC0.out _ ?_).mono ?_);(simp only[*]);rintro e3 w3 ⟨rfl,hb3⟩)) | fail
      all_goals
       rename_i hHeld
       have hb3:=hHeld.2.2.2.2.2.2.2.2.2.2.2.2.2.2
       clear hHeld c0 c1 c2 c3 c4 c5 c6 d0 d1 d2 d3 d4 d5 d6
       have hT3:=hid (hH2.out _ hb3)
       clear hb3 hH2 hC0
       obtain⟨c0,c1,c2,c3,c4,c5,c6⟩:=hT3.out.cells hXP.out.1 hEX.out.1
       obtain⟨d0,d1,d2,d3,d4,d5,d6⟩:=hT3.out.cells hXP.out.2.1 hEX.out.2
       have f1:=hT3.out.frozen (i:=K+1) (by rw[hll.out];omega)
       have f2:=hT3.out.frozen (i:=K) (by rw[hll.out];omega)
       have e1:=hid (hT3.out.swap7 hXP.out.1 hXP.out.2.1 hXP.out.2.2 hEX.out.1 hEX.out.2)
       have u0:=f1 0 (by omega)
       have u1:=f1 1 (by omega)
       have u2:=f1 2 (by omega)
       have u3:=f1 3 (by omega)
       have u4:=f1 4 (by omega)
       have u5:=f1 5 (by omega)
       have u6:=f1 6 (by omega)
       have v0:=f2 0 (by omega)
       have v1:=f2 1 (by omega)
       have v2:=f2 2 (by omega)
       have v3:=f2 3 (by omega)
       have v4:=f2 4 (by omega)
       have v5:=f2 5 (by omega)
       have v6:=f2 6 (by omega)
       rw[Nat.add_zero] at u0 v0
       clear f1 f2 hXP hEX hT3
       have mixed:Tryz.prog.follows .mixedOrders=true:=by kernel_rfl
       have hJ2:Hid (K=a+t):=by have:=hJ.out;show _=_;omega
       go_upto_region 6 with fail
       go_big_region_o
       all_goals
        go_wp2_with fail
        go_roundw
        case rel=>exact⟨t,K,by omega,hJ2,by omega,by go_num,hN2,e1⟩
        case measure=>first | (simp[intOf];done) | (simp[intOf];omega)
     ·have hq:=hid (fun W' (hb:Below wr.heap.size wr W')=>hTe.out (t+1) W' (by omega) (fun q hq=>by
       rw[hlast.out] at hq
       injection hq with hq
       rw[←hq,←hDD.out]
       first | exact hneg | exact Int.not_lt.1 hneg) hN.out (hH2.out W' hb))
      have hI1:Hid (I+1=a+(i+1)):=by have:=hI.out;show _=_;omega
      have hiS:i+1≤S.length+1:=by have:=hI.out;omega
      clear hTe hN hhead hlast hDD hXP hEX hH2
      go_wp2_with fail
      first | go_region_held3 (fun W'=>W'.cell? ⟨gb,off+(K+1) * 7,none⟩=some (.int .i64 k1)∧W'.cell? ⟨gb,off+(K+1) * 7+1,none⟩=some (.bool q1)∧W'.cell? ⟨gb,off+(K+1) * 7+2,none⟩=some (.slice a1 n1 z1)∧W'.cell? ⟨gb,off+(K+1) * 7+3,none⟩=some (.int .i64 w1)∧W'.cell? ⟨gb,off+(K+1) * 7+4,none⟩=some (.string sb1)∧W'.cell? ⟨gb,off+(K+1) * 7+5,none⟩=some (.slice aa1 an1 ac1)∧W'.cell? ⟨gb,off+(K+1) * 7+6,none⟩=some (.slice oa1 on1 oc1)∧W'.cell? ⟨gb,off+K * 7,none⟩=some (.int .i64 k2)∧W'.cell? ⟨gb,off+K * 7+1,none⟩=some (.bool q2)∧W'.cell? ⟨gb,off+K * 7+2,none⟩=some (.slice a2 n2 z2)∧W'.cell? ⟨gb,off+K * 7+3,none⟩=some (.int .i64 w2)∧W'.cell? ⟨gb,off+K * 7+4,none⟩=some (.string sb2)∧W'.cell? ⟨gb,off+K * 7+5,none⟩=some (.slice aa2 an2 ac2)∧W'.cell? ⟨gb,off+K * 7+6,none⟩=some (.slice oa2 on2 oc2)∧Below wr.heap.size wr W') (first | (exact⟨c0,c1,c2,c3,c4,c5,c6,d0,d1,d2,d3,d4,d5,d6,(Below.refl _ _).drew⟩) | (exact qDt (by assumption) (by assumption)) | assumption) ((go_at_fn g;(with_reducible refine (hC0.out _ ?_).mono ?_);(simp only[*]);rintro e3 w3 ⟨rfl,hb3⟩)) | fail
      all_goals
       rename_i hHeld
       have hb3:=hid (hHeld.2.2.2.2.2.2.2.2.2.2.2.2.2.2)
       clear hHeld
       go_wp2_with fail
       go_roundw
       case rel=>exact⟨i+1,I+1,by omega,hI1,by go_num,by omega,hid (hq.out _ hb3.out)⟩
       case measure=>first | (simp[intOf];done) | (simp[intOf];omega)
  ·have hlt2:¬ (I:Int)<(b:Int):=by omega
   have hIi:=hI.out
   have hF:=hid (by
    obtain⟨P,hP,hS,hH⟩:=hst.out
    rw[List.take_of_length_le (by omega)] at hP
    rw[List.drop_of_length_le (by omega)] at hH
    exact hfin2.out _ P hP hS hH)
   clear hst hfin2
   go_wp2_with fail
   go_end0
   exact⟨rfl,hF.out⟩
section
variable {α:Type} {c:α→α→Int}
def Runs (c:α→α→Int) (bs:Nat) (T S:List (α × Nat)):Prop:=∃l l0 t t0,T=l ++ t∧S=l0 ++ t0∧Ch c bs l l0∧t.length<bs∧Stab c t∧t.Perm t0
def Run2 (c:α→α→Int) (bs A:Nat) (T S:List (α × Nat)):Prop:=∃D D0 l l0 t t0,T=D ++ (l ++ t)∧S=D0 ++ (l0 ++ t0)∧D.length=A∧Ch c (2 * bs) D D0∧Ch c bs l l0∧t.length<bs∧Stab c t∧t.Perm t0
theorem Runs.perm {bs:Nat}{T S:List (α × Nat)}(h:Runs c bs T S):T.Perm S:=by
 obtain⟨l,l0,t,t0,rfl,rfl,h1,_,_,h2⟩:=h
 exact h1.perm.append h2
theorem Run2.perm {bs A:Nat}{T S:List (α × Nat)}(h:Run2 c bs A T S):T.Perm S:=by
 obtain⟨D,D0,l,l0,t,t0,rfl,rfl,_,h0,h1,_,_,h2⟩:=h
 exact h0.perm.append (h1.perm.append h2)
theorem qJC {bs:Nat}{T S:List (α × Nat)}(h:Runs c bs T S):Run2 c bs 0 T S:=by
 obtain⟨l,l0,t,t0,e1,e2,h1,h2,h3,h4⟩:=h
 exact⟨[],[],l,l0,t,t0,e1,e2,rfl,Ch.nil,h1,h2,h3,h4⟩
theorem qM4 {bs:Nat}{T S:List (α × Nat)}(h:Runs c bs T S)(hL:T.length≤bs):Stab c T:=by
 obtain⟨l,l0,t,t0,rfl,rfl,h1,h2,h3,h4⟩:=h
 rw[List.length_append] at hL
 by_cases h0:0<l.length
 ·obtain⟨s,s0,u,u0,rfl,rfl,k1,k2,_,k4⟩:=h1.front h0
  rw[List.length_append] at hL
  have hu:u=[]:=List.length_eq_zero_iff.1 (by omega)
  have ht:t=[]:=List.length_eq_zero_iff.1 (by omega)
  subst hu ht
  simpa using k2
 ·have hl:l=[]:=List.length_eq_zero_iff.1 (by omega)
  subst hl
  exact h3
theorem qJD {bs A:Nat}{T S:List (α × Nat)}(h:Run2 c bs A T S)(hb:0<bs)(hL:A+2 * bs≤T.length)(ht:(S.map (·.2)).Pairwise (·<·)) :
  ∃X s1 s2 Y,T=X ++ (s1 ++ s2) ++ Y∧X.length=A∧s1.length=bs∧s2.length=bs∧Stab c s1∧Stab c s2∧(∀p ∈ s1,∀q ∈ s2,p.2<q.2)∧∀M,M.Perm (s1 ++ s2)→Stab c M→Run2 c bs (A+2 * bs) (X ++ M ++ Y) S:=by
 obtain⟨D,D0,l,l0,t,t0,rfl,rfl,hD,h0,h1,h2,h3,h4⟩:=h
 rw[List.length_append,List.length_append] at hL
 obtain⟨s,s0,u,u0,rfl,rfl,k1,k2,k3,k4⟩:=h1.front (by omega)
 rw[List.length_append] at hL
 obtain⟨v,v0,r,r0,rfl,rfl,j1,j2,j3,j4⟩:=k4.front (by omega)
 refine⟨D,s,v,r ++ t,by simp,hD,k1,j1,k2,j2,?_,fun M hM sM=>?_⟩
 ·have hh:((s0 ++ v0).map (·.2)).Pairwise (·<·):=by
   refine ht.sublist (List.Sublist.map _ ?_)
   refine List.Sublist.trans ?_ (List.sublist_append_right D0 _)
   rw[List.append_assoc,List.append_assoc,←List.append_assoc]
   exact List.sublist_append_left _ _
  exact qLk hh k3 j3
 ·refine⟨D ++ M,D0 ++ (s0 ++ v0),r,r0,t,t0,by simp,by simp,?_,h0.snoc ?_ sM (hM.trans (k3.append j3)),j4,h2,h3,h4⟩
  ·rw[List.length_append,hD,hM.length_eq,List.length_append];omega
  ·rw[hM.length_eq,List.length_append];omega
theorem qLl {bs A:Nat}{T S:List (α × Nat)}(h:Run2 c bs A T S)(_hb:0<bs)(hL:T.length<A+2 * bs)(hm:A+bs<T.length)(ht:(S.map (·.2)).Pairwise (·<·)) :
  ∃X s t,T=X ++ (s ++ t) ++ []∧X.length=A∧s.length=bs∧t.length=T.length-A-bs∧Stab c s∧Stab c t∧(∀p ∈ s,∀q ∈ t,p.2<q.2)∧∀M,M.Perm (s ++ t)→Stab c M→Runs c (2 * bs) (X ++ M ++ []) S:=by
 obtain⟨D,D0,l,l0,t,t0,rfl,rfl,hD,h0,h1,h2,h3,h4⟩:=h
 rw[List.length_append,List.length_append] at hL hm
 obtain⟨s,s0,u,u0,rfl,rfl,k1,k2,k3,k4⟩:=h1.front (by omega)
 rw[List.length_append] at hL hm
 obtain⟨rfl,rfl⟩:=k4.none (by omega)
 refine⟨D,s,t,by simp,hD,k1,by simp;omega,k2,h3,?_,fun M hM sM=>?_⟩
 ·have hh:((s0 ++ t0).map (·.2)).Pairwise (·<·):=by
   refine ht.sublist (List.Sublist.map _ ?_)
   refine List.Sublist.trans ?_ (List.sublist_append_right D0 _)
   simp
  exact qLk hh k3 h4
 ·refine⟨D,D0,M,s0 ++ t0,by simp,by simp,h0,?_,sM,hM.trans (k3.append h4)⟩
  rw[hM.length_eq,List.length_append]
  omega
theorem qLm {bs A:Nat}{T S:List (α × Nat)}(h:Run2 c bs A T S)(hb:0<bs)(hm:T.length≤A+bs):Runs c (2 * bs) T S:=by
 obtain⟨D,D0,l,l0,t,t0,rfl,rfl,hD,h0,h1,h2,h3,h4⟩:=h
 rw[List.length_append,List.length_append] at hm
 by_cases hl:0<l.length
 ·obtain⟨s,s0,u,u0,rfl,rfl,k1,k2,k3,k4⟩:=h1.front hl
  rw[List.length_append] at hm
  obtain⟨rfl,rfl⟩:=k4.none (by omega)
  have e:t=[]:=List.length_eq_zero_iff.1 (by omega)
  subst e
  have e0:t0=[]:=by simpa using h4
  subst e0
  exact⟨D,D0,s,s0,by simp,by simp,h0,by omega,k2,k3⟩
 ·have e:l=[]:=List.length_eq_zero_iff.1 (by omega)
  subst e
  have e0:l0=[]:=by simpa using h1.perm
  subst e0
  exact⟨D,D0,t,t0,by simp,by simp,h0,by omega,h3,h4⟩
theorem qJE {bs A:Nat}{D S P:List (α × Nat)}(hD:Ch c bs D (S.take A))(hP:P.Perm (S.drop A))(sP:Stab c P)(hl:P.length<bs):Runs c bs (D ++ P) S :=
 ⟨D,S.take A,P,S.drop A,rfl,(List.take_append_drop A S).symm,hD,hl,sP,hP⟩
end
end Go.Proofs.YtcgbmmalfbpjaaaGreatDoor
