/-  -/
import Derived.Test.YtcgbmmalfbpjaaaGreatDoorNB
import Derived.Test.YtcgbmmalfbpjaaaGreatDoorMe
import Derived.Lib.DecodeN
import Derived.Shelf.Unicode.DecodeSlow
set_option maxRecDepth 100000
set_option maxHeartbeats 16000000
namespace Go.Proofs.YtcgbmmalfbpjaaaGreatDoor
def cmpL:List Nat→List Nat→Int
 | [],[]=>0
 | [],_ :: _=>-1
 | _ :: _,[]=>1
 | x :: xs,y :: ys=>if x<y then -1 else if y<x then 1 else cmpL xs ys
theorem kL:∀xs,cmpL xs xs=0
 | []=>rfl
 | x :: xs=>by simp[cmpL,kL xs]
theorem rC:∀xs ys,cmpL xs ys=0→xs=ys
 | [],[],_=>rfl
 | [],_ :: _,h=>by simp[cmpL] at h
 | _ :: _,[],h=>by simp[cmpL] at h
 | x :: xs,y :: ys,h=>by
  simp only[cmpL] at h
  split at h
  ·simp at h
  ·split at h
   ·simp at h
   ·rw[rC xs ys h,show x=y by omega]
def isPt (p:Nat):Prop:=p<55296∨(57344≤p∧p≤1114111)
def encN (p:Nat):List Nat :=
 if p<128 then [p]
 else if p<2048 then [192+p / 64,128+p % 64]
 else if p<65536 then [224+p / 4096,128+p / 64 % 64,128+p % 64]
 else [240+p / 262144,128+p / 4096 % 64,128+p / 64 % 64,128+p % 64]
theorem dK (p:Nat):1≤(encN p).length∧(encN p).length≤4:=by
 unfold encN
 repeat' split
 all_goals simp
theorem ER (p:Nat)(h:isPt p):∀x ∈ encN p,x<256:=by
 unfold isPt at h
 unfold encN
 repeat' split
 all_goals (intro x hx;simp at hx;omega)
def decB (l:List Nat):Nat × Nat:=Lib.decodeN l.length (l.getD 0 0) (l.getD 1 0) (l.getD 2 0) (l.getD 3 0)
def okB (l:List Nat):Bool:=decide (l≠[]) && (decide (1<(decB l).2) || (decide ((decB l).2=1) && decide ((decB l).1<128)))
theorem rD (p:Nat)(hp:isPt p)(r:List Nat):decB (encN p ++ r)=(p,(encN p).length)∧okB (encN p ++ r)=true:=by
 unfold isPt at hp
 have key:decB (encN p ++ r)=(p,(encN p).length):=by
  unfold decB encN
  split
  ·simp[Lib.decodeN]
   omega
  ·split
   ·simp[Lib.decodeN]
    rw[if_neg (by omega),if_pos (by omega),if_pos (by omega)]
    simp only[Prod.mk.injEq,and_true]
    omega
   ·split
    ·simp[Lib.decodeN]
     rw[if_neg (by omega),if_neg (by omega),if_pos (by omega),if_pos (by omega)]
     simp only[Prod.mk.injEq,and_true]
     omega
    ·simp[Lib.decodeN]
     rw[if_neg (by omega),if_neg (by omega),if_neg (by omega),if_pos (by omega),if_pos (by omega)]
     simp only[Prod.mk.injEq,and_true]
     omega
 refine⟨key,?_⟩
 unfold okB
 rw[key]
 have h1:=dK p
 have h2:encN p ++ r≠[]:=fun h=>by
  have:(encN p ++ r).length=0:=by rw[h];rfl
  simp at this
  rw[this.1] at h1
  simp at h1
 simp only[decide_eq_true h2,Bool.true_and,Bool.or_eq_true,Bool.and_eq_true,decide_eq_true_eq]
 by_cases h3:1<(encN p).length
 ·exact Or.inl h3
 ·right
  refine⟨by omega,?_⟩
  unfold encN at h3
  split at h3
  ·assumption
  ·split at h3
   ·simp at h3
   ·split at h3<;>simp at h3
theorem lW (l:List Nat)(h:okB l=true)(hb:∀x ∈ l,x<256):∃p r,isPt p∧l=encN p ++ r∧decB l=(p,(encN p).length):=by
 obtain⟨a,t,rfl⟩:∃a t,l=a :: t:=by
  cases l with
  | nil=>simp[okB] at h
  | cons a t=>exact⟨a,t,rfl⟩
 have ha:=hb a (by simp)
 have key:∃p r,isPt p∧a :: t=encN p ++ r:=by
  unfold okB decB Lib.decodeN at h
  simp only[List.getD_cons_zero,List.getD_cons_succ,List.length_cons] at h
  by_cases c1:a<128
  ·exact⟨a,t,Or.inl (by omega),by unfold encN;rw[if_pos c1];rfl⟩
  rw[if_neg c1] at h
  cases t with
  | nil=>simp at h
  | cons b t =>
   have hb1:=hb b (by simp)
   simp only[List.getD_cons_zero,List.getD_cons_succ,List.length_cons] at h
   by_cases c2:a / 32=6∧(1<t.length+1+1∧b / 64=2)
   ·rw[if_pos c2] at h
    by_cases c3:a % 32 * 64+b % 64 ≥ 128
    ·refine⟨a % 32 * 64+b % 64,t,Or.inl (by omega),?_⟩
     unfold encN
     rw[if_neg (by omega),if_pos (by omega)]
     simp only[List.cons_append,List.nil_append,List.cons.injEq,and_true]
     omega
    ·rw[if_neg c3] at h;simp at h
   ·rw[if_neg c2] at h
    cases t with
    | nil=>simp at h
    | cons c t =>
     have hc1:=hb c (by simp)
     simp only[List.getD_cons_zero,List.getD_cons_succ,List.length_cons] at h
     by_cases c4:a / 16=14∧(1<t.length+1+1+1∧b / 64=2)∧(2<t.length+1+1+1∧c / 64=2)
     ·rw[if_pos c4] at h
      by_cases c5:a % 16 * 4096+b % 64 * 64+c % 64 ≥ 2048∧(a % 16 * 4096+b % 64 * 64+c % 64<55296∨(57344≤a % 16 * 4096+b % 64 * 64+c % 64∧a % 16 * 4096+b % 64 * 64+c % 64≤1114111))
      ·refine⟨a % 16 * 4096+b % 64 * 64+c % 64,t,c5.2,?_⟩
       unfold encN
       rw[if_neg (by omega),if_neg (by omega),if_pos (by omega)]
       simp only[List.cons_append,List.nil_append,List.cons.injEq,and_true]
       omega
      ·rw[if_neg c5] at h;simp at h
     ·rw[if_neg c4] at h
      cases t with
      | nil=>simp at h
      | cons e t =>
       have he1:=hb e (by simp)
       simp only[List.getD_cons_zero,List.length_cons] at h
       by_cases c6:a / 8=30∧(1<t.length+1+1+1+1∧b / 64=2)∧(2<t.length+1+1+1+1∧c / 64=2)∧(3<t.length+1+1+1+1∧e / 64=2)
       ·rw[if_pos c6] at h
        by_cases c7:a % 8 * 262144+b % 64 * 4096+c % 64 * 64+e % 64 ≥ 65536∧(a % 8 * 262144+b % 64 * 4096+c % 64 * 64+e % 64<55296∨(57344≤a % 8 * 262144+b % 64 * 4096+c % 64 * 64+e % 64∧a % 8 * 262144+b % 64 * 4096+c % 64 * 64+e % 64≤1114111))
        ·refine⟨a % 8 * 262144+b % 64 * 4096+c % 64 * 64+e % 64,t,c7.2,?_⟩
         unfold encN
         rw[if_neg (by omega),if_neg (by omega),if_neg (by omega)]
         simp only[List.cons_append,List.nil_append,List.cons.injEq,and_true]
         omega
        ·rw[if_neg c7] at h;simp at h
       ·rw[if_neg c6] at h;simp at h
 obtain⟨p,r,hp,e⟩:=key
 exact⟨p,r,hp,e,by rw[e];exact (rD p hp r).1⟩
def validF:Nat→List Nat→Nat
 | 0,_=>0
 | f+1,l=>if okB l=true then (decB l).2+validF f (l.drop (decB l).2) else 0
def validN (l:List Nat):Nat:=validF l.length l
theorem lH:∀(f g:Nat) (l:List Nat),(∀x ∈ l,x<256)→l.length≤f→l.length≤g→validF f l=validF g l
 | 0,0,_,_,_,_=>rfl
 | 0,g+1,l,_,h,_=>by
  have:l=[]:=List.length_eq_zero_iff.1 (by omega)
  subst this
  simp[validF,okB]
 | f+1,0,l,_,_,h=>by
  have:l=[]:=List.length_eq_zero_iff.1 (by omega)
  subst this
  simp[validF,okB]
 | f+1,g+1,l,hb,h1,h2=>by
  simp only[validF]
  by_cases h:okB l=true
  ·rw[if_pos h,if_pos h]
   obtain⟨p,r,hp,e,hd⟩:=lW l h hb
   have h3:=dK p
   rw[hd,lH f g _ (fun x hx=>hb x (List.mem_of_mem_drop hx)) (by simp;omega) (by simp;omega)]
  ·rw[if_neg h,if_neg h]
theorem iw {l:List Nat}(hb:∀x ∈ l,x<256)(h:okB l=true):validN l=(decB l).2+validN (l.drop (decB l).2):=by
 obtain⟨p,r,hp,e,hd⟩:=lW l h hb
 have h3:=dK p
 have hl:l.length≠0:=fun h0=>by rw[e] at h0;simp at h0;rw[h0.1] at h3;simp at h3
 obtain⟨f,hf⟩:∃f,l.length=f+1:=⟨l.length-1,by omega⟩
 unfold validN
 rw[hf]
 simp only[validF]
 rw[if_pos h,hd]
 congr 1
 exact lH _ _ _ (fun x hx=>hb x (List.mem_of_mem_drop hx)) (by simp;omega) (Nat.le_refl _)
theorem lI {l:List Nat}(h:¬ okB l=true):validN l=0:=by
 unfold validN
 cases hl:l.length with
 | zero=>rfl
 | succ f=>simp only[validF];rw[if_neg h]
def encs (ps:List Nat):List Nat:=ps.flatMap encN
theorem iL (p:Nat)(ps:List Nat):encs (p :: ps)=encN p ++ encs ps:=rfl
theorem nU (p:Nat)(r:List Nat):(encN p ++ r).drop (encN p).length=r:=by simp
theorem yI (ps:List Nat)(h:∀p ∈ ps,isPt p):∀x ∈ encs ps,x<256:=by
 intro x hx
 obtain⟨p,hp,hx⟩:=List.mem_flatMap.1 hx
 exact ER p (h p hp) x hx
theorem nR:∀(ps:List Nat),(∀p ∈ ps,isPt p)→validN (encs ps)=(encs ps).length
 | [],_=>rfl
 | p :: ps,h=>by
  have hd:=rD p (h p (by simp)) (encs ps)
  have ih:=nR ps (fun q hq=>h q (by simp[hq]))
  have hb:=yI (p :: ps) h
  rw[iL] at hb ⊢
  rw[iw hb hd.2,hd.1,nU,ih,List.length_append]
theorem iV:∀(n:Nat) (l:List Nat),l.length≤n→(∀x ∈ l,x<256)→validN l=l.length→∃ps,(∀p ∈ ps,isPt p)∧l=encs ps
 | 0,l,h,_,_=>⟨[],by simp,List.length_eq_zero_iff.1 (by omega)⟩
 | n+1,l,h,hb,hv=>by
  by_cases h0:l=[]
  ·exact⟨[],by simp,h0⟩
  ·by_cases hk:okB l=true
   ·obtain⟨p,r,hp,e,hd⟩:=lW l hk hb
    rw[iw hb hk,hd] at hv
    have h3:=dK p
    have hdr:l.drop (encN p).length=r:=by rw[e];exact nU p r
    rw[hdr] at hv
    have hlen:l.length=(encN p).length+r.length:=by rw[e,List.length_append]
    obtain⟨ps,h4,h5⟩:=iV n r (by omega) (fun x hx=>hb x (by rw[e];simp[hx])) (by omega)
    refine⟨p :: ps,?_,by rw[iL,←h5];exact e⟩
    intro q hq
    rcases List.mem_cons.1 hq with h | h
    ·rw[h];exact hp
    ·exact h4 q h
   ·rw[lI hk] at hv
    exact absurd (List.length_eq_zero_iff.1 hv.symm) h0
def lexC {α:Type} (c d:α→α→Int) (a b:α):Int:=if c a b≠0 then c a b else d a b
def cmpBy {α:Type} (c:α→α→Int):List α→List α→Int
 | [],[]=>0
 | [],_ :: _=>-1
 | _ :: _,[]=>1
 | x :: xs,y :: ys=>if c x y≠0 then c x y else cmpBy c xs ys
def fibC {α:Type} (k:α→Int) (C:Int→α→α→Int) (a b:α):Int:=if k a<k b then -1 else if k b<k a then 1 else C (k a) a b
inductive JV where
 | mk (kind:Int) (g:Bool) (ls:List Nat) (e:Int) (s:List UInt8) (arr:List JV) (obj:List (List UInt8 × JV))
def JV.kind:JV→Int | .mk k _ _ _ _ _ _=>k
def JV.g:JV→Bool | .mk _ g _ _ _ _ _=>g
def JV.ls:JV→List Nat | .mk _ _ l _ _ _ _=>l
def JV.e:JV→Int | .mk _ _ _ e _ _ _=>e
def JV.s:JV→List UInt8 | .mk _ _ _ _ s _ _=>s
def JV.arr:JV→List JV | .mk _ _ _ _ _ a _=>a
def JV.obj:JV→List (List UInt8 × JV) | .mk _ _ _ _ _ _ o=>o
def JV.null:JV:=.mk 0 false [] 0 [] [] []
def nats (s:List UInt8):List Nat:=s.map (·.toNat)
theorem lU (s:List UInt8):∀x ∈ nats s,x<256:=by
 intro x hx
 obtain⟨b,_,rfl⟩:=List.mem_map.1 hx
 exact b.toNat_lt
@[simp] theorem dJ (s:List UInt8):(nats s).length=s.length:=by simp[nats]
theorem vz {a b:List UInt8}(h:nats a=nats b):a=b:=by
 induction a generalizing b with
 | nil=>cases b with
  | nil=>rfl
  | cons y ys=>simp[nats] at h
 | cons x xs ih=>cases b with
  | nil=>simp[nats] at h
  | cons y ys =>
   simp only[nats,List.map_cons,List.cons.injEq] at h
   rw[ih h.2,UInt8.toNat_inj.1 h.1]
def soundB (s:List UInt8):Bool:=decide (validN (nats s)=s.length)
theorem zL:soundB []=true:=rfl
def baseB (v:JV):Bool :=
 decide (0≤v.kind∧v.kind≤6) && (if v.kind=3 then mayB v.g v.ls v.e else (!v.g && v.ls.isEmpty && decide (v.e=0))) && (if v.kind=4 then soundB v.s else v.s.isEmpty) &&
  (decide (v.kind=5) || v.arr.isEmpty) && (decide (v.kind=6) || v.obj.isEmpty)
def mayJ:Nat→JV→Bool
 | 0,v=>baseB v && decide (v.kind<5)
 | f+1,v=>baseB v && v.arr.all (mayJ f) && v.obj.all (fun x=>soundB x.1 && mayJ f x.2) && decide ((v.obj.map (·.1)).Nodup)
def depthJ:Nat→JV→Nat
 | 0,v=>if v.kind=5∨v.kind=6 then 1 else 0
 | f+1,v=>if v.kind=5∨v.kind=6 then (v.obj.map fun x=>depthJ f x.2).foldl max ((v.arr.map (depthJ f)).foldl max 0)+1 else 0
def dOf (v:JV):D:=⟨v.g,Num.worth v.ls,v.e⟩
def keyC (a b:List UInt8):Int:=cmpL (nats a) (nats b)
def insK (x:List UInt8 × JV):List (List UInt8 × JV)→List (List UInt8 × JV)
 | []=>[x]
 | y :: l=>if keyC x.1 y.1<0 then x :: y :: l else y :: insK x l
def sortK (l:List (List UInt8 × JV)):List (List UInt8 × JV):=l.foldl (fun acc x=>insK x acc) []
def kindC (f:JV→JV→Int) (k:Int) (a b:JV):Int :=
 if k=3 then cmpR (dOf a) (dOf b) else if k=4 then cmpL (nats a.s) (nats b.s) else if k=5 then cmpBy f a.arr b.arr
 else if k=6 then lexC (fun x y=>cmpBy (fun p q=>keyC p.1 q.1) (sortK x.obj) (sortK y.obj)) (fun x y=>cmpBy (fun p q=>f p.2 q.2) (sortK x.obj) (sortK y.obj)) a b else 0
def orderJ:Nat→JV→JV→Int
 | 0,_,_=>0
 | f+1,a,b=>fibC JV.kind (kindC (orderJ f)) a b
def Sound (v:JV):Prop:=∃n,mayJ n v=true
theorem fG {n:Nat}{v:JV}(h:mayJ n v=true):baseB v=true:=by
 cases n<;>simp only[mayJ,Bool.and_eq_true] at h
 ·exact h.1
 ·exact h.1.1.1
theorem jM {v:JV}(h:baseB v=true)(hk:v.kind≠5):v.arr=[]:=by
 simp only[baseB,Bool.and_eq_true,Bool.or_eq_true,decide_eq_true_eq,List.isEmpty_iff] at h
 exact h.1.2.resolve_left hk
theorem jO {v:JV}(h:baseB v=true)(hk:v.kind≠6):v.obj=[]:=by
 simp only[baseB,Bool.and_eq_true,Bool.or_eq_true,decide_eq_true_eq,List.isEmpty_iff] at h
 exact h.2.resolve_left hk
theorem gz {B:Nat}:∀(l:List Nat) (a:Nat),a≤B→(∀x ∈ l,x≤B)→l.foldl max a≤B
 | [],_,h,_=>h
 | x :: l,a,h,hl=>gz l (max a x) (Nat.max_le.2 ⟨h,hl x (by simp)⟩) (fun y hy=>hl y (by simp[hy]))
theorem gB:∀(l:List Nat) (a:Nat),a≤l.foldl max a∧∀x ∈ l,x≤l.foldl max a
 | [],a=>⟨Nat.le_refl _,by simp⟩
 | x :: l,a=>by
  have h:=gB l (max a x)
  refine⟨Nat.le_trans (Nat.le_max_left _ _) h.1,fun y hy=>?_⟩
  rcases List.mem_cons.1 hy with e | e
  ·rw[e];exact Nat.le_trans (Nat.le_max_right _ _) h.1
  ·exact h.2 y e
theorem bV {m:Nat}{v:JV}(h:¬ (v.kind=5∨v.kind=6)):depthJ m v=0:=by
 cases m<;>simp only[depthJ]<;>rw[if_neg h]
theorem fB {m B:Nat}{v:JV}(h:v.kind=5∨v.kind=6):depthJ (m+1) v≤B+1 ↔ (∀x ∈ v.arr,depthJ m x≤B)∧(∀x ∈ v.obj,depthJ m x.2≤B):=by
 simp only[depthJ]
 rw[if_pos h]
 have h1:=gB (v.arr.map (depthJ m)) 0
 have h2:=gB (v.obj.map fun x=>depthJ m x.2) ((v.arr.map (depthJ m)).foldl max 0)
 constructor
 ·intro hh
  refine⟨fun x hx=>?_,fun x hx=>?_⟩
  ·have:=h1.2 _ (List.mem_map_of_mem hx)
   have:=h2.1
   omega
  ·have:=h2.2 _ (List.mem_map_of_mem hx)
   omega
 ·rintro ⟨ha,ho⟩
  have:=gz (B:=B) (v.obj.map fun x=>depthJ m x.2) ((v.arr.map (depthJ m)).foldl max 0)
   (gz _ 0 (Nat.zero_le _) (fun x hx=>by obtain⟨y,hy,rfl⟩:=List.mem_map.1 hx;exact ha y hy))
   (fun x hx=>by obtain⟨y,hy,rfl⟩:=List.mem_map.1 hx;exact ho y hy)
  omega
theorem fE {n:Nat}{v:JV}(hb:baseB v=true)(h:v.kind<5):mayJ n v=true:=by
 have ha:=jM hb (by omega)
 have ho:=jO hb (by omega)
 cases n with
 | zero=>simp[mayJ,hb,h]
 | succ n=>simp[mayJ,hb,ha,ho]
theorem qy {v:JV}(hb:baseB v=true):0≤v.kind∧v.kind≤6:=by
 simp only[baseB,Bool.and_eq_true,decide_eq_true_eq] at hb
 exact hb.1.1.1.1
theorem bC {n:Nat}{v:JV}:mayJ (n+1) v=true ↔ ((baseB v=true∧∀x ∈ v.arr,mayJ n x=true)∧∀x ∈ v.obj,soundB x.1=true∧mayJ n x.2=true)∧(v.obj.map (·.1)).Nodup:=by
 rw[mayJ]
 simp only[Bool.and_eq_true,List.all_eq_true,decide_eq_true_eq]
theorem kM:∀(n m:Nat) (v:JV),mayJ n v=true→n≤m→depthJ m v≤n
 | 0,m,v,h,_=>by
  simp only[mayJ,Bool.and_eq_true,decide_eq_true_eq] at h
  rw[bV (by omega)]
  exact Nat.le_refl _
 | n+1,m,v,h,hm=>by
  obtain⟨m',rfl⟩:∃m',m=m'+1:=⟨m-1,by omega⟩
  by_cases hk:v.kind=5∨v.kind=6
  ·simp only[mayJ,Bool.and_eq_true,List.all_eq_true] at h
   exact (fB hk).2 ⟨fun x hx=>kM n m' x (h.1.1.2 x hx) (by omega),fun x hx=>kM n m' x.2 (h.1.2 x hx).2 (by omega)⟩
  ·rw[bV hk]
   exact Nat.zero_le _
theorem jT:∀(n m:Nat) (v:JV),mayJ (n+1) v=true→n+1≤m→depthJ m v≤n→mayJ n v=true
 | 0,m,v,h,hm,hd=>by
  have hb:=fG h
  obtain⟨m',rfl⟩:∃m',m=m'+1:=⟨m-1,by omega⟩
  have hk:¬ (v.kind=5∨v.kind=6):=fun hk=>by
   simp only[depthJ] at hd
   rw[if_pos hk] at hd
   omega
  have:=qy hb
  exact fE hb (by omega)
 | n+1,m,v,h,hm,hd=>by
  have hb:=fG h
  obtain⟨m',rfl⟩:∃m',m=m'+1:=⟨m-1,by omega⟩
  by_cases hk:v.kind=5∨v.kind=6
  ·have hd2:=(fB hk).1 hd
   have h:=bC.1 h
   refine bC.2 ?_
   exact⟨⟨⟨hb,fun x hx=>jT n m' x (h.1.1.2 x hx) (by omega) (hd2.1 x hx)⟩,fun x hx=>⟨(h.1.2 x hx).1,jT n m' x.2 (h.1.2 x hx).2 (by omega) (hd2.2 x hx)⟩⟩,h.2⟩
  ·have:=qy hb
   exact fE hb (by omega)
theorem nS:∀(n:Nat) (v:JV),mayJ n v=true→mayJ (n+1) v=true
 | 0,v,h=>by
  simp only[mayJ,Bool.and_eq_true,decide_eq_true_eq] at h
  exact fE h.1 h.2
 | n+1,v,h=>by
  have h:=bC.1 h
  refine bC.2 ?_
  exact⟨⟨⟨h.1.1.1,fun x hx=>nS n x (h.1.1.2 x hx)⟩,fun x hx=>⟨(h.1.2 x hx).1,nS n x.2 (h.1.2 x hx).2⟩⟩,h.2⟩
abbrev Fld:=List UInt8 × JV
def getO (k:List UInt8):List Fld→Option JV
 | []=>none
 | x :: l=>if x.1=k then some x.2 else getO k l
def hasO (k:List UInt8) (l:List Fld):Bool:=l.any fun x=>decide (x.1=k)
def setO (k:List UInt8) (x:JV) (l:List Fld):List Fld:=if hasO k l=true then l.map (fun p=>if p.1=k then (k,x) else p) else l ++ [(k,x)]
def delO (k:List UInt8) (l:List Fld):List Fld:=l.filter fun p=>decide (p.1≠k)
theorem uO {k:List UInt8}{l:List Fld}:hasO k l=true ↔ k ∈ l.map (·.1):=by
 simp only[hasO,List.any_eq_true,decide_eq_true_eq,List.mem_map]
theorem uP (k:List UInt8)(x:JV)(l:List Fld):(setO k x l).map (·.1)=if hasO k l=true then l.map (·.1) else l.map (·.1) ++ [k]:=by
 unfold setO
 by_cases h:hasO k l=true
 ·rw[if_pos h,if_pos h,List.map_map]
  refine List.map_congr_left fun p _=>?_
  simp only[Function.comp_apply]
  split
  ·rename_i e;exact e.symm
  ·rfl
 ·rw[if_neg h,if_neg h]
  simp
theorem yM {k:List UInt8}{x:JV}{l:List Fld}{p:Fld}(h:p ∈ setO k x l):p=(k,x)∨p ∈ l:=by
 unfold setO at h
 split at h
 ·obtain⟨q,hq,rfl⟩:=List.mem_map.1 h
  split
  ·exact Or.inl rfl
  ·exact Or.inr hq
 ·rcases List.mem_append.1 h with h | h
  ·exact Or.inr h
  ·simp at h;exact Or.inl h
theorem yL {k:List UInt8}{x:JV}:∀{l:List Fld},getO k l=some x→(k,x) ∈ l
 | [],h=>by simp[getO] at h
 | p :: l,h=>by
  simp only[getO] at h
  split at h
  ·rename_i e
   injection h with h
   rw[←e,←h]
   simp
  ·exact List.mem_cons_of_mem _ (yL h)
def objV (o:List Fld):JV:=.mk 6 false [] 0 [] [] o
def getR (v:JV) (k:List UInt8):JV × Nat :=
 if ¬ (mayJ 200 v=true∧soundB k=true) then (.null,1) else if v.kind≠6∧v.kind≠0 then (.null,9) else ((getO k v.obj).getD .null,0)
def withR (v:JV) (k:List UInt8) (x:JV):JV × Nat :=
 if ¬ (mayJ 200 v=true∧mayJ 200 x=true∧soundB k=true) then (.null,1) else if v.kind≠6∧v.kind≠0 then (.null,9) else if depthJ 200 x=200 then (.null,6)
 else (objV (setO k x v.obj),0)
def withoutR (v:JV) (k:List UInt8):JV × Nat :=
 if ¬ (mayJ 200 v=true∧soundB k=true) then (.null,1) else if v.kind=0 then (.null,0) else if v.kind≠6 then (.null,9) else (objV (delO k v.obj),0)
theorem bK (n:Nat):mayJ n JV.null=true:=fE rfl (by decide)
theorem DT (o:List Fld):baseB (objV o)=true:=by simp[baseB,objV,JV.kind,JV.g,JV.ls,JV.e,JV.s,JV.arr,JV.obj]
theorem lT {n:Nat}{o:List Fld}:mayJ (n+1) (objV o)=true ↔ (∀p ∈ o,soundB p.1=true∧mayJ n p.2=true)∧(o.map (·.1)).Nodup:=by
 simp only[mayJ,Bool.and_eq_true,List.all_eq_true,decide_eq_true_eq,DT,true_and]
 constructor
 ·rintro ⟨⟨_,h1⟩,h2⟩;exact⟨h1,h2⟩
 ·rintro ⟨h1,h2⟩;exact⟨⟨fun x (hx:x ∈ ([]:List JV))=>(List.not_mem_nil hx).elim,h1⟩,h2⟩
theorem xP {n:Nat}{v:JV}(h:mayJ (n+1) v=true):(∀p ∈ v.obj,soundB p.1=true∧mayJ n p.2=true)∧(v.obj.map (·.1)).Nodup:=by
 simp only[mayJ,Bool.and_eq_true,List.all_eq_true,decide_eq_true_eq] at h
 exact⟨h.1.2,h.2⟩
theorem qX {v x a:JV}{k:List UInt8}(h:withR v k x=(a,0)):mayJ 200 v=true∧mayJ 200 x=true∧soundB k=true∧(v.kind=6∨v.kind=0)∧mayJ 199 x=true∧a=objV (setO k x v.obj):=by
 unfold withR at h
 split at h
 ·simp at h
 ·rename_i h1
  have h1:=Classical.not_not.1 h1
  split at h
  ·simp at h
  ·rename_i h2
   split at h
   ·simp at h
   ·rename_i h3
    have hd:=kM 200 200 x h1.2.1 (Nat.le_refl _)
    refine⟨h1.1,h1.2.1,h1.2.2,by omega,jT 199 200 x h1.2.1 (by omega) (by omega),?_⟩
    injection h with h _
    exact h.symm
theorem Ep {v x:JV}{k:List UInt8}(hv:mayJ 200 v=true)(hx:mayJ 199 x=true)(hk:soundB k=true):mayJ 200 (objV (setO k x v.obj))=true:=by
 obtain⟨h1,h2⟩:=xP hv
 refine lT.2 ⟨fun p hp=>?_,?_⟩
 ·rcases yM hp with rfl | hp
  ·exact⟨hk,hx⟩
  ·exact h1 p hp
 ·rw[uP]
  split
  ·exact h2
  ·rename_i h
   rw[uO] at h
   rw[List.nodup_append]
   exact⟨h2,by simp,fun a ha b hb=>by simp at hb;rw[hb];exact fun e=>h (e ▸ ha)⟩
theorem Es {n:Nat}{o:List Fld}{k:List UInt8}(h:mayJ (n+1) (objV o)=true):mayJ (n+1) (objV (delO k o))=true:=by
 obtain⟨h1,h2⟩:=lT.1 h
 refine lT.2 ⟨fun p hp=>h1 p (List.mem_filter.1 hp).1,?_⟩
 exact h2.sublist ((List.filter_sublist).map _)
theorem yP {a b:List UInt8}(h:keyC a b=0):a=b:=vz (rC _ _ h)
theorem qm (a:List UInt8):keyC a a=0:=kL _
def turned (v:JV):JV:=.mk v.kind v.g v.ls v.e v.s v.arr v.obj.reverse
end Go.Proofs.YtcgbmmalfbpjaaaGreatDoor

namespace Go.Proofs.YtcgbmmalfbpjaaaGreatDoor
open Go.RowKit
def CellsAt (w:World) (a:Option Addr) (k:Nat) (cs:List Value):Prop:=∃b off,a=some ⟨b,off,none⟩∧∀(j:Nat) (v:Value),cs[j]? = some v→w.cell? ⟨b,off+k+j,none⟩=some v
theorem CellsAt.below {w w':World}{a:Option Addr}{k:Nat}{cs:List Value}(h:CellsAt w a k cs)(hb:Below w.heap.size w w'):CellsAt w' a k cs:=by
 obtain⟨b,off,e,hc⟩:=h
 exact⟨b,off,e,fun j v hv=>((bcell hb).1 _ _ (ax (hc j v hv))).trans (hc j v hv)⟩
def I64 (n:Int):Prop:=-9223372036854775808≤n∧n≤9223372036854775807
def strV (s:List UInt8):Value:=.string ⟨s.toArray⟩
def valCs (kind:Int) (g:Bool) (a:Option Addr) (n c:Nat) (e:Int) (s:List UInt8) (aa:Option Addr) (an ac:Nat) (oa:Option Addr) (on oc:Nat):List Value :=
 [.int .i64 kind,.bool g,.slice a n c,.int .i64 e,strV s,.slice aa an ac,.slice oa on oc]
inductive RdV (w:World):List Value→JV→Prop
 | mk (kind:Int) (g:Bool) (a:Option Addr) (ls:List Nat) (c:Nat) (e:Int) (s:List UInt8) (aa:Option Addr) (arr:List JV) (ac:Nat) (oa:Option Addr) (obj:List (List UInt8 × JV)) (oc:Nat) (csA csO:Nat→List Value)
   (hk:I64 kind) (he:I64 e) (hs:s.length≤9223372036854775807) (hac:arr.length≤ac∧ac≤9223372036854775807) (hoc:obj.length≤oc∧oc≤9223372036854775807) (hcap:ls.length≤c∧c≤9223372036854775807)
   (hu:U32 w a ls)
   (hA:∀i,i<arr.length→CellsAt w aa (i * 7) (csA i))
   (hA2:∀(i:Nat) (x:JV),arr[i]? = some x→RdV w (csA i) x)
   (hO:∀(i:Nat) (x:List UInt8 × JV),obj[i]? = some x→CellsAt w oa (i * 8) (strV x.1 :: csO i)∧x.1.length≤9223372036854775807)
   (hO2:∀(i:Nat) (x:List UInt8 × JV),obj[i]? = some x→RdV w (csO i) x.2) :
   RdV w (valCs kind g a ls.length c e s aa arr.length ac oa obj.length oc) (.mk kind g ls e s arr obj)
theorem RdV.stay {w w':World}{cs:List Value}{v:JV}(h:RdV w cs v)(hb:Below w.heap.size w w'):RdV w' cs v:=by
 induction h with
 | mk kind g a ls c e s aa arr ac oa obj oc csA csO hk he hs hac hoc hcap hu hA hA2 hO hO2 ihA ihO =>
  exact .mk kind g a ls c e s aa arr ac oa obj oc csA csO hk he hs hac hoc hcap (hu.below hb) (fun i hi=>(hA i hi).below hb) ihA (fun i x hx=>⟨(hO i x hx).1.below hb,(hO i x hx).2⟩) ihO
theorem RdV.len {w:World}{cs:List Value}{v:JV}(h:RdV w cs v):cs.length=7:=by
 cases h
 rfl
def RdA (w:World) (aa:Option Addr) (arr:List JV):Prop:=∀(i:Nat) (x:JV),arr[i]? = some x→∃cs,CellsAt w aa (i * 7) cs∧RdV w cs x
def RdO (w:World) (oa:Option Addr) (obj:List (List UInt8 × JV)):Prop:=∀(i:Nat) (x:List UInt8 × JV),obj[i]? = some x→∃cs,CellsAt w oa (i * 8) (strV x.1 :: cs)∧x.1.length≤9223372036854775807∧RdV w cs x.2
theorem RdA.below {w w':World}{aa:Option Addr}{arr:List JV}(h:RdA w aa arr)(hb:Below w.heap.size w w'):RdA w' aa arr:=fun i x hx=>by
 obtain⟨cs,h1,h2⟩:=h i x hx
 exact⟨cs,h1.below hb,h2.stay hb⟩
theorem RdO.below {w w':World}{oa:Option Addr}{obj:List (List UInt8 × JV)}(h:RdO w oa obj)(hb:Below w.heap.size w w'):RdO w' oa obj:=fun i x hx=>by
 obtain⟨cs,h1,h2,h3⟩:=h i x hx
 exact⟨cs,h1.below hb,h2,h3.stay hb⟩
structure PartsV (w:World) (cs:List Value) (v:JV) (a:Option Addr) (c:Nat) (aa:Option Addr) (ac:Nat) (oa:Option Addr) (oc:Nat):Prop where
 cells:cs=valCs v.kind v.g a v.ls.length c v.e v.s aa v.arr.length ac oa v.obj.length oc
 k:I64 v.kind
 e:I64 v.e
 s:v.s.length≤9223372036854775807
 ac:v.arr.length≤ac∧ac≤9223372036854775807
 oc:v.obj.length≤oc∧oc≤9223372036854775807
 c:v.ls.length≤c∧c≤9223372036854775807
 u:U32 w a v.ls
 arr:RdA w aa v.arr
 obj:RdO w oa v.obj
theorem RdV.parts {w:World}{cs:List Value}{v:JV}(h:RdV w cs v):∃a c aa ac oa oc,PartsV w cs v a c aa ac oa oc:=by
 cases h with
 | mk kind g a ls c e s aa arr ac oa obj oc csA csO hk he hs hac hoc hcap hu hA hA2 hO hO2 =>
  exact⟨a,c,aa,ac,oa,oc,rfl,hk,he,hs,hac,hoc,hcap,hu,fun i x hx=>⟨csA i,hA i (List.getElem?_eq_some_iff.1 hx).1,hA2 i x hx⟩,fun i x hx=>⟨csO i,(hO i x hx).1,(hO i x hx).2,hO2 i x hx⟩⟩
theorem PartsV.rd {w:World}{cs:List Value}{v:JV}{a aa oa:Option Addr}{c ac oc:Nat}(h:PartsV w cs v a c aa ac oa oc):RdV w cs v:=by
 obtain⟨hcs,hk,he,hs,hac,hoc,hc,hu,harr,hobj⟩:=h
 obtain⟨kind,g,ls,e,s,arr,obj⟩:=v
 simp only[JV.kind,JV.g,JV.ls,JV.e,JV.s,JV.arr,JV.obj] at *
 subst hcs
 have pA:∀i,∃cs,∀x,arr[i]? = some x→CellsAt w aa (i * 7) cs∧RdV w cs x:=fun i=>by
  by_cases hi:i<arr.length
  ·obtain⟨cs,h1,h2⟩:=harr i arr[i] (List.getElem?_eq_getElem hi)
   exact⟨cs,fun x hx=>by rw[List.getElem?_eq_getElem hi] at hx;injection hx with hx;rw[←hx];exact⟨h1,h2⟩⟩
  ·exact⟨[],fun x hx=>absurd (List.getElem?_eq_some_iff.1 hx).1 hi⟩
 have pO:∀i,∃cs,∀x,obj[i]? = some x→CellsAt w oa (i * 8) (strV x.1 :: cs)∧x.1.length≤9223372036854775807∧RdV w cs x.2:=fun i=>by
  by_cases hi:i<obj.length
  ·obtain⟨cs,h1,h2⟩:=hobj i obj[i] (List.getElem?_eq_getElem hi)
   exact⟨cs,fun x hx=>by rw[List.getElem?_eq_getElem hi] at hx;injection hx with hx;rw[←hx];exact⟨h1,h2⟩⟩
  ·exact⟨[],fun x hx=>absurd (List.getElem?_eq_some_iff.1 hx).1 hi⟩
 exact .mk kind g a ls c e s aa arr ac oa obj oc (fun i=>Classical.choose (pA i)) (fun i=>Classical.choose (pO i)) hk he hs hac hoc hc hu
  (fun i hi=>(Classical.choose_spec (pA i) _ (List.getElem?_eq_getElem hi)).1) (fun i x hx=>(Classical.choose_spec (pA i) x hx).2)
  (fun i x hx=>⟨(Classical.choose_spec (pO i) x hx).1,(Classical.choose_spec (pO i) x hx).2.1⟩) (fun i x hx=>(Classical.choose_spec (pO i) x hx).2.2)
theorem dZ (w:World):RdV w (valCs 0 false none 0 0 0 [] none 0 0 none 0 0) .null :=
 PartsV.rd (v:=.null) ⟨rfl,by unfold I64;decide,by unfold I64;decide,by decide,by decide,by decide,by decide,⟨Row.nil _ _,fun x hx=>by cases hx⟩,fun i x hx=>by simp[JV.null,JV.arr] at hx,fun i x hx=>by simp[JV.null,JV.obj] at hx⟩
def valV (kind:Int) (g:Bool) (a:Option Addr) (n c:Nat) (e:Int) (s:List UInt8) (aa:Option Addr) (an ac:Nat) (oa:Option Addr) (on oc:Nat):Value :=
 .agg #[.int .i64 kind,.bool g,.slice a n c,.int .i64 e,strV s,.slice aa an ac,.slice oa on oc]
def Cells7 (w:World) (b o:Nat) (kind:Int) (g:Bool) (a:Option Addr) (n c:Nat) (e:Int) (s:List UInt8) (aa:Option Addr) (an ac:Nat) (oa:Option Addr) (on oc:Nat):Prop :=
 w.cell? ⟨b,o,none⟩=some (.int .i64 kind)∧w.cell? ⟨b,o+1,none⟩=some (.bool g)∧w.cell? ⟨b,o+2,none⟩=some (.slice a n c)∧w.cell? ⟨b,o+3,none⟩=some (.int .i64 e)∧w.cell? ⟨b,o+4,none⟩=some (strV s) ∧
  w.cell? ⟨b,o+5,none⟩=some (.slice aa an ac)∧w.cell? ⟨b,o+6,none⟩=some (.slice oa on oc)
theorem CellsAt.seven {w:World}{p:Option Addr}{k:Nat}{kind:Int}{g:Bool}{a:Option Addr}{n c:Nat}{e:Int}{s:List UInt8}{aa:Option Addr}{an ac:Nat}{oa:Option Addr}{on oc:Nat}
  (h:CellsAt w p k (valCs kind g a n c e s aa an ac oa on oc)):∃b off,p=some ⟨b,off,none⟩∧Cells7 w b (off+k) kind g a n c e s aa an ac oa on oc:=by
 obtain⟨b,off,rfl,hc⟩:=h
 exact⟨b,off,rfl,hc 0 _ rfl,hc 1 _ rfl,hc 2 _ rfl,hc 3 _ rfl,hc 4 _ rfl,hc 5 _ rfl,hc 6 _ rfl⟩
theorem RdA.at {w:World}{aa:Option Addr}{arr:List JV}(h:RdA w aa arr){k:Nat}(hk:k<arr.length) :
  ∃b off a c aa' ac oa oc,aa=some ⟨b,off,none⟩∧PartsV w (valCs arr[k].kind arr[k].g a arr[k].ls.length c arr[k].e arr[k].s aa' arr[k].arr.length ac oa arr[k].obj.length oc) arr[k] a c aa' ac oa oc ∧
   Cells7 w b (off+k * 7) arr[k].kind arr[k].g a arr[k].ls.length c arr[k].e arr[k].s aa' arr[k].arr.length ac oa arr[k].obj.length oc:=by
 obtain⟨cs,h1,h2⟩:=h k arr[k] (List.getElem?_eq_getElem hk)
 obtain⟨a,c,aa',ac,oa,oc,P⟩:=h2.parts
 have e:=P.cells
 subst e
 obtain⟨b,off,e,h3⟩:=h1.seven
 exact⟨b,off,a,c,aa',ac,oa,oc,e,P,h3⟩
def Cells8f (w:World) (b o:Nat) (key:List UInt8) (kind:Int) (g:Bool) (a:Option Addr) (n c:Nat) (e:Int) (s:List UInt8) (aa:Option Addr) (an ac:Nat) (oa:Option Addr) (on oc:Nat):Prop :=
 w.cell? ⟨b,o,none⟩=some (strV key)∧w.cell? ⟨b,o+1,none⟩=some (.int .i64 kind)∧w.cell? ⟨b,o+2,none⟩=some (.bool g)∧w.cell? ⟨b,o+3,none⟩=some (.slice a n c)∧w.cell? ⟨b,o+4,none⟩=some (.int .i64 e)∧w.cell? ⟨b,o+5,none⟩=some (strV s) ∧
  w.cell? ⟨b,o+6,none⟩=some (.slice aa an ac)∧w.cell? ⟨b,o+7,none⟩=some (.slice oa on oc)
theorem RdO.at {w:World}{oa:Option Addr}{obj:List Fld}(h:RdO w oa obj){k:Nat}(hk:k<obj.length) :
  ∃b off a c aa' ac oa' oc,oa=some ⟨b,off,none⟩∧obj[k].1.length≤9223372036854775807∧PartsV w (valCs obj[k].2.kind obj[k].2.g a obj[k].2.ls.length c obj[k].2.e obj[k].2.s aa' obj[k].2.arr.length ac oa' obj[k].2.obj.length oc) obj[k].2 a c aa' ac oa' oc ∧
   Cells8f w b (off+k * 8) obj[k].1 obj[k].2.kind obj[k].2.g a obj[k].2.ls.length c obj[k].2.e obj[k].2.s aa' obj[k].2.arr.length ac oa' obj[k].2.obj.length oc:=by
 obtain⟨cs,h1,h0,h2⟩:=h k obj[k] (List.getElem?_eq_getElem hk)
 obtain⟨a,c,aa',ac,oa',oc,P⟩:=h2.parts
 have e:=P.cells
 subst e
 obtain⟨b,off,rfl,hc⟩:=h1
 exact⟨b,off,a,c,aa',ac,oa',oc,rfl,h0,P,hc 0 _ rfl,hc 1 _ rfl,hc 2 _ rfl,hc 3 _ rfl,hc 4 _ rfl,hc 5 _ rfl,hc 6 _ rfl,hc 7 _ rfl⟩
end Go.Proofs.YtcgbmmalfbpjaaaGreatDoor

namespace Go.Proofs.YtcgbmmalfbpjaaaGreatDoor
theorem dH (l:List UInt8)(i:Nat):(⟨l.toArray⟩:ByteArray).get! i=l.getD i 0:=by
 show l.toArray[i]! = _
 simp[List.getD_eq_getElem?_getD]
 rfl
theorem dI (l:List UInt8)(i:Nat):(l.map (·.toNat)).getD i 0=(l.getD i 0).toNat:=by
 rw[List.getD_eq_getElem?_getD,List.getD_eq_getElem?_getD,List.getElem?_map]
 cases l[i]?<;>rfl
theorem oP (l:List UInt8):Lib.decodeGo ⟨l.toArray⟩=if l=[] then (65533,0) else decB (l.map (·.toNat)):=by
 unfold Lib.decodeGo
 by_cases h:l=[]
 ·subst h
  rfl
 ·have h1:(⟨l.toArray⟩:ByteArray).size≠0:=fun h0=>h (List.length_eq_zero_iff.1 (by simpa[ByteArray.size] using h0))
  rw[if_neg h1,if_neg h,Lib.decode_at]
  unfold decB
  rw[dH,dH,dH,dH,dI,dI,dI,dI]
  congr 1
  simp[ByteArray.size]
end Go.Proofs.YtcgbmmalfbpjaaaGreatDoor
