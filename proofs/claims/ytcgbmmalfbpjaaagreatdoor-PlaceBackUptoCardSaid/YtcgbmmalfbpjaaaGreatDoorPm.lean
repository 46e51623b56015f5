/-  -/
import Derived.Test.YtcgbmmalfbpjaaaGreatDoorPa
import Derived.Test.YtcgbmmalfbpjaaaGreatDoorPc
set_option maxRecDepth 100000
set_option maxHeartbeats 16000000
namespace Go.Proofs.YtcgbmmalfbpjaaaGreatDoor
theorem Ja (m:Nat)(e:Int):(plainD false m e).neg=false:=by unfold plainD;split<;>rfl
theorem Jh (n m:Nat)(e:Int):(takenD false n m e).neg=false:=by
 unfold takenD
 split
 ·split
  ·exact Ja _ _
  ·rfl
 ·rfl
theorem JO {er:Nat}{d:D}{way:Nat}(h:d.neg=false):(roundR er d way).1.neg=false:=by
 unfold roundR
 split
 ·exact h
 ·rw[h]
  have h1:=Ja (wholeN d+(if upB d way=true then 1 else 0)) 0
  generalize plainD false (wholeN d+(if upB d way=true then 1 else 0)) 0=dd at h1 ⊢
  unfold tellR
  split
  ·exact h1
  ·rfl
theorem IG {k:JV}(h:k.g=false):0≤(wholeJ k 1).1:=by
 have h2:(wholeD k 1).neg=false:=by
  unfold wholeD
  rw[h]
  exact JO (Jh _ _ _)
 unfold wholeJ
 rw[h2]
 have h3:=Jh (Num.limbs (wholeD k 1).m).length (Num.worth (Num.limbs (wholeD k 1).m)) (wholeD k 1).e
 unfold intR
 split
 ·exact Int.le_refl _
 ·split
  ·exact Int.le_refl _
  ·split
   ·exact Int.le_refl _
   ·split
    ·exact Int.le_refl _
    ·rw[h3]
     simp
theorem Jo {k:JV}(h:k.g=false)(n:Nat):atJ k n=wholeJ k 1:=by
 have:=IG h
 unfold atJ
 rw[if_neg (by omega)]
def okK (k:JV):Prop:=k.kind=4∨(k.kind=3∧k.g=false)
theorem JJ {k:JV}(h:okK k):(∃t,readS k=.key t)∨(readS k=.idx k∧k.g=false):=by
 unfold readS
 rcases h with h | ⟨h,hg⟩
 ·exact Or.inl ⟨_,if_pos h⟩
 ·rw[if_neg (by omega),if_pos h]
  exact Or.inr ⟨rfl,hg⟩
theorem Jb {v z a:JV}{t:List UInt8}(h:withR v t z=(a,0)):(mayJ 200 v=true∧mayJ 200 z=true∧soundB t=true)∧(v.kind=6∨v.kind=0)∧depthJ 200 z≠200∧a=objV (setO t z v.obj):=by
 unfold withR at h
 split at h
 ·exact absurd (congrArg Prod.snd h) (by simp)
 rename_i h1
 split at h
 ·exact absurd (congrArg Prod.snd h) (by simp)
 rename_i h2
 split at h
 ·exact absurd (congrArg Prod.snd h) (by simp)
 rename_i h3
 exact⟨Decidable.not_not.1 h1,by omega,h3,(congrArg Prod.fst h).symm⟩
theorem Jp {v k z:JV}(hg:k.g=false)(hv:v.kind=0∨v.kind=5)(h2:(wholeJ k 1).2=0)(h3:(wholeJ k 1).1≤65535):layS v (.idx k) z=if 200<depthJ 200 (arrJ (fillJ v.arr (wholeJ k 1).1.toNat z)) then (.null,6) else (arrJ (fillJ v.arr (wholeJ k 1).1.toNat z),0):=by
 have h0:=IG hg
 have hp:putJ v.arr (.idx k) z=(fillJ v.arr (wholeJ k 1).1.toNat z,0):=by
  unfold putJ
  dsimp only
  rw[Jo hg,if_neg (by omega),if_neg (by omega),if_neg (by omega)]
  rfl
 unfold layS
 dsimp only
 rw[if_neg (by omega),hp,if_neg (by simp)]
theorem IU {v k z a:JV}(hg:k.g=false)(h:layS v (.idx k) z=(a,0)):(v.kind=0∨v.kind=5)∧(wholeJ k 1).2=0∧(wholeJ k 1).1≤65535∧a=arrJ (fillJ v.arr (wholeJ k 1).1.toNat z):=by
 have h0:=IG hg
 by_cases hv:v.kind=0∨v.kind=5
 rotate_left
 ·unfold layS at h
  dsimp only at h
  rw[if_pos (by omega)] at h
  exact absurd (congrArg Prod.snd h) (by simp)
 by_cases h2:(wholeJ k 1).2=0
 rotate_left
 ·have hp:(putJ v.arr (.idx k) z).2≠0:=by unfold putJ;dsimp only;rw[Jo hg,if_pos h2];exact h2
  unfold layS at h
  dsimp only at h
  rw[if_neg (by omega),if_pos hp] at h
  exact absurd (congrArg Prod.snd h) hp
 by_cases h3:(wholeJ k 1).1≤65535
 rotate_left
 ·have hp:(putJ v.arr (.idx k) z).2=10:=by unfold putJ;dsimp only;rw[Jo hg,if_neg (by omega),if_neg (by omega),if_pos (by omega)]
  unfold layS at h
  dsimp only at h
  rw[if_neg (by omega),if_pos (by omega)] at h
  exact absurd (congrArg Prod.snd h) (by dsimp only;omega)
 rw[Jp hg hv h2 h3] at h
 split at h
 ·exact absurd (congrArg Prod.snd h) (by simp)
 ·exact⟨hv,h2,h3,(congrArg Prod.fst h).symm⟩
theorem Kt {v k z a:JV}(hk:okK k)(h:layJ v k z=(a,0)):takeJ a k=(z,0):=by
 unfold layJ at h
 unfold takeJ
 rcases JJ hk with ⟨t,e⟩ | ⟨e,hg⟩
 ·rw[e] at h ⊢
  obtain⟨_,_,_,rfl⟩:=Jb (show withR v t z=(a,0) from h)
  unfold takeS
  dsimp only
  rw[if_pos (show (objV (setO t z v.obj)).kind=6∨(objV (setO t z v.obj)).kind=0 from Or.inl rfl),show (objV (setO t z v.obj)).obj=setO t z v.obj from rfl,IK]
  rfl
 ·rw[e] at h ⊢
  obtain⟨_,h2,_,rfl⟩:=IU hg h
  have h0:=IG hg
  have hl:=IV v.arr (wholeJ k 1).1.toNat z
  unfold takeS
  dsimp only
  rw[Jo hg,if_neg (by simp[arrJ,JV.kind]),if_pos (by simp[arrJ,JV.kind]),if_neg (by omega),show (arrJ (fillJ v.arr (wholeJ k 1).1.toNat z)).arr=fillJ v.arr (wholeJ k 1).1.toNat z from rfl,if_pos ⟨h0,by rw[hl];omega⟩,Ku]
theorem JP (k:List UInt8)(x y:JV)(l:List Fld):(l.map fun p=>if p.1=k then (k,x) else p).map (fun p=>if p.1=k then (k,y) else p)=l.map fun p=>if p.1=k then (k,y) else p:=by
 rw[List.map_map]
 refine List.map_congr_left fun p _=>?_
 simp only[Function.comp]
 by_cases h:p.1=k
 ·rw[if_pos h,if_pos rfl,if_pos h]
 ·rw[if_neg h,if_neg h]
theorem Kv (k:List UInt8)(x:JV)(l:List Fld):hasO k (setO k x l)=true:=by
 by_cases h:hasO k (setO k x l)=true
 ·exact h
 ·have:=Ji h
  rw[IK] at this
  cases this
theorem Kw (k:List UInt8)(x y:JV)(l:List Fld):setO k y (setO k x l)=setO k y l:=by
 rw[setO.eq_def k y (setO k x l),if_pos (Kv k x l)]
 unfold setO
 by_cases h:hasO k l=true
 ·rw[if_pos h,if_pos h]
  exact JP k x y l
 ·rw[if_neg h,if_neg h,List.map_append,List.map_cons,List.map_nil,if_pos rfl]
  congr 1
  conv=>rhs;rw[←List.map_id l]
  refine List.map_congr_left fun p hp=>?_
  rw[if_neg (fun e=>h (vH.2 (by rw[←e];exact List.mem_map_of_mem hp)))]
  rfl
theorem Jq {v z:JV}{t:List UInt8}(h1:mayJ 200 v=true)(h2:v.kind=6∨v.kind=0):withR v t z=if ¬ (mayJ 200 z=true∧soundB t=true) then (.null,1) else if depthJ 200 z=200 then (.null,6) else (objV (setO t z v.obj),0):=by
 unfold withR
 by_cases hm:mayJ 200 z=true∧soundB t=true
 ·rw[if_neg (fun h:¬ (mayJ 200 v=true∧mayJ 200 z=true∧soundB t=true)=>h ⟨h1,hm⟩),if_neg (show ¬ (v.kind≠6∧v.kind≠0) by omega),if_neg (fun h:¬ (mayJ 200 z=true∧soundB t=true)=>h hm)]
 ·rw[if_pos (fun h:mayJ 200 v=true∧mayJ 200 z=true∧soundB t=true=>hm h.2),if_pos hm]
theorem KI {v k z a:JV}(y:JV)(hk:okK k)(hv:mayJ 200 v=true)(hz:mayJ 200 z=true)(h:layJ v k z=(a,0)):layJ a k y=layJ v k y:=by
 have ha:mayJ 200 a=true:=by
  have:=FY (s:=readS k) hv hz
  rw[show layS v (readS k) z=(a,0) from h] at this
  exact this
 unfold layJ at h ⊢
 rcases JJ hk with ⟨t,e⟩ | ⟨e,hg⟩
 ·rw[e] at h ⊢
  obtain⟨_,hkd,_,rfl⟩:=Jb (show withR v t z=(a,0) from h)
  show withR _ t y=withR v t y
  rw[Jq ha (Or.inl rfl),Jq hv hkd,show (objV (setO t z v.obj)).obj=setO t z v.obj from rfl,Kw]
 ·rw[e] at h ⊢
  obtain⟨hkd,h2,h3,rfl⟩:=IU hg h
  rw[Jp hg hkd h2 h3,Jp hg (Or.inr rfl) h2 h3,show (arrJ (fillJ v.arr (wholeJ k 1).1.toNat z)).arr=fillJ v.arr (wholeJ k 1).1.toNat z from rfl,JQ]
theorem Jr:∀{p:List JV} {v x a:JV},(∀k ∈ p,okK k)→mayJ 200 v=true→mayJ 200 x=true→setJ v p x=(a,0)→goJ a p=(x,0)∧∀y,setJ a p y=setJ v p y
 | [],v,x,a,_,_,_,h=>by
  rw[setJ] at h
  obtain rfl:x=a:=congrArg Prod.fst h
  exact⟨rfl,fun y=>rfl⟩
 | k :: p,v,x,a,hk,hv,hx,h=>by
  have hk1:=hk k (List.mem_cons_self ..)
  rw[setJ] at h
  split at h
  ·exact absurd (congrArg Prod.snd h) (by assumption)
  rename_i h1
  split at h
  ·exact absurd (congrArg Prod.snd h) (by assumption)
  rename_i h2
  obtain⟨s,hs⟩:∃s,setJ (takeJ v k).1 p x=(s,0):=⟨_,Prod.ext rfl (by omega)⟩
  rw[hs] at h
  have ht:mayJ 200 (takeJ v k).1=true:=eQ hv
  have hsm:mayJ 200 s=true:=by have:=Jc (p:=p) ht hx;rw[hs] at this;exact this
  obtain⟨i1,i2⟩:=Jr (fun k' h'=>hk k' (List.mem_cons_of_mem _ h')) ht hx hs
  have h3:=Kt hk1 h
  refine⟨?_,fun y=>?_⟩
  ·rw[goJ,h3,if_neg (by simp)]
   exact i1
  ·rw[setJ,setJ,h3,if_neg (by simp),if_neg h1,i2 y,KI _ hk1 hv hsm h]
theorem KJ {v k z:JV}(h:(layJ v k z).2≠0):(layJ v k z).1=.null:=by
 unfold layJ at h ⊢
 generalize readS k=s at h ⊢
 cases s with
 | key t=>exact oz h
 | _ =>
  unfold layS at h ⊢
  dsimp only at h ⊢
  split
  ·rfl
  ·split
   ·rfl
   ·split
    ·rfl
    ·rename_i h1 h2 h3
     rw[if_neg h1,if_neg h2,if_neg h3] at h
     exact absurd rfl h
theorem KL:∀{p:List JV} {v x:JV},(setJ v p x).2≠0→(setJ v p x).1=.null
 | [],v,x,h=>by rw[setJ] at h;exact absurd rfl h
 | k :: p,v,x,h=>by
  rw[setJ] at h ⊢
  split
  ·rfl
  ·rename_i h1
   rw[if_neg h1] at h
   split
   ·rfl
   ·rename_i h2
    rw[if_neg h2] at h
    exact KJ h
theorem Ky {v x:JV}{p:List JV}(h:(setPJ v p x).2≠0):(setPJ v p x).1=.null:=by
 unfold setPJ at h ⊢
 split
 ·rename_i h1
  rw[if_pos h1] at h
  exact KL h
 ·rfl
theorem JR {v x a:JV}{p:List JV}(hk:∀k ∈ p,okK k)(h:setPJ v p x=(a,0)):mayJ 200 a=true∧getPJ a p=(x,0)∧∀y,setPJ a p y=setPJ v p y:=by
 unfold setPJ at h
 split at h
 rotate_left
 ·exact absurd (congrArg Prod.snd h) (by simp)
 rename_i hm
 obtain⟨hv,hx,hp⟩:=hm
 have ha:mayJ 200 a=true:=by have:=Jc (p:=p) hv hx;rw[h] at this;exact this
 obtain⟨h1,h2⟩:=Jr hk hv hx h
 refine⟨ha,?_,fun y=>?_⟩
 ·unfold getPJ
  rw[if_pos ⟨ha,hp⟩]
  exact h1
 ·unfold setPJ
  by_cases hy:mayJ 200 y=true
  ·rw[if_pos ⟨ha,hy,hp⟩,if_pos ⟨hv,hy,hp⟩]
   exact h2 y
  ·rw[if_neg (fun h=>hy h.2.1),if_neg (fun h=>hy h.2.1)]
inductive Small1:JV→Prop
 | mk (v:JV) (h2:v.obj.length+1≤1048576) (h4:∀x ∈ v.arr,Small1 x) (h6:∀p ∈ v.obj,Small1 p.2):Small1 v
theorem Small1.obj {v:JV}(h:Small1 v):v.obj.length+1≤1048576:=by cases h;assumption
theorem Small1.arr {v:JV}(h:Small1 v):∀x ∈ v.arr,Small1 x:=by cases h;assumption
theorem Small1.flds {v:JV}(h:Small1 v):∀p ∈ v.obj,Small1 p.2:=by cases h;assumption
theorem IC:Small1 .null:=.mk _ (by simp[JV.null,JV.obj]) (by simp[JV.null,JV.arr]) (by simp[JV.null,JV.obj])
theorem Js {k:JV}(h:okK k):readS k=.key k.s∨(readS k=.idx k∧k.g=false):=by
 unfold readS
 rcases h with h | ⟨h,hg⟩
 ·exact Or.inl (if_pos h)
 ·rw[if_neg (by omega),if_pos h]
  exact Or.inr ⟨rfl,hg⟩
theorem Jt {v k:JV}(h:Small1 v)(hk:okK k):Small1 (takeJ v k).1:=by
 unfold takeJ
 rcases Js hk with e | ⟨e,_⟩
 ·rw[e]
  unfold takeS
  dsimp only
  split
  ·cases hg:getO k.s v.obj with
   | none=>exact IC
   | some x=>exact h.flds _ (nY hg)
  ·exact IC
 ·rw[e]
  unfold takeS
  dsimp only
  split
  ·exact h
  ·split
   ·split
    ·exact IC
    ·split
     ·dsimp only
      rw[List.getD_eq_getElem?_getD]
      cases hg:v.arr[(atJ k v.arr.length).1.toNat]? with
      | none=>exact IC
      | some x=>exact h.arr _ (List.mem_of_getElem? hg)
     ·exact IC
   ·exact IC
theorem JS {t:List UInt8}{z:JV}{l:List Fld}{p:Fld}(h:p ∈ setO t z l):p ∈ l∨p=(t,z):=by
 unfold setO at h
 split at h
 ·obtain⟨q,hq,rfl⟩:=List.mem_map.1 h
  split
  ·exact Or.inr rfl
  ·exact Or.inl hq
 ·rcases List.mem_append.1 h with h | h
  ·exact Or.inl h
  ·exact Or.inr (List.mem_singleton.1 h)
theorem JU (t:List UInt8)(z:JV)(l:List Fld):(setO t z l).length≤l.length+1:=by
 unfold setO
 split
 ·rw[List.length_map];omega
 ·rw[List.length_append,List.length_cons,List.length_nil];omega
theorem Kz {l:List JV}{m:Nat}{z x:JV}(h:x ∈ fillJ l m z):x ∈ l∨x=.null∨x=z:=by
 unfold fillJ at h
 rcases List.mem_or_eq_of_mem_set h with h | h
 ·rcases List.mem_append.1 h with h | h
  ·exact Or.inl h
  ·exact Or.inr (Or.inl (List.mem_replicate.1 h).2)
 ·exact Or.inr (Or.inr h)
theorem JW {v k z a:JV}(hk:okK k)(sk:SmallV k)(h1:Small1 v)(sv:SmallV v)(sz:SmallV z)(h:layJ v k z=(a,0)):SmallV a:=by
 unfold layJ at h
 rcases Js hk with e | ⟨e,hg⟩
 ·rw[e] at h
  obtain⟨_,_,_,rfl⟩:=Jb (show withR v k.s z=(a,0) from h)
  refine iQ (Nat.le_trans (JU _ _ _) h1.obj) fun p hp=>?_
  rcases JS hp with hp | rfl
  ·exact⟨sv.keys p hp,sv.flds p hp⟩
  ·exact⟨sk.sl,sz⟩
 ·rw[e] at h
  obtain⟨_,_,h3,rfl⟩:=IU hg h
  have h0:=IG hg
  have hl:=sv.al
  refine fK (by rw[IV];omega) fun x hx=>?_
  rcases Kz hx with hx | rfl | rfl
  ·exact sv.arr x hx
  ·exact aI
  ·exact sz
theorem Jj:∀{p:List JV} {v x a:JV},(∀k ∈ p,okK k∧SmallV k)→mayJ 200 v=true→Small1 v→SmallV v→SmallV x→setJ v p x=(a,0)→SmallV a
 | [],v,x,a,_,_,_,_,sx,h=>by
  rw[setJ] at h
  obtain rfl:x=a:=congrArg Prod.fst h
  exact sx
 | k :: p,v,x,a,hk,hv,h1,sv,sx,h=>by
  have hk1:=hk k (List.mem_cons_self ..)
  rw[setJ] at h
  split at h
  ·exact absurd (congrArg Prod.snd h) (by assumption)
  split at h
  ·exact absurd (congrArg Prod.snd h) (by assumption)
  rename_i h2
  obtain⟨s,hs⟩:∃s,setJ (takeJ v k).1 p x=(s,0):=⟨_,Prod.ext rfl (by omega)⟩
  rw[hs] at h
  have ht:mayJ 200 (takeJ v k).1=true:=eQ hv
  exact JW hk1.1 hk1.2 h1 sv (Jj (fun k' h'=>hk k' (List.mem_cons_of_mem _ h')) ht (Jt h1 hk1.1) (dS sv (readS k) (fun h4=>dU hv h4)) sx hs) h
theorem JG {v x a:JV}{p:List JV}(hk:∀k ∈ p,okK k)(sp:∀k ∈ p,SmallV k)(h1:Small1 v)(sv:SmallV v)(sx:SmallV x)(h:setPJ v p x=(a,0)):SmallV a:=by
 unfold setPJ at h
 split at h
 ·rename_i hm
  exact Jj (fun k h'=>⟨hk k h',sp k h'⟩) hm.1 h1 sv sx h
 ·exact absurd (congrArg Prod.snd h) (by simp)
end Go.Proofs.YtcgbmmalfbpjaaaGreatDoor
