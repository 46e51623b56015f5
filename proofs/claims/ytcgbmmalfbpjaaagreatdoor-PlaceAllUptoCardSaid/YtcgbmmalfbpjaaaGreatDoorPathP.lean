/-  -/
import Derived.Test.YtcgbmmalfbpjaaaGreatDoorPa
import Derived.Test.YtcgbmmalfbpjaaaGreatDoorMc
set_option maxRecDepth 100000
set_option maxHeartbeats 16000000
namespace Go.Proofs.YtcgbmmalfbpjaaaGreatDoor
def nJ (i:Nat):JV:=.mk 3 (plainD false i 0).neg (Num.limbs (plainD false i 0).m) (plainD false i 0).e [] [] []
def itemsP (F:JV→List JV→List (List JV)):List JV→Nat→List JV→List (List JV)
 | [],_,_=>[]
 | x :: l,i,p=>(p ++ [nJ i]) :: (F x (p ++ [nJ i]) ++ itemsP F l (i+1) p)
def fldsP (F:JV→List JV→List (List JV)):List Fld→List JV→List (List JV)
 | [],_=>[]
 | f :: l,p=>(p ++ [textJ2 f.1]) :: (F f.2 (p ++ [textJ2 f.1]) ++ fldsP F l p)
def pathsJ:Nat→JV→List JV→List (List JV)
 | 0,_,_=>[]
 | f+1,v,p=>itemsP (pathsJ f) v.arr 0 p ++ fldsP (pathsJ f) v.obj p
def cntJ:Nat→JV→Nat
 | 0,_=>0
 | f+1,v=>(v.arr.map fun x=>cntJ f x+1).sum+(v.obj.map fun x=>cntJ f x.2+1).sum
theorem pW (F:JV→List JV→List (List JV))(c:JV→Nat)(hF:∀x p,(F x p).length=c x):∀(l:List JV) (i:Nat) (p:List JV),(itemsP F l i p).length=(l.map fun x=>c x+1).sum
 | [],_,_=>rfl
 | x :: l,i,p=>by
  rw[itemsP,List.length_cons,List.length_append,hF,pW F c hF l,List.map_cons,List.sum_cons]
  omega
theorem uF (F:JV→List JV→List (List JV))(c:JV→Nat)(hF:∀x p,(F x p).length=c x):∀(l:List Fld) (p:List JV),(fldsP F l p).length=(l.map fun x=>c x.2+1).sum
 | [],_=>rfl
 | x :: l,p=>by
  rw[fldsP,List.length_cons,List.length_append,hF,uF F c hF l,List.map_cons,List.sum_cons]
  omega
theorem fD:∀(f:Nat) (v:JV) (p:List JV),(pathsJ f v p).length=cntJ f v
 | 0,_,_=>rfl
 | f+1,v,p=>by
  rw[pathsJ,cntJ,List.length_append,pW _ (cntJ f) (fD f),uF _ (cntJ f) (fD f)]
theorem nI (F:JV→List JV→List (List JV))(x:JV)(p:List JV):∀(l:List JV) (i:Nat),itemsP F (l ++ [x]) i p=itemsP F l i p ++ (p ++ [nJ (i+l.length)]) :: F x (p ++ [nJ (i+l.length)])
 | [],i=>by simp[itemsP]
 | y :: l,i=>by
  rw[List.cons_append,itemsP,nI F x p l (i+1),itemsP,List.length_cons,show i+1+l.length=i+(l.length+1) by omega]
  simp
theorem pX (F:JV→List JV→List (List JV))(x:Fld)(p:List JV):∀(l:List Fld),fldsP F (l ++ [x]) p=fldsP F l p ++ (p ++ [textJ2 x.1]) :: F x.2 (p ++ [textJ2 x.1])
 | []=>by simp[fldsP]
 | y :: l=>by
  rw[List.cons_append,fldsP,pX F x p l,fldsP]
  simp
theorem nK {F:JV→List JV→List (List JV)}{l:List JV}{k:Nat}(hk:k<l.length)(p:List JV):itemsP F (l.take (k+1)) 0 p=itemsP F (l.take k) 0 p ++ (p ++ [nJ k]) :: F l[k] (p ++ [nJ k]):=by
 rw[List.take_succ_eq_append_getElem hk,nI,List.length_take,Nat.min_eq_left (by omega),Nat.zero_add]
theorem pY {F:JV→List JV→List (List JV)}{l:List Fld}{k:Nat}(hk:k<l.length)(p:List JV):fldsP F (l.take (k+1)) p=fldsP F (l.take k) p ++ (p ++ [textJ2 l[k].1]) :: F l[k].2 (p ++ [textJ2 l[k].1]):=by
 rw[List.take_succ_eq_append_getElem hk,pX]
theorem qf (F:JV→List JV→List (List JV))(p:List JV):∀(l m:List JV) (i:Nat),itemsP F (l ++ m) i p=itemsP F l i p ++ itemsP F m (i+l.length) p
 | [],m,i=>by simp[itemsP]
 | y :: l,m,i=>by
  rw[List.cons_append,itemsP,qf F p l m (i+1),itemsP,List.length_cons,show i+1+l.length=i+(l.length+1) by omega]
  simp
theorem uG (F:JV→List JV→List (List JV))(p:List JV):∀(l m:List Fld),fldsP F (l ++ m) p=fldsP F l p ++ fldsP F m p
 | [],m=>by simp[fldsP]
 | y :: l,m=>by
  rw[List.cons_append,fldsP,uG F p l m,fldsP]
  simp
theorem iU (F:JV→List JV→List (List JV))(l:List JV)(k:Nat)(p:List JV):(itemsP F (l.take k) 0 p).length≤(itemsP F l 0 p).length:=by
 conv=>rhs;rw[←List.take_append_drop k l]
 rw[qf,List.length_append]
 omega
theorem jP (F:JV→List JV→List (List JV))(l:List Fld)(k:Nat)(p:List JV):(fldsP F (l.take k) p).length≤(fldsP F l p).length:=by
 conv=>rhs;rw[←List.take_append_drop k l]
 rw[uG,List.length_append]
 omega
end Go.Proofs.YtcgbmmalfbpjaaaGreatDoor
