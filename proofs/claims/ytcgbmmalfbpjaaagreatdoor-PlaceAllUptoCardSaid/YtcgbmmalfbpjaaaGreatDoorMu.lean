/-  -/
import Derived.Test.YtcgbmmalfbpjaaaGreatDoorMj
import Derived.Test.YtcgbmmalfbpjaaaGreatDoorMe
import Derived.Test.YtcgbmmalfbpjaaaGreatDoorMa
set_option maxRecDepth 100000
set_option maxHeartbeats 16000000
namespace Go.Proofs.YtcgbmmalfbpjaaaGreatDoor
section
variable {α:Type} {S:α→Prop} {c:α→α→Int}
def Lt (c:α→α→Int) (p q:α × Nat):Prop:=c p.1 q.1<0∨(c p.1 q.1=0∧p.2<q.2)
instance (c:α→α→Int) (p q:α × Nat):Decidable (Lt c p q):=by unfold Lt;infer_instance
def Stab (c:α→α→Int) (l:List (α × Nat)):Prop:=l.Pairwise (Lt c)
def insS (c:α→α→Int) (x:α × Nat):List (α × Nat)→List (α × Nat)
 | []=>[x]
 | y :: l=>if Lt c x y then x :: y :: l else y :: insS c x l
theorem qx (x:α × Nat):∀l:List (α × Nat),(insS c x l).Perm (x :: l)
 | []=>List.Perm.refl _
 | y :: l=>by
  simp only[insS]
  split
  ·exact List.Perm.refl _
  ·exact ((qx x l).cons y).trans (List.Perm.swap x y l)
def withI (l:List α):List (α × Nat):=l.zipIdx
def sortI (c:α→α→Int) (l:List (α × Nat)):List (α × Nat):=l.foldl (fun acc x=>insS c x acc) []
def sortS (c:α→α→Int) (l:List α):List α:=(sortI c (withI l)).map (·.1)
theorem xJ (l:List (α × Nat)):(sortI c l).Perm l:=by
 have key:∀(l acc:List (α × Nat)),(l.foldl (fun acc x=>insS c x acc) acc).Perm (l ++ acc):=by
  intro l
  induction l with
  | nil=>intro acc;exact List.Perm.refl _
  | cons y l ih =>
   intro acc
   rw[List.foldl_cons]
   exact (ih _).trans (((qx y acc).append_left l).trans List.perm_middle)
 have:=key l []
 rwa [List.append_nil] at this
theorem AV (l:List α):(withI l).map (·.1)=l:=List.zipIdx_map_fst ..
theorem fP (l:List α):(sortS c l).Perm l:=by
 have:=(xJ (c:=c) (withI l)).map (·.1)
 rwa [AV] at this
end
end Go.Proofs.YtcgbmmalfbpjaaaGreatDoor

namespace Go.Proofs.YtcgbmmalfbpjaaaGreatDoor
open Go.RowKit
def strs (ks:List (List UInt8)):List Value:=ks.map strV
@[simp] theorem FC (ks:List (List UInt8)):(strs ks).length=ks.length:=by simp[strs]
end Go.Proofs.YtcgbmmalfbpjaaaGreatDoor

namespace Go.Proofs.YtcgbmmalfbpjaaaGreatDoor
section
variable {α:Type} {S:α→Prop} {c:α→α→Int}
end
end Go.Proofs.YtcgbmmalfbpjaaaGreatDoor

namespace Go.Proofs.YtcgbmmalfbpjaaaGreatDoor
open Go.RowKit
end Go.Proofs.YtcgbmmalfbpjaaaGreatDoor
