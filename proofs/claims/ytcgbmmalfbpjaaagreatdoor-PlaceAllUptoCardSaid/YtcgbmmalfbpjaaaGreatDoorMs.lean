/-  -/
import Derived.Test.YtcgbmmalfbpjaaaGreatDoorMk
import Derived.Test.YtcgbmmalfbpjaaaGreatDoorMf
import Derived.Laws.IdiomStrings
import Derived.Deep.CutBlock
set_option maxRecDepth 100000
set_option maxHeartbeats 16000000
namespace Go.Proofs.YtcgbmmalfbpjaaaGreatDoor
open Go.RowKit
end Go.Proofs.YtcgbmmalfbpjaaaGreatDoor

namespace Go.Proofs.YtcgbmmalfbpjaaaGreatDoor
end Go.Proofs.YtcgbmmalfbpjaaaGreatDoor

namespace Go.Proofs.YtcgbmmalfbpjaaaGreatDoor
open Go.RowKit
theorem BP:SliceOf Tryz.prog 87 3 (.int .i64 0) 8:=⟨Tryz.underlying87,by kernel_rfl,rfl⟩
def i64s (ps:List Nat):List Value:=ps.map fun (p:Nat)=>Value.int .i64 (p:Int)
theorem Dp {l:List UInt8}{p:Nat}{r:List Nat}(hp:isPt p)(h:nats l=encN p ++ r):decG l=(p,(encN p).length):=by
 have hne:l≠[]:=fun e=>by
  have:=congrArg List.length h
  have h1:=dK p
  subst e
  simp[nats] at this
  omega
 unfold decG
 rw[if_neg hne,h,(rD p hp r).1]
theorem mi (a b:List Nat):encs (a ++ b)=encs a ++ encs b:=by simp[encs]
end Go.Proofs.YtcgbmmalfbpjaaaGreatDoor
