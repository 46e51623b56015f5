/-  -/
import Derived.Test.YtcgbmmalfbpjaaaGreatDoorPa
set_option maxRecDepth 100000
set_option maxHeartbeats 16000000
namespace Go.Proofs.YtcgbmmalfbpjaaaGreatDoor
theorem BD (m:Nat)(e:Int):(plainD false m e).neg=false:=by unfold plainD;split<;>rfl
theorem Gg (n m:Nat)(e:Int):(takenD false n m e).neg=false:=by
 unfold takenD
 split
 ·split
  ·exact BD _ _
  ·rfl
 ·rfl
theorem Gs {er:Nat}{d:D}{way:Nat}(h:d.neg=false):(roundR er d way).1.neg=false:=by
 unfold roundR
 split
 ·exact h
 ·rw[h]
  have h1:=BD (wholeN d+(if upB d way=true then 1 else 0)) 0
  generalize plainD false (wholeN d+(if upB d way=true then 1 else 0)) 0=dd at h1 ⊢
  unfold tellR
  split
  ·exact h1
  ·rfl
theorem Gt {k:JV}(h:k.g=false):0≤(wholeJ k 1).1:=by
 have h2:(wholeD k 1).neg=false:=by
  unfold wholeD
  rw[h]
  exact Gs (Gg _ _ _)
 unfold wholeJ
 rw[h2]
 have h3:=Gg (Num.limbs (wholeD k 1).m).length (Num.worth (Num.limbs (wholeD k 1).m)) (wholeD k 1).e
 unfold intR
 split
 ·exact Int.le_refl _
 ·split
  ·exact Int.le_refl _
  ·split
   ·exact Int.le_refl _
   ·split
    ·exact Int.le_refl _
    ·rw[h3]
     simp
theorem GY {k:JV}(h:k.g=false)(n:Nat):atJ k n=wholeJ k 1:=by
 have:=Gt h
 unfold atJ
 rw[if_neg (by omega)]
end Go.Proofs.YtcgbmmalfbpjaaaGreatDoor
