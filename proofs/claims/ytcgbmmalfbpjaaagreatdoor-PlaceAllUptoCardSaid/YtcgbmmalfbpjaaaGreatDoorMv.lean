/-  -/
import Derived.Test.YtcgbmmalfbpjaaaGreatDoorMg
import Derived.Test.YtcgbmmalfbpjaaaGreatDoorMe
import Derived.Test.YtcgbmmalfbpjaaaGreatDoorMu
import Derived.Test.YtcgbmmalfbpjaaaGreatDoorMm
import Derived.Test.YtcgbmmalfbpjaaaGreatDoorMn
import Derived.Test.YtcgbmmalfbpjaaaGreatDoorMs
import Derived.Deep.RegionLaw
set_option maxRecDepth 100000
set_option maxHeartbeats 16000000
namespace Go.Proofs.YtcgbmmalfbpjaaaGreatDoor
open Go.RowKit
theorem Em {w W' w1:World}{b0 b1 b2 b3 b4 b5 b6 b7 b8 b9 b10 b11 b12 b13 b14 b15 o0 o1 o2 o3 o4 o5 o6 o7 o8 o9 o10 o11 o12 o13 o14 o15:Nat}{x0 x1 x2 x3 x4 x5 x6 x7 x8 x9 x10 x11 x12 x13 x14 x15:Value}(h:W'.cell? ⟨b0,o0,none⟩=some x0∧W'.cell? ⟨b1,o1,none⟩=some x1∧W'.cell? ⟨b2,o2,none⟩=some x2∧W'.cell? ⟨b3,o3,none⟩=some x3∧W'.cell? ⟨b4,o4,none⟩=some x4∧W'.cell? ⟨b5,o5,none⟩=some x5∧W'.cell? ⟨b6,o6,none⟩=some x6∧W'.cell? ⟨b7,o7,none⟩=some x7∧W'.cell? ⟨b8,o8,none⟩=some x8∧W'.cell? ⟨b9,o9,none⟩=some x9∧W'.cell? ⟨b10,o10,none⟩=some x10∧W'.cell? ⟨b11,o11,none⟩=some x11∧W'.cell? ⟨b12,o12,none⟩=some x12∧W'.cell? ⟨b13,o13,none⟩=some x13∧W'.cell? ⟨b14,o14,none⟩=some x14∧W'.cell? ⟨b15,o15,none⟩=some x15∧Below w.heap.size w W')(hb:Below W'.heap.size W' w1) :
  w1.cell? ⟨b0,o0,none⟩=some x0∧w1.cell? ⟨b1,o1,none⟩=some x1∧w1.cell? ⟨b2,o2,none⟩=some x2∧w1.cell? ⟨b3,o3,none⟩=some x3∧w1.cell? ⟨b4,o4,none⟩=some x4∧w1.cell? ⟨b5,o5,none⟩=some x5∧w1.cell? ⟨b6,o6,none⟩=some x6∧w1.cell? ⟨b7,o7,none⟩=some x7∧w1.cell? ⟨b8,o8,none⟩=some x8∧w1.cell? ⟨b9,o9,none⟩=some x9∧w1.cell? ⟨b10,o10,none⟩=some x10∧w1.cell? ⟨b11,o11,none⟩=some x11∧w1.cell? ⟨b12,o12,none⟩=some x12∧w1.cell? ⟨b13,o13,none⟩=some x13∧w1.cell? ⟨b14,o14,none⟩=some x14∧w1.cell? ⟨b15,o15,none⟩=some x15∧Below w.heap.size w w1:=by
 obtain⟨h0,h1,h2,h3,h4,h5,h6,h7,h8,h9,h10,h11,h12,h13,h14,h15,hz⟩:=h
 exact⟨ai h0 hb,ai h1 hb,ai h2 hb,ai h3 hb,ai h4 hb,ai h5 hb,ai h6 hb,ai h7 hb,ai h8 hb,ai h9 hb,ai h10 hb,ai h11 hb,ai h12 hb,ai h13 hb,ai h14 hb,ai h15 hb,ae hz hb⟩
end Go.Proofs.YtcgbmmalfbpjaaaGreatDoor
