/-  -/
import Derived.Test.YtcgbmmalfbpjaaaGreatDoorMf
import Derived.Test.YtcgbmmalfbpjaaaGreatDoorMe
import Derived.Deep.CutBlock
set_option maxRecDepth 100000
set_option maxHeartbeats 16000000
namespace Go.Proofs.YtcgbmmalfbpjaaaGreatDoor
open Go.RowKit
theorem AA (g:Bool)(a:Option Addr)(cap m:Nat)(e:Int)(w:World)(h:U8 w a (Num.digs 10 m))(hc:(Num.digs 10 m).length≤cap)(hc2:cap≤9223372036854775807)(hd:(Num.digs 10 m).length≤1000000000)(he:-3000000000≤e∧e≤3000000000) :
  Calls Tryz.prog 75 #[.bool g,.slice a (Num.digs 10 m).length cap,.int .i64 e] w (OutRD w (plainD g m e)):=by
 by_cases h0:m=0
 ·subst h0
  have:plainD g 0 e=zeroD:=if_pos rfl
  rw[this]
  exact uV g a cap e w
 ·obtain⟨b,off,rfl⟩:=h.isSome (fun e=>h0 ((Num.digs_eq_nil (by decide)).1 e))
  exact uU g b off cap m e w h h0 hc hc2 hd he
theorem FO {W0 W w1:World}{N R:Nat}{x y z:Value}(h:W.cell? ⟨N,0,none⟩=some x∧W.cell? ⟨N,1,none⟩=some y∧W.cell? ⟨N,2,none⟩=some z ∧
   W.frozen? ⟨R,0,none⟩=false∧W.frozen? ⟨R,1,none⟩=false∧W.frozen? ⟨R,2,none⟩=false∧Cells3 W R∧But R W0 W)(hb:Below W.heap.size W w1) :
  w1.cell? ⟨N,0,none⟩=some x∧w1.cell? ⟨N,1,none⟩=some y∧w1.cell? ⟨N,2,none⟩=some z ∧
   w1.frozen? ⟨R,0,none⟩=false∧w1.frozen? ⟨R,1,none⟩=false∧w1.frozen? ⟨R,2,none⟩=false∧Cells3 w1 R∧But R W0 w1:=by
 obtain⟨h0,h1,h2,_,_,_,h6,h7⟩:=h
 have B':=(bcell hb).1
 have c6:=h6.below hb
 exact⟨(B' _ _ (ax h0)).trans h0,(B' _ _ (ax h1)).trans h1,(B' _ _ (ax h2)).trans h2,c6.frozen 0,c6.frozen 1,c6.frozen 2,c6,h7.step hb⟩
theorem Fj {W0 W:World}{N R:Nat}{x y z:Value}(h:W.cell? ⟨N,0,none⟩=some x∧W.cell? ⟨N,1,none⟩=some y∧W.cell? ⟨N,2,none⟩=some z ∧
   W.frozen? ⟨R,0,none⟩=false∧W.frozen? ⟨R,1,none⟩=false∧W.frozen? ⟨R,2,none⟩=false∧Cells3 W R∧But R W0 W)(p q r:Value)(hN:N≠R)(w1:World)(hw:w1=((W.setCell ⟨R,0,none⟩ p).setCell ⟨R,1,none⟩ q).setCell ⟨R,2,none⟩ r) :
  w1.cell? ⟨N,0,none⟩=some x∧w1.cell? ⟨N,1,none⟩=some y∧w1.cell? ⟨N,2,none⟩=some z ∧
   w1.frozen? ⟨R,0,none⟩=false∧w1.frozen? ⟨R,1,none⟩=false∧w1.frozen? ⟨R,2,none⟩=false∧Cells3 w1 R∧But R W0 w1:=by
 subst hw
 obtain⟨h0,h1,h2,_,_,_,h6,h7⟩:=h
 have c6:=h6.set3 p q r
 have hc:∀(K j:Nat),K≠R→(((W.setCell ⟨R,0,none⟩ p).setCell ⟨R,1,none⟩ q).setCell ⟨R,2,none⟩ r).cell? ⟨K,j,none⟩=W.cell? ⟨K,j,none⟩:=fun K j hK=>by
  refine World.cell?_of_block ?_
  simp only
  rw[Below.heap_setCell _ _ _ _ hK,Below.heap_setCell _ _ _ _ hK,Below.heap_setCell _ _ _ _ hK]
 exact⟨(hc _ _ hN).trans h0,(hc _ _ hN).trans h1,(hc _ _ hN).trans h2,c6.frozen 0,c6.frozen 1,c6.frozen 2,c6,((h7.setCell _ _).setCell _ _).setCell _ _⟩
theorem EI (d:D)(a:Option Addr)(cap:Nat)(w:World)(h:U8 w a (Num.digs 10 d.m))(hl:(Num.digs 10 d.m).length≤1000000) :
  Calls Tryz.prog 74 #[refV d a cap] w (OutD w d):=by
 have CT:=fun W (hW:Below w.heap.size w W)=>EF a cap d.m W (h.below hW) hl
 obtain⟨n,hn⟩:∃n,n=(Num.digs 10 d.m).length:=⟨_,rfl⟩
 unfold refV
 rw[←hn] at CT ⊢
 replace CT:=hid CT
 clear h hl hn
 go_enter Tryz.func74,Tryz.ntmps74
 go_upto_region 1 with fail
 obtain⟨wi,hwi⟩:∃W,W=(w.alloc (.cells #[.bool d.neg,.slice a n cap,.int .i64 d.e] 109)).alloc (.cells #[.bool false,.slice none 0 0,.int .i64 0] 24):=⟨_,rfl⟩
 rw[←hwi]
 have hbi:Below w.heap.size w wi:=by rw[hwi];exact ((Below.refl _ _).alloc (Nat.le_refl _) _).alloc (by simp) _
 have hsz:wi.heap.size=w.heap.size+1+1:=by rw[hwi];simp
 have hk:=aN (show wi.heap[w.heap.size]? = _ by rw[hwi];exact dU (aj w _) _)
 have R3:Cells3 wi (w.heap.size+1):=⟨_,_,_,_,by rw[hwi];exact aB w _ _⟩
 obtain⟨⟨k0,k1,k2⟩,_⟩:=hk
 have f0:=R3.frozen 0
 have f1:=R3.frozen 1
 have f2:=R3.frozen 2
 replace R3:=hid R3
 have HBI:=hid hbi
 have hsz2:w.heap.size+1<wi.heap.size:=by omega
 have HW:∀W,But (w.heap.size+1) wi W→Below w.heap.size w W:=fun W hW=>hW.below HBI.out (by omega) (by omega)
 have CT':=fun W (hW:But (w.heap.size+1) wi W)=>CT.out W (HW W hW)
 replace CT':=hid CT'
 replace HW:=hid HW
 have HN:=hid (show w.heap.size≠w.heap.size+1 by omega)
 clear CT hwi hbi hsz
 go_region_held3 (fun w'=>w'.cell? ⟨w.heap.size,0,none⟩=some (.bool d.neg)∧w'.cell? ⟨w.heap.size,1,none⟩=some (.slice a n cap)∧w'.cell? ⟨w.heap.size,2,none⟩=some (.int .i64 d.e)∧w'.frozen? ⟨w.heap.size+1,0,none⟩=false∧w'.frozen? ⟨w.heap.size+1,1,none⟩=false∧w'.frozen? ⟨w.heap.size+1,2,none⟩=false∧Cells3 w' (w.heap.size+1)∧But (w.heap.size+1) wi w') (first | (exact⟨k0,k1,k2,f0,f1,f2,R3.out,(But.refl _ _).drew⟩) | (exact FO (by assumption) (by assumption)) | (exact Fj (by assumption) _ _ _ HN.out _ rfl)) ((first | (go_at_call 118;(with_reducible refine (CT'.out _ ?_).mono ?_);(simp only[*]);rintro e1 w1 ⟨am,cm,rfl,hb1,ho1⟩;have hc2:Cells3 wi.drew (w.heap.size+1):=(by simp only[*]);obtain⟨_,_,_,s0,s1,s2⟩:=(hc2.below hb1).get;have hc3:=hc2.below hb1)))
 rename_i hHeld
 obtain⟨_,_,_,_,_,_,_,hB⟩:=hHeld
 have hz:wi.heap.size≤w1.heap.size:=hb1.size
 have HO:=hid (aG (eY (R:=w.heap.size+1) ho1 (show w.heap.size+1<wi.heap.size from hsz2) (.bool d.neg) (.slice am (Num.limbs d.m).length cm) (.int .i64 d.e)) (show w.heap.size≤wi.heap.size by omega))
 have HB:=hid (HW.out _ hB)
 clear hB hb1 ho1 hc2 hc3 CT'
 go_wp2_with fail
 refine bodyPost_ret (v:=decV d am cm) (by simp[results,Tryz.results74,go_sem,s0,s1,s2,decV]) rfl ?_
 exact⟨am,cm,rfl,HB.out,HO.out⟩
structure HasD (W:World) (N:Nat) (g:Bool) (xs:List Nat) (e:Int) (b:Option Addr) (c:Nat):Prop where
 blk:W.heap[N]? = some (.cells #[.bool g,.slice b xs.length c,.int .i64 e] 24)
 u:U32 W b xs
theorem HasD.below {W W':World}{N c:Nat}{g:Bool}{xs:List Nat}{e:Int}{b:Option Addr}(h:HasD W N g xs e b c)(hb:Below W.heap.size W W'):HasD W' N g xs e b c:=⟨af h.blk hb,h.u.below hb⟩
theorem HasD.new {W:World}{d:D}{b:Option Addr}{c:Nat}(h:InD W d b c):HasD (W.alloc (.cells #[.bool d.neg,.slice b (Num.limbs d.m).length c,.int .i64 d.e] 24)) W.heap.size d.neg (Num.limbs d.m) d.e b c :=
 ⟨aj W _,h.u.below ((Below.refl _ _).alloc (Nat.le_refl _) _)⟩
def Is (g:Bool) (xs:List Nat) (e:Int) (ex:Nat) (x:D):Prop:=takenE g xs.length (Num.worth xs) e=ex∧takenD g xs.length (Num.worth xs) e=x
section
variable {g g2:Bool} {xs ys:List Nat} {e e2:Int} {ex ey:Nat} {x y:D} (W:World) (b:Option Addr) (c:Nat) (b2:Option Addr) (c2:Nat)
instance decEqD:DecidableEq D:=fun x y=>if h:x.neg=y.neg∧x.m=y.m∧x.e=y.e then isTrue (by cases x;cases y;simp_all) else isFalse (fun e=>h (by subst e;simp))
end
def Rec (W:World) (R:Nat):Prop:=∃g a n c e T,W.heap[R]? = some (.cells #[.bool g,.slice a n c,.int .i64 e] T)
theorem Rec.cells {W:World}{R:Nat}(h:Rec W R):Cells3 W R:=by obtain⟨g,a,n,c,e,T,h⟩:=h;exact⟨_,_,_,T,h⟩
theorem Rec.below {W W':World}{R:Nat}(h:Rec W R)(hb:Below W.heap.size W W'):Rec W' R:=by obtain⟨g,a,n,c,e,T,h⟩:=h;exact⟨g,a,n,c,e,T,af h hb⟩
theorem Rec.lt {W:World}{R:Nat}(h:Rec W R):R<W.heap.size:=by obtain⟨g,a,n,c,e,T,h⟩:=h;exact aA h
def put3 (W:World) (R:Nat) (g:Bool) (a:Option Addr) (n c:Nat) (e:Int):World:=((W.setCell ⟨R,0,none⟩ (.bool g)).setCell ⟨R,1,none⟩ (.slice a n c)).setCell ⟨R,2,none⟩ (.int .i64 e)
theorem fK {B:Nat}{w W:World}(h:Below B w W){R:Nat}(hR:B≤R)(g:Bool)(a:Option Addr)(n c:Nat)(e:Int):Below B w (put3 W R g a n c e) :=
 ((h.setCell (p:=⟨R,0,none⟩) hR _).setCell (p:=⟨R,1,none⟩) hR _).setCell (p:=⟨R,2,none⟩) hR _
theorem uT {W:World}{base:Nat}{e:TypeId}{size:Nat}{v:Value}{k:Nat}{xs:List Value}(h:W.ownsRow base e size v k xs){R:Nat}(hR:R<base)(g:Bool)(a:Option Addr)(n c:Nat)(x:Int):(put3 W R g a n c x).ownsRow base e size v k xs:=eY h hR _ _ _
end Go.Proofs.YtcgbmmalfbpjaaaGreatDoor
