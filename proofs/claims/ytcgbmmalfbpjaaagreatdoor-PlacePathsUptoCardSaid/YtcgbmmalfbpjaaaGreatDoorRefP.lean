/-  -/
import Derived.Test.YtcgbmmalfbpjaaaGreatDoorMg
import Derived.Test.YtcgbmmalfbpjaaaGreatDoorPi
set_option maxRecDepth 100000
set_option maxHeartbeats 16000000
namespace Go.Proofs.YtcgbmmalfbpjaaaGreatDoor
open Go.RowKit
theorem AB {g:Bool}{k:Nat}(hk:k≤9223372036854775808):(Num.digs 10 (plainD g k 0).m).length≤19:=Nat.le_trans (Num.digs_length_mono (by decide) (fO _ _ _)) (jB k hk)
theorem uI (k:Nat)(w:World)(hk:k≤9223372036854775807) :
  Calls Tryz.prog 45 #[.int .i64 k] w (OutD w (plainD false k 0)):=by
 have CS:=fun W=>xA k W (by omega)
 have hd:=jB k (by omega)
 have hb:=AB (g:=false) (k:=k) (by omega)
 have CM:=fun W b c (hu:U8 W b (Num.digs 10 k)) (h1:(Num.digs 10 k).length≤c) (h2:c≤9223372036854775807)=>AA false b c k 0 W hu h1 h2 (by omega) (by omega)
 obtain⟨d,hdd⟩:∃d,d=plainD false k 0:=⟨_,rfl⟩
 rw[←hdd] at CM hb ⊢
 have CT:=fun W b c (hu:U8 W b (Num.digs 10 d.m))=>EI d b c W hu (by omega)
 unfold refV at CT
 replace CS:=hid CS
 replace CM:=hid CM
 replace CT:=hid CT
 clear hd hb hdd
 go_enter Tryz.func45,Tryz.ntmps45
 go_wp2_with fail
 refine (CS.out _).mono ?_
 rintro e1 w1 ⟨b1,c1,rfl,hb1,ho1⟩
 have HB1:=hid (ak hb1)
 have HR1:=hid ((show Rec (w.alloc _) w.heap.size from ⟨_,_,_,_,_,_,aj w _⟩).below hb1)
 have HU1:=hid (FN ho1 (lD k))
 have hc:=gQ ho1
 have hc1:=hc.1
 have hc2:=hc.2
 clear hb1 ho1 CS hc
 go_wp2_with fail
 refine (CM.out _ _ _ HU1.out hc1 hc2).mono ?_
 rintro e2 w2 ⟨b2,c2,rfl,hb2,hr2⟩
 have HB2:=hid (ae HB1.out hb2)
 have HR2:=hid (HR1.out.below hb2)
 have HU2:=hid hr2.1
 clear hb2 hr2 CM HB1 HR1 HU1
 unfold refV
 go_wp2_with fail
 refine (CT.out _ _ _ HU2.out).mono ?_
 rintro e3 w3 ⟨b3,c3,rfl,ho3⟩
 have HB3:=hid (ae HB2.out ho3.1)
 have HR3:=hid (HR2.out.below ho3.1)
 have HO3:=hid ho3.2
 have hlt:=HR2.out.lt
 clear ho3 CT
 obtain⟨_,_,_,p0,p1,p2⟩:=HR3.out.cells.get
 have f0:=HR3.out.cells.frozen 0
 have f1:=HR3.out.cells.frozen 1
 have f2:=HR3.out.cells.frozen 2
 unfold decV
 go_wp2
 refine bodyPost_ret (v:=decV d b3 c3) (by simp[results,Tryz.results45,go_sem,p0,p1,p2,decV]) rfl ?_
 exact⟨b3,c3,rfl,fK HB3.out (Nat.le_refl _) _ _ _ _ _,aG (uT HO3.out hlt _ _ _ _ _) (by omega)⟩
end Go.Proofs.YtcgbmmalfbpjaaaGreatDoor
