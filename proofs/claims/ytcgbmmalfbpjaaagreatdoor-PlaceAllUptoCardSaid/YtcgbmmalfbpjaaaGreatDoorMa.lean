/-  -/
import Derived.Test.YtcgbmmalfbpjaaaGreatDoorChecked
import Derived.Test.YtcgbmmalfbpjaaaGreatDoorNB
import Derived.Deep.QuietTactic
import Derived.BigQuiet
import Derived.Deep.RegionHeld3
import Derived.WalkKit
set_option maxRecDepth 100000
set_option maxHeartbeats 16000000
namespace Go.Proofs.YtcgbmmalfbpjaaaGreatDoor
open Go.RowKit
theorem FH (b off n cap i:Nat)(x:Int)(w:World)(hi:i<n)(_hn:n≤9223372036854775807)(hc:w.cell? ⟨b,off+i,none⟩=some (.int .u32 x))(h0:0≤x)(h1:x<4294967296) :
  Calls Tryz.prog 228 #[.slice (some ⟨b,off,none⟩) n cap,.int .i64 i] w fun e w'=>e=.returned (.int .u64 x)∧w=w':=by
 go_enter Tryz.func228,Tryz.ntmps228
 go_wp2
 go_ret
 exact⟨rfl,rfl⟩
theorem Fe (a:Option Addr)(n cap i:Nat)(w:World)(hi:n≤i) :
  Calls Tryz.prog 228 #[.slice a n cap,.int .i64 i] w fun e w'=>e=.returned (.int .u64 0)∧w=w':=by
 go_enter Tryz.func228,Tryz.ntmps228
 go_wp2
 go_ret
 exact⟨rfl,rfl⟩
theorem yz (a:Option Addr)(cap i:Nat)(xs:List Nat)(w:World)(h:Row w a (u32s xs))(hn:xs.length≤9223372036854775807)(hlt:∀x ∈ xs,x<4294967296) :
  Calls Tryz.prog 228 #[.slice a xs.length cap,.int .i64 i] w fun e w'=>e=.returned (.int .u64 ((xs.getD i 0:Nat):Int))∧w=w':=by
 by_cases hi:i<xs.length
 ·obtain⟨b,off,rfl⟩:=h.isSome (by intro e;rw[←kT,e] at hi;simp at hi)
  refine FH b off xs.length cap i _ w hi hn (h.u32 hi) (by omega) ?_
  have:=hlt (xs.getD i 0) (by simp[hi])
  omega
 ·refine (Fe a xs.length cap i w (by omega)).mono fun e w' ⟨he,hw⟩=>⟨?_,hw⟩
  rw[he];simp[List.getElem?_eq_none (show xs.length≤i by omega)]
def trimLen (xs:List Nat):Nat:=(Num.trim xs).length
theorem mV (xs:List Nat):trimLen xs≤xs.length:=by
 obtain⟨n,hn,e⟩:=Num.trim_take xs
 rw[trimLen,e];simp;omega
theorem jI (xs:List Nat):xs.take (trimLen xs)=Num.trim xs:=by
 obtain⟨n,hn,e⟩:=Num.trim_take xs
 rw[trimLen,e,List.length_take,Nat.min_eq_left hn]
theorem qM (xs:List Nat)(k:Nat)(hk:k<xs.length)(h:xs.getD k 0≠0):trimLen (xs.take (k+1))=k+1:=by
 rw[List.take_add_one,List.getElem?_eq_getElem hk,trimLen]
 simp only[Option.toList_some]
 rw[Num.trim_snoc_pos]
 ·simp;omega
 ·simpa[hk] using h
theorem wE (xs:List Nat)(k:Nat)(hk:k<xs.length)(h:xs.getD k 0=0):trimLen (xs.take (k+1))=trimLen (xs.take k):=by
 have h':xs[k]=0:=by simpa[hk] using h
 rw[List.take_add_one,List.getElem?_eq_getElem hk,trimLen,trimLen]
 simp only[Option.toList_some]
 rw[h',Num.trim_snoc_zero]
theorem zI (b off n cap:Nat)(xs:List Nat)(w:World)(_hn:n≤9223372036854775807)(hx:xs.length=n)(hc:∀j,j<n→w.cell? ⟨b,off+j,none⟩=some (.int .u32 ((xs.getD j 0:Nat):Int)))(hcap:n≤cap)(hcap2:cap≤9223372036854775807) :
  Calls Tryz.prog 157 #[.slice (some ⟨b,off,none⟩) n cap] w fun e w'=>e=.returned (.slice (some ⟨b,off,none⟩) (trimLen xs) cap)∧w=w':=by
 have H:Hid (xs.length=n):=hx
 clear hx
 go_enter Tryz.func157,Tryz.ntmps157
 go_wp2
 go_loop [0] (fun l=>∃k:Nat,k≤n∧l=.slice (some ⟨b,off,none⟩) k cap∧trimLen (xs.take k)=trimLen xs) (fun l=>match l with | .slice _ k _=>k | _=>0)
 case atStart=>exact⟨n,Nat.le_refl _,rfl,by rw[←H.out,List.take_length]⟩
 case round =>
  obtain⟨k,hk,rfl,hrel⟩:=hrel
  by_cases hk0:k=0
  ·subst hk0
   have HR:=hid hrel
   clear hrel hc H
   go_wp2
   go_ret
   exact⟨by rw[←HR.out];rfl,rfl⟩
  ·obtain⟨m,rfl⟩:∃m,k=m+1:=⟨k-1,by omega⟩
   have hc1:=hc m (by omega)
   have hlen:m<xs.length:=by have:=H.out;omega
   have hsub:((m+1:Nat):Int)-1=(m:Int):=by omega
   by_cases h0:xs.getD m 0=0
   ·have HR:=hid ((wE xs m hlen h0).symm.trans hrel)
    rw[h0] at hc1
    clear hrel hc H h0 hsub
    go_wp2
    go_round
    case rel=>exact⟨m,by omega,rfl,HR.out⟩
    case measure=>simp
   ·have HR:=hid ((qM xs m hlen h0).symm.trans hrel)
    obtain⟨x,hx⟩:∃x,x=xs.getD m 0:=⟨_,rfl⟩
    rw[←hx] at hc1 h0
    have hne:((x:Int) == 0)=false:=by simpa using h0
    clear hrel hc H h0 hsub hx hlen
    go_wp2
    go_ret
    exact⟨by rw[←HR.out];rfl,rfl⟩
theorem wF (a:Option Addr)(cap:Nat)(w:World) :
  Calls Tryz.prog 157 #[.slice a 0 cap] w fun e w'=>e=.returned (.slice a 0 cap)∧w=w':=by
 go_enter Tryz.func157,Tryz.ntmps157
 go_wp2
 refine wp_loop_rounds 1 ?_
 rw[rounds_succ]
 go_wp2
 go_ret
 exact⟨rfl,rfl⟩
theorem pJ (a:Option Addr)(cap:Nat)(xs:List Nat)(w:World)(h:Row w a (u32s xs))(hcap:xs.length≤cap)(hcap2:cap≤9223372036854775807) :
  Calls Tryz.prog 157 #[.slice a xs.length cap] w fun e w'=>e=.returned (.slice a (trimLen xs) cap)∧w=w':=by
 by_cases hx:xs=[]
 ·subst hx;exact wF a cap w
 ·obtain⟨b,off,rfl⟩:=h.isSome (by intro e;exact hx (by simpa[u32s] using e))
  exact zI b off _ cap xs w (by omega) rfl (fun j hj=>h.u32 hj) hcap hcap2
theorem Tryz.infoU32:(Tryz.prog.info? 166).map (fun i=>(i.zero,i.size,i.bytes))=some (some (.int .u32 0),1,4):=by kernel_rfl
def Small (s:Nat→Nat) (n:Nat):Prop:=∀i,i<n→s i+(if i=0 then 0 else 18446744073)<18446744073709551616
def Car (S:Nat) (w:World) (C k:Nat) (v:Value) (wr:World):Prop :=
 ∃out:List Nat,out.length=k∧(∀x ∈ out,x<1000000000)∧Num.worth out+C * Num.B9 ^ k=S∧wr.ownsRow w.heap.size 166 1 v k (u32s out)∧Below w.heap.size w wr
theorem Car.push {S S' C T k:Nat}{w w1:World}{v':Value}{out:List Nat}{x:Int}(h1:out.length=k)(h2:∀x ∈ out,x<1000000000)(h3:Num.worth out+C * Num.B9 ^ k=S)
  (hS:S'+C * Num.B9 ^ k=S+T * Num.B9 ^ k)(hx:x=((T % 1000000000:Nat):Int))
  (hown:w1.ownsRow w.heap.size 166 1 v' (k+1) (u32s out ++ [.int .u32 x]))(hb:Below w.heap.size w w1):Car S' w (T / 1000000000) (k+1) v' w1:=by
 subst hx
 refine⟨out ++ [T % 1000000000],by simp[h1],?_,?_,by simpa[u32s] using hown,hb⟩
 ·intro y hy
  rcases List.mem_append.1 hy with h | h
  ·exact h2 y h
  ·simp at h;omega
 ·have e:=Nat.mod_add_div T 1000000000
  have e2:T * Num.B9 ^ k=(T % 1000000000) * Num.B9 ^ k+(T / 1000000000) * (Num.B9 ^ k * Num.B9):=by
   rw[Nat.mul_comm (Num.B9 ^ k),←Nat.mul_assoc,←Nat.add_mul]
   congr 1
   rw[Nat.mul_comm (T / 1000000000),Num.B9_eq];omega
  have e3:Num.worth (out ++ [T % 1000000000])=Num.worth out+(T % 1000000000) * Num.B9 ^ k:=by
   unfold Num.worth
   rw[Num.val_snoc,h1,Nat.mul_comm (Num.B9 ^ k)]
  rw[e3,Nat.pow_succ]
  omega
theorem Tryz.u32Slice:SliceOf Tryz.prog 22 166 (.int .u32 0) 4:=⟨Tryz.underlying22,by kernel_rfl,rfl⟩
theorem tV (n f:Nat)(cs:Array Value)(s:Nat→Nat)(w:World)(hn:n≤1000000000)(hs:Small s n)(hcall:∀args W,(callFunc f args).run Tryz.prog W=.ok (.enter f args) W)
  (hF:∀i W,i<n→Below w.heap.size w W→Calls Tryz.prog f (#[.int .i64 (i:Nat)] ++ cs) W fun e W'=>e=.returned (.int .u64 (s i:Nat))∧∃q,W'=W.drewN q) :
  Calls Tryz.prog 116 #[.int .i64 n,.func (.func f) #[] cs] w fun e w'=>∃v,e=.returned v∧Below w.heap.size w w'∧w'.ownsRow w.heap.size 166 1 v (Num.limbs (Num.laid s n)).length (u32s (Num.limbs (Num.laid s n))):=by
 have HF:=hid hF
 have HS:=hid hs
 clear hF hs
 go_enter Tryz.func116,Tryz.ntmps116
 go_wp2_with (at_make;refine rY Tryz.u32Slice rfl _ _ rfl (n+2) rfl rfl (by go_num) (by omega) (by unfold maxLen;omega) ?_;intro w1 hown hb1)
 go_loopw [5,6,12] (fun v c i wr=>∃(k C:Nat),k≤n∧i=.int .i64 k∧c=.int .u64 C∧C≤(if k=0 then 0 else 18446744073)∧Car (Num.laid s k) w C k v wr) (fun _ _ i _=>n-(intOf i).toNat)
 case atStart =>
  exact⟨0,0,Nat.zero_le _,rfl,rfl,by simp,[],rfl,by simp,rfl,hown,hb1⟩
 case round =>
  clear hown hb1
  obtain⟨k,C,hk,rfl,rfl,hC,out,hl,hlt9,hS,hown,hb⟩:=hrel
  have HL:=hid hl
  have HS':=hid hS
  have H9:=hid hlt9
  have HB:=hid hb
  have hsz:=hb.size
  clear hl hS hlt9 hb
  by_cases hlt:k<n
  ·have hsk:(C:Int)+(s k:Nat)≤18446744073709551615:=by
    have:=HS.out k hlt;split at this<;>simp_all<;>omega
   have HC:=hid hC
   clear hC
   go_wp2_with fail
   refine (HF.out k wr hlt HB.out).mono ?_
   rintro e w2 ⟨rfl,q,rfl⟩
   go_wp2_with (at_builtin;refine dG Tryz.u32Slice rfl _ _ rfl w.heap.size (w0:=wr.drewN q) hown rfl rfl rfl (by unfold maxLen;omega) (by omega) hsz ?_;intro v' w3 hown' hb')
   have R:Car (Num.laid s (k+1)) w ((C+s k) / 1000000000) (k+1) v' w3 :=
    Car.push HL.out H9.out HS'.out (by unfold Num.laid;simp only[Num.upto];rw[Nat.add_mul];omega) (by omega) hown' ((below_drewN HB.out q).trans hb')
   have R:=hid R
   have hc2:((C:Int)+(s k:Nat)) / 1000000000=(((C+s k) / 1000000000:Nat):Int):=by omega
   clear hown hown' hb' HS'
   go_wp2
   go_roundw
   case rel=>exact⟨k+1,(C+s k) / 1000000000,by omega,by go_num,by go_num,by simp;omega,R.out⟩
   case measure=>simp[intOf];omega
  ·obtain rfl:n=k:=by omega
   have hC2:C≤18446744073:=by split at hC<;>omega
   have HO:=hid hown
   clear hC hown hlt
   go_wp2
   go_loopw [5,6] (fun v c wr=>∃(k C:Nat),c=.int .u64 C∧k+C≤n+18446744073∧Car (Num.laid s n) w C k v wr) (fun _ c _=>(intOf c).toNat)
   case atStart=>exact⟨n,C,rfl,by omega,out,HL.out,H9.out,HS'.out,HO.out,HB.out⟩
   case round =>
    clear HB HO HL H9 HS' hsz hC2
    obtain⟨k,C,rfl,hC,out,hl,hlt9,hS,hown,hb⟩:=hrel
    have HL:=hid hl
    have HS':=hid hS
    have H9:=hid hlt9
    have HB:=hid hb
    have hsz:=hb.size
    clear hl hS hlt9 hb
    by_cases hlt:0<C
    ·go_wp2_with (at_builtin;refine dG Tryz.u32Slice rfl _ _ rfl w.heap.size hown rfl rfl rfl (by unfold maxLen;omega) (by omega) hsz ?_;intro v' w3 hown' hb')
     have R:Car (Num.laid s n) w (C / 1000000000) (k+1) v' w3 :=
      Car.push HL.out H9.out HS'.out rfl (by omega) hown' (HB.out.trans hb')
     have R:=hid R
     have hc2:(C:Int) / 1000000000=((C / 1000000000:Nat):Int):=by omega
     clear hown hown' hb' HS'
     go_wp2
     go_roundw
     case rel=>exact⟨k+1,C / 1000000000,by go_num,by omega,R.out⟩
     case measure=>simp[intOf];omega
    ·obtain rfl:C=0:=by omega
     obtain⟨a,cap,rfl,hrow,hlen⟩:=df hown
     have HO:=hid hown
     have HR:=hid hrow
     clear hown hrow hlen
     have hcap:k≤cap∧cap≤9223372036854775807:=gQ HO.out
     go_wp2_with fail
     have hll:=HL.out
     subst hll
     refine (pJ a cap out _ HR.out hcap.1 hcap.2).mono ?_
     rintro e w' ⟨rfl,rfl⟩
     go_wp2
     go_ret
     refine⟨_,rfl,HB.out,?_⟩
     have e1:=Num.trim_limbs out H9.out
     rw[show Num.worth out=Num.laid s n by have:=HS'.out;omega] at e1
     rw[←e1]
     have e2:=rX HO.out (trimLen out) (mV out)
     have e3:(u32s out).take (trimLen out)=u32s (Num.trim out):=by rw[←jI];simp[u32s,List.map_take]
     rw[e3] at e2
     exact e2
theorem BZ {s:Nat→Nat}{n:Nat}(h:∀i,i<n→s i≤1000000000000000000):Small s n:=by
 intro i hi;have:=h i hi;split<;>omega
def OutU (w:World) (xs:List Nat) (e:Ending) (w':World):Prop :=
 ∃a cap,e=.returned (.slice a xs.length cap)∧Below w.heap.size w w'∧w'.ownsRow w.heap.size 166 1 (.slice a xs.length cap) xs.length (u32s xs)
theorem aS {w:World}{base n cap m:Nat}{a:Option Addr}(h:w.ownsRow base 166 1 (.slice a m cap) m (u32s (Num.limbs n))):U32 w a (Num.limbs n) :=
 ⟨aU h,fun x hx=>by have:=Num.limbs_lt n x hx;omega⟩
theorem OutU.of_alloc {w w':World}{o:Obj}{xs:List Nat}{e:Ending}(h:OutU (w.alloc o) xs e w'):OutU w xs e w':=by
 obtain⟨a,cap,he,hb,ho⟩:=h
 exact⟨a,cap,he,ak hb,aG ho (by simp)⟩
def OutUE (w:World) (xs:List Nat) (err:Nat) (e:Ending) (w':World):Prop :=
 ∃a cap,e=.returned (.tuple #[.slice a xs.length cap,.int .i64 err])∧Below w.heap.size w w'∧w'.ownsRow w.heap.size 166 1 (.slice a xs.length cap) xs.length (u32s xs)
theorem OutUE.nil {w w':World}{err:Nat}(h:Below w.heap.size w w'):OutUE w [] err (.returned (.tuple #[.slice none 0 0,.int .i64 err])) w':=⟨none,0,rfl,h,World.ownsRow_nil _ _ _ _⟩
theorem carried (n f:Nat)(cs:Array Value)(s:Nat→Nat)(w:World)(hn:n≤1000000000)(hs:Small s n)(hcall:∀args W,(callFunc f args).run Tryz.prog W=.ok (.enter f args) W)
  (hF:∀i W,i<n→Below w.heap.size w W→Calls Tryz.prog f (#[.int .i64 (i:Nat)] ++ cs) W fun e W'=>e=.returned (.int .u64 (s i:Nat))∧∃q,W'=W.drewN q) :
  Calls Tryz.prog 116 #[.int .i64 n,.func (.func f) #[] cs] w (OutU w (Num.limbs (Num.laid s n))):=by
 refine (tV n f cs s w hn hs hcall hF).mono ?_
 rintro e w' ⟨v,rfl,hb,ho⟩
 obtain⟨a,cap,rfl,_,_⟩:=df ho
 exact⟨a,cap,rfl,hb,ho⟩
theorem gZ (a:Option Addr)(n cap:Nat)(out:List Nat)(w wr:World)(hl:out.length=n)(h9:∀x ∈ out,x<1000000000)(ho:wr.ownsRow w.heap.size 166 1 (.slice a n cap) n (u32s out))(hb:Below w.heap.size w wr) :
  Calls Tryz.prog 157 #[.slice a n cap] wr fun e w'=>OutU w (Num.limbs (Num.worth out)) e w'∧wr=w':=by
 subst hl
 have hcap:=gQ ho
 refine (pJ a cap out wr (aU ho) hcap.1 hcap.2).mono ?_
 rintro e w' ⟨rfl,rfl⟩
 have e1:Num.trim out=Num.limbs (Num.worth out):=Num.trim_limbs out h9
 have e2:=rX ho (trimLen out) (mV out)
 have e3:(u32s out).take (trimLen out)=u32s (Num.trim out):=by rw[←jI];simp[u32s,List.map_take]
 rw[e3,e1] at e2
 have e4:trimLen out=(Num.limbs (Num.worth out)).length:=by rw[trimLen,e1]
 rw[e4] at e2 ⊢
 exact⟨⟨a,cap,rfl,hb,e2⟩,rfl⟩
theorem iT (a:Option Addr)(n cap:Nat)(out:List Nat)(w wr:World)(hl:out.length=n)(h9:∀x ∈ out,x<1000000000)(ho:wr.ownsRow w.heap.size 166 1 (.slice a n cap) n (u32s out))(hb:Below w.heap.size w wr) :
  Calls Tryz.prog 157 #[.slice a n cap] wr (OutU w (Num.limbs (Num.worth out))) :=
 (gZ a n cap out w wr hl h9 ho hb).mono fun _ _ h=>h.1
theorem Cb (W:World)(p b off n cap i:Nat)(x:Int)(hi:i<n)(hp:W.cell? ⟨p,0,none⟩=some (.slice (some ⟨b,off,none⟩) n cap))(hc:W.cell? ⟨b,off+i,none⟩=some (.int .u32 x))(h0:0≤x)(h1:x<4294967296) :
  Calls Tryz.prog 150 #[.int .i64 i,.pointer (some ⟨p,0,none⟩)] W fun e W'=>e=.returned (.int .u64 x)∧∃q,W'=W.drewN q:=by
 go_enter Tryz.func150,Tryz.ntmps150
 go_wp2
 go_ret
 exact⟨rfl,0,rfl⟩
theorem pK (xs:List Nat):Num.laid (fun i=>xs.getD i 0) xs.length=Num.worth xs:=Num.upto_val _ xs
theorem bY (a:Option Addr)(cap:Nat)(xs:List Nat)(w:World)(h:U32 w a xs)(hn:xs.length≤1000000000) :
  Calls Tryz.prog 112 #[.slice a xs.length cap] w (OutU w (Num.limbs (Num.worth xs))):=by
 have H:=hid h
 clear h
 go_enter Tryz.func112,Tryz.ntmps112
 go_wp2_with fail
 refine (carried xs.length 150 _ (fun i=>xs.getD i 0) _ hn ?_ (bD Tryz.func150 (by kernel_rfl) (by kernel_rfl)) ?_).mono ?_
 ·intro i _;show xs.getD i 0+_<_;have:=H.out.getD_lt i;split<;>omega
 ·intro i W hi hb
  have hb':=ak hb
  obtain⟨b,off,rfl⟩:=H.out.isSome (by intro e;subst e;simp at hi)
  exact Cb W _ b off xs.length cap i _ hi ((hb.cell (by simp)).trans (by simp)) ((hb'.cell (ax (H.out.row.u32 hi))).trans (H.out.row.u32 hi)) (by omega) (by have:=H.out.getD_lt i;omega)
 ·rw[pK]
  rintro e w' ⟨a',cap',rfl,hb,ho⟩
  go_wp2
  go_ret
  exact OutU.of_alloc ⟨_,_,rfl,hb,ho⟩
theorem Ff (W:World)(p i:Nat)(n:Int)(hp:W.cell? ⟨p,0,none⟩=some (.int .u64 n)) :
  Calls Tryz.prog 117 #[.int .i64 i,.pointer (some ⟨p,0,none⟩)] W fun e W'=>e=.returned (.int .u64 n)∧∃q,W'=W.drewN q:=by
 go_enter Tryz.func117,Tryz.ntmps117
 go_wp2
 go_ret
 exact⟨rfl,0,rfl⟩
theorem yj (n:Nat)(w:World)(hn:n≤18446744073709551615) :
  Calls Tryz.prog 72 #[.int .u64 n] w (OutU w (Num.limbs n)):=by
 have H:=hid hn
 clear hn
 go_enter Tryz.func72,Tryz.ntmps72
 go_wp2_with fail
 refine (carried 1 117 _ (fun _=>n) _ (by omega) ?_ (bD Tryz.func117 (by kernel_rfl) (by kernel_rfl)) ?_).mono ?_
 ·intro i hi;show n+_<_;have:=H.out;split<;>omega
 ·intro i W hi hb
  exact Ff W _ i n ((hb.cell (by simp)).trans (by simp))
 ·rw[show Num.laid (fun _=>n) 1=n by simp[Num.laid,Num.upto]]
  rintro e w' ⟨a',cap',rfl,hb,ho⟩
  go_wp2
  go_ret
  exact OutU.of_alloc ⟨_,_,rfl,hb,ho⟩
theorem zJ (W:World)(p p2 b off n cap i:Nat)(x m:Int)(hi:i<n)(hp:W.cell? ⟨p,0,none⟩=some (.slice (some ⟨b,off,none⟩) n cap))(hp2:W.cell? ⟨p2,0,none⟩=some (.int .u64 m))(hc:W.cell? ⟨b,off+i,none⟩=some (.int .u32 x))(h0:0≤x)(h1:x<4294967296)(h2:0≤x * m)(h3:x * m≤18446744073709551615) :
  Calls Tryz.prog 254 #[.int .i64 i,.pointer (some ⟨p,0,none⟩),.pointer (some ⟨p2,0,none⟩)] W fun e W'=>e=.returned (.int .u64 (x * m))∧∃q,W'=W.drewN q:=by
 go_enter Tryz.func254,Tryz.ntmps254
 go_wp2
 go_quiet (fail)
 go_wp2
 go_ret
 exact⟨rfl,nq,rfl⟩
theorem jo {P:Program}{f:FuncId}{args:Array Value}{w:World}{n:Nat}{v:Value}
  (h:Calls P f args (w.drewN n) fun e w'=>e=.returned v∧w.drewN n=w'):Calls P f args (w.drewN n) fun e w''=>e=.returned v∧∃m,w''=w.drewN m :=
 h.mono fun _ _ ⟨he,hm⟩=>⟨he,n,hm.symm⟩
theorem wG (a:Option Addr)(cap m:Nat)(xs:List Nat)(w:World)(h:U32 w a xs)(hx:∀x ∈ xs,x<1000000000)(hn:xs.length≤1000000000)(hm:m≤1000000000) :
  Calls Tryz.prog 236 #[.slice a xs.length cap,.int .u64 m] w (OutU w (Num.limbs (Num.worth xs * m))):=by
 have H:=hid h
 have HX:=hid hx
 have HM:=hid hm
 clear h hx hm
 have hb:∀i,xs.getD i 0 * m≤999999999 * 1000000000:=fun i=>by
  refine Nat.mul_le_mul ?_ HM.out
  by_cases hi:i<xs.length
  ·have:=HX.out (xs.getD i 0) (by simp[hi]);omega
  ·simp[List.getElem?_eq_none (show xs.length≤i by omega)]
 have HB:=hid hb
 clear hb
 go_enter Tryz.func236,Tryz.ntmps236
 go_wp2_with fail
 refine (carried xs.length 254 _ (fun i=>xs.getD i 0 * m) _ hn ?_ (bD Tryz.func254 (by kernel_rfl) (by kernel_rfl)) ?_).mono ?_
 ·intro i _;show xs.getD i 0 * m+_<_;have:=HB.out i;split<;>omega
 ·intro i W hi hb
  have hb':=ak (ak hb)
  obtain⟨b,off,rfl⟩:=H.out.isSome (by intro e;subst e;simp at hi)
  have hc:=H.out.row.u32 hi
  have e1:((xs.getD i 0 * m:Nat):Int)=((xs.getD i 0:Nat):Int) * (m:Int):=by simp
  have:=HB.out i
  rw[e1]
  exact zJ W _ _ b off xs.length cap i _ m hi ((hb.cell (by simp<;>omega)).trans (by simp)) ((hb.cell (by simp)).trans (by simp)) ((hb'.cell (ax hc)).trans hc) (by omega) (by have:=H.out.getD_lt i;omega) (by rw[←e1];omega) (by rw[←e1];omega)
 ·rw[show Num.laid (fun i=>xs.getD i 0 * m) xs.length=Num.worth xs * m by unfold Num.laid;rw[Num.upto_mul];exact congrArg (· * m) (pK xs)]
  rintro e w' ⟨a',cap',rfl,hb,ho⟩
  go_wp2
  go_ret
  exact OutU.of_alloc (OutU.of_alloc ⟨_,_,rfl,hb,ho⟩)
theorem Ef (W:World)(p p2:Nat)(a a2:Option Addr)(cap cap2 i:Nat)(xs ys:List Nat)(h:U32 W a xs)(h2:U32 W a2 ys)(hn:xs.length≤1000000000)(hn2:ys.length≤1000000000)
  (hp:W.cell? ⟨p,0,none⟩=some (.slice a xs.length cap))(hp2:W.cell? ⟨p2,0,none⟩=some (.slice a2 ys.length cap2)) :
  Calls Tryz.prog 227 #[.int .i64 i,.pointer (some ⟨p,0,none⟩),.pointer (some ⟨p2,0,none⟩)] W fun e W'=>e=.returned (.int .u64 ((xs.getD i 0+ys.getD i 0:Nat):Int))∧∃q,W'=W.drewN q:=by
 have hx:=h.getD_lt i
 have hy:=h2.getD_lt i
 obtain⟨x,hxe⟩:∃x,x=xs.getD i 0:=⟨_,rfl⟩
 obtain⟨y,hye⟩:∃y,y=ys.getD i 0:=⟨_,rfl⟩
 rw[←hxe] at hx ⊢
 rw[←hye] at hy ⊢
 have C1:∀n,Calls Tryz.prog 228 #[.slice a xs.length cap,.int .i64 i] (W.drewN n) fun e w'=>e=.returned (.int .u64 (x:Int))∧W.drewN n=w':=fun n=>by
  rw[hxe];exact yz a cap i xs _ h.row (by omega) h.lt
 have C2:∀n,Calls Tryz.prog 228 #[.slice a2 ys.length cap2,.int .i64 i] (W.drewN n) fun e w'=>e=.returned (.int .u64 (y:Int))∧W.drewN n=w':=fun n=>by
  rw[hye];exact yz a2 cap2 i ys _ h2.row (by omega) h2.lt
 have C1:=hid C1
 have C2:=hid C2
 clear h h2 hxe hye
 go_enter Tryz.func227,Tryz.ntmps227
 go_wp2_with fail
 go_quiet ((first | (with_reducible exact jo (C1.out _)) | (with_reducible exact jo (C2.out _))))
 go_wp2
 go_ret
 exact⟨by simp,nq,rfl⟩
theorem tX (a a2:Option Addr)(cap cap2 k:Nat)(xs ys:List Nat)(w:World)(h:U32 w a xs)(h2:U32 w a2 ys)(hk1:xs.length≤k)(hk2:ys.length≤k)(hk3:k≤1000000000) :
  Calls Tryz.prog 116 #[.int .i64 k,.func (.func 227) #[] #[.pointer (some ⟨w.heap.size,0,none⟩),.pointer (some ⟨w.heap.size+1,0,none⟩)]]
   ((w.alloc (.cells #[.slice a xs.length cap] 22)).alloc (.cells #[.slice a2 ys.length cap2] 22)) (OutU w (Num.limbs (Num.worth xs+Num.worth ys))):=by
 refine (carried k 227 _ (fun i=>xs.getD i 0+ys.getD i 0) _ hk3 ?_ (bD Tryz.func227 (by kernel_rfl) (by kernel_rfl)) ?_).mono ?_
 ·exact BZ fun i _=>by have:=h.getD_lt i;have:=h2.getD_lt i;omega
 ·intro i W hi hb
  have hb':=ak (ak hb)
  exact Ef W _ _ a a2 cap cap2 i xs ys (h.below hb') (h2.below hb') (by omega) (by omega) ((hb.cell (by simp<;>omega)).trans (by simp)) ((hb.cell (by simp)).trans (by simp))
 ·rw[show Num.laid (fun i=>xs.getD i 0+ys.getD i 0) k=Num.worth xs+Num.worth ys by
   unfold Num.laid Num.worth;rw[Num.upto_add,Num.upto_val_ge _ _ _ hk1,Num.upto_val_ge _ _ _ hk2]]
  exact fun e w' h=>OutU.of_alloc (OutU.of_alloc h)
theorem Cc (a a2:Option Addr)(cap cap2:Nat)(xs ys:List Nat)(w:World)(h:U32 w a xs)(h2:U32 w a2 ys)(hn:xs.length≤1000000000)(hn2:ys.length≤1000000000) :
  Calls Tryz.prog 194 #[.slice a xs.length cap,.slice a2 ys.length cap2] w (OutU w (Num.limbs (Num.worth xs+Num.worth ys))):=by
 have H:=hid h
 have H2:=hid h2
 clear h h2
 go_enter Tryz.func194,Tryz.ntmps194
 go_wp2_with fail
 all_goals
  refine (tX a a2 cap cap2 _ xs ys w H.out H2.out (by omega) (by omega) (by omega)).mono ?_
  rintro e w' ⟨a',cap',rfl,hb,ho⟩
  go_wp2
  go_ret
  exact⟨_,_,rfl,hb,ho⟩
def cmpN (x y:Nat):Int:=if x<y then -1 else if y<x then 1 else 0
theorem ig (x y:Nat)(w:World)(_hx:x≤1000000000)(hy:y≤1000000000) :
  Calls Tryz.prog 95 #[.int .i64 x,.int .i64 y] w fun e w'=>e=.returned (.int .i64 (cmpN x y))∧w=w':=by
 rcases Nat.lt_trichotomy x y with h | h | h
 ·have e:cmpN x y=-1:=by simp[cmpN,h]
  rw[e]
  go_enter Tryz.func95,Tryz.ntmps95
  go_wp2
  go_ret
  exact⟨rfl,rfl⟩
 ·subst h
  have e:cmpN x x=0:=by simp[cmpN]
  rw[e]
  go_enter Tryz.func95,Tryz.ntmps95
  go_wp2
  go_ret
  exact⟨rfl,rfl⟩
 ·have e:cmpN x y=1:=by unfold cmpN;rw[if_neg (by omega),if_pos h]
  rw[e]
  go_enter Tryz.func95,Tryz.ntmps95
  go_wp2
  go_ret
  exact⟨rfl,rfl⟩
theorem mW (n:Nat)(w:World)(hn:n≤9) :
  Calls Tryz.prog 156 #[.int .i64 n] w fun e w'=>e=.returned (.int .u64 ((10 ^ n:Nat):Int))∧w=w':=by
 have HP:Hid (∀k,k≤n→10 ^ k≤1000000000):=fun k hk=>Nat.pow_le_pow_right (by omega) (by omega:k≤9)
 go_enter Tryz.func156,Tryz.ntmps156
 go_wp2
 go_loop [3,5] (fun p i=>∃(k P:Nat),k≤n∧i=.int .i64 k∧p=.int .u64 P∧P=10 ^ k) (fun _ i=>n-(intOf i).toNat)
 case atStart=>exact⟨0,1,Nat.zero_le _,rfl,rfl,rfl⟩
 case round =>
  obtain⟨k,P,hk,rfl,rfl,hP⟩:=hrel
  have hb:P≤1000000000:=by rw[hP];exact HP.out k hk
  have HQ:=hid hP
  clear hP
  by_cases hlt:k<n
  ·go_wp2
   go_round
   case rel=>exact⟨k+1,P * 10,by omega,by go_num,by go_num,by rw[HQ.out,Nat.pow_succ]⟩
   case measure=>simp[intOf];omega
  ·obtain rfl:n=k:=by omega
   go_wp2
   go_ret
   exact⟨iy (by rw[HQ.out];simp),rfl⟩
theorem tY (x y:Nat)(w:World) :
  Calls Tryz.prog 237 #[.int .u32 x,.int .u32 y] w fun e w'=>e=.returned (.int .i64 (cmpN x y))∧w=w':=by
 rcases Nat.lt_trichotomy x y with h | h | h
 ·have e:cmpN x y=-1:=by simp[cmpN,h]
  rw[e]
  go_enter Tryz.func237,Tryz.ntmps237
  go_wp2
  go_ret
  exact⟨rfl,rfl⟩
 ·subst h
  have e:cmpN x x=0:=by simp[cmpN]
  rw[e]
  go_enter Tryz.func237,Tryz.ntmps237
  go_wp2
  go_ret
  exact⟨rfl,rfl⟩
 ·have e:cmpN x y=1:=by unfold cmpN;rw[if_neg (by omega),if_pos h]
  rw[e]
  go_enter Tryz.func237,Tryz.ntmps237
  go_wp2
  go_ret
  exact⟨rfl,rfl⟩
theorem iG {x y:Nat}:cmpN x y=0 ↔ x=y:=by unfold cmpN;split<;>(try split)<;>omega
theorem jJ {x y:Nat}(h:x<y):cmpN x y=-1:=by simp[cmpN,h]
theorem jK {x y:Nat}(h:y<x):cmpN x y=1:=by unfold cmpN;rw[if_neg (by omega),if_pos h]
theorem mX {w wr:World}(h:∃q,wr=w.drewN q)(n:Nat):∃q,wr.drewN n=w.drewN q:=by
 obtain⟨q,rfl⟩:=h;exact⟨q+n,World.drewN_drewN _ _ _⟩
/-- Two lists of one length: the highest limbs that part. -/
theorem wH (b off b2 off2 n cap cap2:Nat)(xs ys:List Nat)(w:World)(hn:n≤1000000000)(hx:xs.length=n)(hy:ys.length=n)(lx:∀x ∈ xs,x<1000000000)(ly:∀x ∈ ys,x<1000000000)
  (c1:∀j,j<n→w.cell? ⟨b,off+j,none⟩=some (.int .u32 ((xs.getD j 0:Nat):Int)))(c2:∀j,j<n→w.cell? ⟨b2,off2+j,none⟩=some (.int .u32 ((ys.getD j 0:Nat):Int))) :
  Calls Tryz.prog 205 #[.slice (some ⟨b,off,none⟩) n cap,.slice (some ⟨b2,off2,none⟩) n cap2] w fun e w'=>e=.returned (.int .i64 (cmpN (Num.worth xs) (Num.worth ys)))∧∃q,w'=w.drewN q:=by
 have HX:=hid hx
 have HY:=hid hy
 have LX:=hid lx
 have LY:=hid ly
 have C1:=hid c1
 have C2:=hid c2
 clear hx hy lx ly c1 c2
 have hc0:cmpN n n=0:=iG.2 rfl
 go_enter Tryz.func205,Tryz.ntmps205
 go_wp2_with (go_at_call 95;refine (ig n n _ (by omega) (by omega)).mono ?_;rintro e w' ⟨rfl,rfl⟩)
 go_loopw [6] (fun i wr=>∃k:Nat,k≤n∧i=.int .i64 ((k:Int)-1)∧xs.drop k=ys.drop k∧∃q,wr=w.drewN q) (fun i _=>(intOf i+1).toNat)
 case atStart=>exact⟨n,Nat.le_refl _,rfl,by rw[List.drop_of_length_le (by have:=HX.out;omega),List.drop_of_length_le (by have:=HY.out;omega)],0,rfl⟩
 case round =>
  obtain⟨k,hk,rfl,hd,hq⟩:=hrel
  have HD:=hid hd
  have HQ:=hid hq
  clear hd
  by_cases hk0:k=0
  ·subst hk0
   go_wp2
   go_ret
   exact⟨iy (iG.2 (show Num.worth xs=Num.worth ys from congrArg Num.worth HD.out)).symm,HQ.out⟩
  ·obtain⟨m,rfl⟩:∃m,k=m+1:=⟨k-1,by omega⟩
   have e1:((m+1:Nat):Int)-1=(m:Int):=by omega
   rw[e1]
   obtain⟨x,hxe⟩:∃x,x=xs.getD m 0:=⟨_,rfl⟩
   obtain⟨y,hye⟩:∃y,y=ys.getD m 0:=⟨_,rfl⟩
   have g1:wr.cell? ⟨b,off+m,none⟩=some (.int .u32 ((xs.getD m 0:Nat):Int)):=by obtain⟨q,rfl⟩:=hq;exact C1.out m (by omega)
   have g2:wr.cell? ⟨b2,off2+m,none⟩=some (.int .u32 ((ys.getD m 0:Nat):Int)):=by obtain⟨q,rfl⟩:=hq;exact C2.out m (by omega)
   clear hq
   rw[←hxe] at g1
   rw[←hye] at g2
   have hm1:m<xs.length:=by have:=HX.out;omega
   have hm2:m<ys.length:=by have:=HY.out;omega
   have hmn:m<n:=by omega
   have HXE:=hid hxe
   have HYE:=hid hye
   clear hxe hye e1
   go_wp2_with fail
   go_quiet ((go_at_call 237;exact jo (tY x y _)))
   have HN:Hid (∀(c:Int),c=cmpN x y→c≠0→cmpN (Num.worth xs) (Num.worth ys)=c):=by
    intro c hc h0
    rcases Nat.lt_trichotomy x y with h | h | h
    ·rw[hc,jJ h]
     exact jJ (Num.val_lt_top (by decide) xs ys LX.out m hm1 hm2 HD.out (by rw[←HXE.out,←HYE.out];exact h))
    ·exact absurd (iG.2 h) (hc ▸ h0)
    ·rw[hc,jK h]
     exact jK (Num.val_lt_top (by decide) ys xs LY.out m hm2 hm1 HD.out.symm (by rw[←HXE.out,←HYE.out];exact h))
   have HE:Hid (cmpN x y=0→xs.drop m=ys.drop m):=by
    intro h
    rw[Num.drop_getD hm1,Num.drop_getD hm2,HD.out,←HXE.out,←HYE.out,iG.1 h]
   obtain⟨c,hc⟩:∃c,c=cmpN x y:=⟨_,rfl⟩
   rw[←hc] at HE ⊢
   have HN:=hid (HN.out c hc)
   clear hc hm1 hm2
   by_cases h0:c=0
   ·subst h0
    go_wp2
    go_roundw
    case rel=>exact⟨m,by omega,by go_num,HE.out rfl,mX HQ.out nq⟩
    case measure=>simp[intOf]
   ·have h0':(c != 0)=true:=by simpa using h0
    go_wp2
    go_ret
    exact⟨iy (HN.out h0).symm,mX HQ.out nq⟩
theorem tZ (a a2:Option Addr)(cap cap2:Nat)(w:World) :
  Calls Tryz.prog 205 #[.slice a 0 cap,.slice a2 0 cap2] w fun e w'=>e=.returned (.int .i64 0)∧∃q,w'=w.drewN q:=by
 have C:=ig 0 0
 have e0:cmpN 0 0=0:=rfl
 rw[e0] at C
 have C:=hid C
 go_enter Tryz.func205,Tryz.ntmps205
 go_wp2_with (go_at_call 95;refine (C.out _ (by omega) (by omega)).mono ?_;rintro e w' ⟨rfl,rfl⟩)
 refine wp_loop_rounds 1 ?_
 rw[rounds_succ]
 go_wp2
 go_ret
 exact⟨rfl,0,rfl⟩
theorem mY (a a2:Option Addr)(n n2 cap cap2:Nat)(c:Int)(w:World)(hn:n≤1000000000)(hn2:n2≤1000000000)(hc:cmpN n n2=c)(h0:(c != 0)=true) :
  Calls Tryz.prog 205 #[.slice a n cap,.slice a2 n2 cap2] w fun e w'=>e=.returned (.int .i64 c)∧∃q,w'=w.drewN q:=by
 have C:=ig n n2
 rw[hc] at C
 have C:=hid C
 clear hc
 go_enter Tryz.func205,Tryz.ntmps205
 go_wp2_with (go_at_call 95;refine (C.out _ (by omega) (by omega)).mono ?_;rintro e w' ⟨rfl,rfl⟩)
 go_ret
 exact⟨rfl,0,rfl⟩
theorem wI (a a2:Option Addr)(cap cap2 m n:Nat)(w:World)(h:U32 w a (Num.limbs m))(h2:U32 w a2 (Num.limbs n))(hm:(Num.limbs m).length≤1000000000)(hn:(Num.limbs n).length≤1000000000) :
  Calls Tryz.prog 205 #[.slice a (Num.limbs m).length cap,.slice a2 (Num.limbs n).length cap2] w fun e w'=>e=.returned (.int .i64 (cmpN m n))∧∃q,w'=w.drewN q:=by
 have key:=Num.lt_of_digs_length Num.two_le_B9 (m:=m) (n:=n)
 have key2:=Num.lt_of_digs_length Num.two_le_B9 (m:=n) (n:=m)
 rcases Nat.lt_trichotomy (Num.limbs m).length (Num.limbs n).length with hl | hl | hl
 ·rw[jJ (key hl)]
  exact mY a a2 _ _ cap cap2 _ w hm hn (jJ hl) rfl
 ·by_cases h0:Num.limbs m=[]
  ·have h1:Num.limbs n=[]:=List.length_eq_zero_iff.1 (by rw[←hl,h0];rfl)
   rw[iG.2 (Num.digs_inj Num.two_le_B9 (h0.trans h1.symm)),h0,h1]
   exact tZ a a2 cap cap2 w
  ·have h1:Num.limbs n≠[]:=by intro e;rw[e] at hl;exact h0 (List.length_eq_zero_iff.1 hl)
   obtain⟨b,off,rfl⟩:=h.isSome h0
   obtain⟨b2,off2,rfl⟩:=h2.isSome h1
   have C:=wH b off b2 off2 (Num.limbs m).length cap cap2 (Num.limbs m) (Num.limbs n) w hm rfl hl.symm (Num.limbs_lt m) (Num.limbs_lt n) (fun j hj=>h.row.u32 hj) (fun j hj=>h2.row.u32 (by omega))
   rw[Num.worth_limbs,Num.worth_limbs] at C
   rw[←hl]
   exact C
 ·rw[jK (key2 hl)]
  exact mY a a2 _ _ cap cap2 _ w hm hn (jK hl) rfl
theorem aT {n k:Nat}:(Num.limbs n).length≤k ↔ n<Num.B9 ^ k:=Num.digs_length_le Num.two_le_B9
theorem kX {xs:List Nat}(h:∀x ∈ xs,x<4294967296):Num.worth xs+5≤5 * Num.B9 ^ xs.length:=by
 induction xs with
 | nil=>simp[Num.worth,Num.val]
 | cons x xs ih =>
  have h1:=h x (by simp)
  have h2:=ih (fun y hy=>h y (by simp[hy]))
  have h3:Num.B9 * (Num.worth xs+5)≤Num.B9 * (5 * Num.B9 ^ xs.length):=Nat.mul_le_mul_left _ h2
  have e:Num.worth (x :: xs)=x+Num.B9 * Num.worth xs:=rfl
  have e2:5 * Num.B9 ^ (x :: xs).length=Num.B9 * (5 * Num.B9 ^ xs.length):=by
   rw[List.length_cons,Nat.pow_succ];ac_rfl
  rw[e,e2]
  rw[Nat.mul_add] at h3
  have:Num.B9=1000000000:=rfl
  omega
theorem dh {xs:List Nat}{k:Nat}(h:∀x ∈ xs,x<4294967296)(hk:xs.length≤k):(Num.limbs (Num.worth xs)).length≤k+1:=by
 rw[aT]
 have h1:=kX h
 have h2:Num.B9 ^ xs.length≤Num.B9 ^ k:=Nat.pow_le_pow_right (by decide) hk
 have h3:5 * Num.B9 ^ k≤Num.B9 ^ k * Num.B9:=by rw[Nat.mul_comm];exact Nat.mul_le_mul_left _ (by decide)
 rw[Nat.pow_succ]
 omega
theorem Ce (a a2:Option Addr)(cap cap2:Nat)(xs ys:List Nat)(w:World)(h:U32 w a xs)(h2:U32 w a2 ys)(hn:xs.length≤100000000)(hn2:ys.length≤100000000) :
  Calls Tryz.prog 174 #[.slice a xs.length cap,.slice a2 ys.length cap2] w fun e w'=>e=.returned (.int .i64 (cmpN (Num.worth xs) (Num.worth ys)))∧Below w.heap.size w w':=by
 have l1:=dh h.lt (Nat.le_refl _)
 have l2:=dh h2.lt (Nat.le_refl _)
 have H:=hid h
 have H2:=hid h2
 clear h h2
 go_enter Tryz.func174,Tryz.ntmps174
 go_wp2_with fail
 refine (bY a cap xs w H.out (by omega)).mono ?_
 rintro e w1 ⟨a1,c1,rfl,hb1,ho1⟩
 have U1:=hid (aS ho1)
 have HB1:=hid hb1
 clear hb1 ho1
 go_wp2_with fail
 refine (bY a2 cap2 ys w1 (H2.out.below HB1.out) (by omega)).mono ?_
 rintro e w2 ⟨a2,c2,rfl,hb2,ho2⟩
 have U2:=hid (aS ho2)
 have HB2:=hid hb2
 clear hb2 ho2
 go_wp2_with fail
 refine (wI a1 a2 c1 c2 (Num.worth xs) (Num.worth ys) w2 (U1.out.below HB2.out) U2.out (by omega) (by omega)).mono ?_
 rintro e w3 ⟨rfl,q,rfl⟩
 go_wp2
 go_ret
 exact⟨rfl,below_drewN (ae HB1.out HB2.out) q⟩
theorem mZ (a:Option Addr)(cap n:Nat)(xs:List Nat)(w:World)(h:U32 w a xs)(hl:xs.length≤100000000)(hn:n≤30000) :
  Calls Tryz.prog 204 #[.slice a xs.length cap,.int .i64 n] w (OutUE w (Num.limbs (Num.worth xs * 10 ^ n)) 0):=by
 have l1:=dh h.lt (Nat.le_refl _)
 obtain⟨P,hP⟩:∃P,P=10 ^ (n % 9):=⟨_,rfl⟩
 have hP9:P≤1000000000:=by rw[hP];exact Nat.pow_le_pow_right (n:=10) (by decide) (by omega:n % 9≤9)
 have CT:Hid (∀W,Calls Tryz.prog 156 #[.int .i64 ((n:Int) % 9)] W fun e w'=>e=.returned (.int .u64 (P:Int))∧W=w'):=by
  intro W
  have:=mW (n % 9) W (by omega)
  rw[hP]
  simpa using this
 obtain⟨M,hM⟩:∃M,M=Num.limbs (Num.worth xs):=⟨_,rfl⟩
 obtain⟨X,hX⟩:∃X,X=Num.limbs (Num.worth xs * P):=⟨_,rfl⟩
 obtain⟨Z,hZ⟩:∃Z,Z=Num.limbs (Num.worth xs * 10 ^ n):=⟨_,rfl⟩
 have CN:=bY a cap xs w h (by omega)
 have CX:∀w1 a1 c1,U32 w1 a1 M→Calls Tryz.prog 236 #[.slice a1 M.length c1,.int .u64 P] w1 (OutU w1 X):=fun w1 a1 c1 hu=>by
  rw[hM] at hu ⊢
  have:=wG a1 c1 P (Num.limbs (Num.worth xs)) w1 hu (Num.limbs_lt _) (by omega) hP9
  rwa [Num.worth_limbs,←hX] at this
 have UM:∀w1 a1 c1,w1.ownsRow w.heap.size 166 1 (.slice a1 M.length c1) M.length (u32s M)→U32 w1 a1 M:=fun w1 a1 c1 ho=>by rw[hM] at ho ⊢;exact aS ho
 have hZX:(X=[]∧Z=[])∨(X≠[]∧Z=List.replicate (n / 9) 0 ++ X):=by
  by_cases h0:Num.worth xs=0
  ·left;rw[hX,hZ,h0,Nat.zero_mul,Nat.zero_mul];exact⟨rfl,rfl⟩
  ·right
   refine⟨fun e=>?_,by rw[hZ,hX,hP];exact Num.limbs_shift h0⟩
   rw[hX] at e
   have:=(Num.digs_eq_nil Num.two_le_B9).1 e
   rcases Nat.mul_eq_zero.1 this with h1 | h1
   ·exact h0 h1
   ·rw[hP] at h1;have:=Nat.pow_pos (n:=n % 9) (show 0<10 by decide);omega
 have hXl:X.length≤xs.length+2:=by
  rw[hX,aT]
  have e1:=kX h.lt
  have e2:Num.worth xs * P≤5 * Num.B9 ^ xs.length * Num.B9:=Nat.mul_le_mul (by omega) hP9
  have e3:5 * Num.B9 ^ xs.length * Num.B9<Num.B9 ^ (xs.length+2):=by
   rw[Nat.pow_add,show Num.B9 ^ 2=Num.B9 * Num.B9 by rw[Nat.pow_two],←Nat.mul_assoc]
   refine Nat.mul_lt_mul_of_pos_right ?_ (by decide)
   rw[Nat.mul_comm 5]
   exact Nat.mul_lt_mul_of_pos_left (by decide) (Nat.pow_pos (by decide))
  exact Nat.lt_of_le_of_lt e2 e3
 rw[←hZ]
 rw[←hM] at CN
 have hMl:M.length≤100000001:=by rw[hM];omega
 have CN:=hid CN
 have CX:=hid CX
 have UM:=hid UM
 have HZ:=hid hZX
 clear h hP hM hX hZ hZX l1
 go_enter Tryz.func204,Tryz.ntmps204
 go_wp2_with fail
 refine CN.out.mono ?_
 rintro e w1 ⟨a1,c1,rfl,hb1,ho1⟩
 have HB1:=hid hb1
 have HO1:=hid ho1
 clear hb1 ho1 CN
 go_wp2_with fail
 refine (CT.out w1).mono ?_
 rintro e w2 ⟨rfl,rfl⟩
 go_wp2_with fail
 refine (CX.out w1 a1 c1 (UM.out _ _ _ HO1.out)).mono ?_
 rintro e w2 ⟨a2,c2,rfl,hb2,ho2⟩
 have HB2:=hid (ae HB1.out hb2)
 have HO2:=hid (aG ho2 HB1.out.size)
 clear hb2 ho2 HO1 HB1
 rcases HZ.out with ⟨rfl,rfl⟩ | ⟨hX0,rfl⟩
 ·go_wp2
  go_ret2
  exact OutUE.nil HB2.out
 ·obtain⟨b,off,rfl⟩:=(aU HO2.out).isSome (by intro e;exact hX0 (by simpa[u32s] using e))
  have hX0':((X.length:Int) == 0)=false:=by
   have:X.length≠0:=fun e=>hX0 (List.length_eq_zero_iff.1 e)
   simpa using this
  have HX0:=hid hX0
  clear hX0 HZ
  obtain⟨i0,hi,hz0,hz1,hz2⟩:=info_parts Tryz.infoU32
  have hsz:=HB2.out.size
  have HNWS:Hid (∀w3,Below w2.heap.size w2 w3→∀j u,(u32s X)[j]? = some u→w3.cell? ((⟨b,off,none⟩:Addr).add j)=some u):=fun w3 hb3 j u hj=>by
   obtain⟨b',off',e,hc⟩:=(aU HO2.out).below hb3 j u hj
   injection e with e;injection e with e1 e2;subst e1 e2
   rw[Addr.add_lit];exact hc
  have HC:Hid (∀u ∈ u32s X,u.oneCell'=true):=fun u hu=>by simp[u32s] at hu;obtain⟨x,_,rfl⟩:=hu;rfl
  have hml:n / 9+X.length≤maxLen:=by unfold maxLen;omega
  have hml4:(n / 9+X.length) * 4≤140737488355328:=by omega
  go_wp2_with (first | (at_make;refine kU Tryz.u32Slice rfl _ _ rfl (n / 9) rfl rfl (by go_num) (by go_num) (by omega) (by unfold maxLen;omega) ?_;intro w3 hown hb3;have HB3:=hid hb3;have hsz3:=hb3.size;clear hb3) | (at_builtin;refine wpList_append_own _ rfl _ _ 22 rfl w2.heap.size 166 i0 (.int .u32 0) 1 4 Tryz.underlying22 hi hz0 hz1 hz2 rfl (by decide) _ _ _ rfl hown ⟨b,off,none⟩ X.length c2 (u32s X) rfl (by simp) (HNWS.out _ HB3.out) HC.out hml hml4 hsz3 ?_;intro v' w4 hown' hgrow _))
  obtain⟨a4,c4,rfl,_,_⟩:=df hown'
  have HB4:=hid (HB3.out.grown hgrow hsz3 (fun k hk=>(hown.lt k hk).1))
  have HO4:=hid hown'
  clear hown hown' hgrow
  go_ret2
  refine⟨a4,c4,?_,ae HB2.out HB4.out,?_⟩
  ·simp
  ·have:=aG HO4.out hsz
   simpa[u32s] using this
theorem Cf (xs:List Nat):∀u ∈ u32s xs,u.oneCell'=true:=fun u hu=>by simp[u32s] at hu;obtain⟨x,_,rfl⟩:=hu;rfl
theorem pM (b off n cap:Nat)(xs:List Nat)(w:World)(h:Row w (some ⟨b,off,none⟩) (u32s xs))(hl:xs.length=n)(hn:n≤100000001) :
  Calls Tryz.prog 155 #[.slice (some ⟨b,off,none⟩) n cap] w (OutU w xs):=by
 have H:=hid h
 have HL:=hid hl
 have hm:0+n≤maxLen:=by unfold maxLen;omega
 have hml4:(0+n) * 4≤140737488355328:=by omega
 have h0:=World.ownsRow_made (base:=w.heap.size) (e:=166) (size:=1) w #[] 0 (Nat.le_refl _) (by unfold maxLen;omega) rfl
 have hr0:Row (w.alloc (.cells #[] 166)) (some ⟨b,off,none⟩) (u32s xs):=h.below ((Below.refl _ _).alloc (Nat.le_refl _) _)
 have hq:=fun (W:World)=>Lib.run_eql_slice_nil (P:=Tryz.prog) W 22 166 (some ⟨b,off,none⟩) n cap 0 0 Tryz.underlying22
 have H0:=hid h0
 have HR:=hid hr0
 clear h hl h0 hr0
 go_enter Tryz.func155,Tryz.ntmps155
 go_wp2_with (at_builtin;refine oC Tryz.u32Slice rfl _ _ rfl w.heap.size H0.out rfl rfl HR.out (by rw[kT,HL.out]) (by simp) (Cf _) hm hml4 (by simp) ?_;intro v' w' hown hb)
 rw[Nat.zero_add,List.nil_append] at hown
 obtain⟨a,c,rfl,_,_⟩:=df hown
 go_ret
 refine⟨a,c,by rw[HL.out];rfl,?_,by rw[HL.out];exact hown⟩
 exact ((Below.refl _ _).alloc (Nat.le_refl _) _).trans hb
def OutUUE (w:World) (xs ys:List Nat) (err:Nat) (e:Ending) (w':World):Prop :=
 ∃a cap a2 cap2,e=.returned (.tuple #[.slice a xs.length cap,.slice a2 ys.length cap2,.int .i64 err])∧Below w.heap.size w w'∧w'.ownsRow w.heap.size 166 1 (.slice a xs.length cap) xs.length (u32s xs)∧w'.ownsRow w.heap.size 166 1 (.slice a2 ys.length cap2) ys.length (u32s ys)
/-- More places than there are limbs. -/
theorem Eg (a:Option Addr)(cap n:Nat)(xs:List Nat)(w:World)(h:U32 w a xs)(hl:xs.length≤100000000)(hn:n≤30000)(h0:Num.worth xs≠0)(hlt:(Num.limbs (Num.worth xs)).length<n / 9) :
  Calls Tryz.prog 115 #[.slice a xs.length cap,.int .i64 n] w (OutUUE w [] (Num.limbs (Num.worth xs)) 0):=by
 have l1:=dh h.lt (Nat.le_refl _)
 have CN:=bY a cap xs w h (by omega)
 obtain⟨X,hX⟩:∃X,X=Num.limbs (Num.worth xs):=⟨_,rfl⟩
 have hX0:X≠[]:=by rw[hX];exact fun e=>h0 ((Num.digs_eq_nil Num.two_le_B9).1 e)
 have h9:∀x ∈ X,x<1000000000:=by rw[hX];exact Num.limbs_lt _
 have hXX:Num.limbs (Num.worth X)=X:=by rw[hX,Num.worth_limbs]
 rw[←hX] at CN hlt l1 ⊢
 have CN:=hid CN
 have H9:=hid h9
 have HX0:=hid hX0
 have HXX:=hid hXX
 clear h h0 hX hX0 h9 hXX
 have CT:Hid (∀W,Calls Tryz.prog 156 #[.int .i64 ((n:Int) % 9)] W fun e w'=>e=.returned (.int .u64 ((10 ^ (n % 9):Nat):Int))∧W=w'):=fun W=>by
  have:=mW (n % 9) W (by omega)
  simpa using this
 go_enter Tryz.func115,Tryz.ntmps115
 go_wp2_with fail
 refine CN.out.mono ?_
 rintro e w1 ⟨a1,c1,rfl,hb1,ho1⟩
 obtain⟨b,off,rfl⟩:=(aU ho1).isSome (by intro e;exact HX0.out (by simpa[u32s] using e))
 have hcap:=gQ ho1
 have HB1:=hid hb1
 have HO1:=hid ho1
 have hsz1:=hb1.size
 clear hb1 ho1 CN
 go_wp2_with fail
 have hcc:c1=X.length∨¬ c1=X.length:=Classical.em _
 rcases hcc with rfl | hcc
 all_goals go_region_with ((go_at_call 155;refine (pM b off X.length _ X w1.drew (show Row w1 _ _ from aU HO1.out) rfl (by omega)).mono ?_;rintro e w2 ⟨a2,c2,rfl,hb2,ho2⟩))
 all_goals
  have HB2:=hid (ae HB1.out (show Below w1.heap.size w1 w2 from (below_drewN (Below.refl _ w1) 1).trans hb2))
  have HO2:=hid (show w2.ownsRow w.heap.size 166 1 (.slice a2 X.length c2) X.length (u32s X) from aG ho2 (by simpa using hsz1))
  clear hb2 ho2
  go_wp2_with fail
  refine (CT.out w2).mono ?_
  rintro e w3 ⟨rfl,rfl⟩
  go_wp2_with fail
  refine (iT a2 X.length c2 X w w2 rfl H9.out HO2.out HB2.out).mono ?_
  rw[HXX.out]
  rintro e w4 ⟨a4,c4,rfl,hb4,ho4⟩
  go_wp2
  go_ret3
  exact⟨none,0,a4,c4,rfl,hb4,World.ownsRow_nil _ _ _ _,ho4⟩
def Div (w:World) (H:List Nat) (P k R g:Nat) (wr:World):Prop :=
 ∃L:List Nat,L.length=H.length∧(∀x ∈ L,x<1000000000)∧Num.val Num.B9 (H.drop k)=Num.val Num.B9 (L.drop k) * P+R∧R<P ∧
  wr.ownsRow w.heap.size 166 1 (.slice (some ⟨g,0,none⟩) H.length H.length) H.length (u32s L)∧Below w.heap.size w wr
theorem Div.step {w wr w1:World}{H L:List Nat}{P k R g T:Nat}(h1:L.length=H.length)(h2:∀x ∈ L,x<1000000000)(h3:Num.val Num.B9 (H.drop (k+1))=Num.val Num.B9 (L.drop (k+1)) * P+R)(h4:R<P)
  (h5:wr.ownsRow w.heap.size 166 1 (.slice (some ⟨g,0,none⟩) H.length H.length) H.length (u32s L))(h6:Below w.heap.size w wr)(hk:k<H.length)(hx:H.getD k 0<1000000000)(hT:T=R * 1000000000+H.getD k 0)
  (hw:w1=wr.setCell ⟨g,k,none⟩ (.int .u32 ((T / P:Nat):Int))):Div w H P k (T % P) g w1:=by
 subst hw
 have hP:0<P:=by omega
 have hs:=h5.stored k (.int .u32 ((T / P:Nat):Int))
 have hlt:T / P<1000000000:=by
  rw[Nat.div_lt_iff_lt_mul hP,hT]
  have:(R+1) * 1000000000≤P * 1000000000:=Nat.mul_le_mul_right _ h4
  rw[Nat.mul_comm 1000000000]
  omega
 have hkL:k<L.length:=by omega
 refine⟨L.set k (T / P),by simpa using h1,?_,?_,Nat.mod_lt _ hP,?_,?_⟩
 ·intro y hy
  rcases List.mem_or_eq_of_mem_set hy with h | h
  ·exact h2 y h
  ·subst h;exact hlt
 ·have e1:(L.set k (T / P)).drop k=T / P :: L.drop (k+1):=by
   rw[List.drop_eq_getElem_cons (by simpa using hkL)]
   simp[List.drop_set]
  rw[e1,Num.drop_getD hk,Num.val_cons,Num.val_cons,h3,Nat.add_mul]
  have e2:Num.B9 * (Num.val Num.B9 (L.drop (k+1)) * P+R)=Num.B9 * Num.val Num.B9 (L.drop (k+1)) * P+R * 1000000000:=by
   rw[Nat.mul_add,show (1000000000:Nat)=Num.B9 from rfl];congr 1<;>ac_rfl
  rw[e2]
  have e3:=Nat.mod_add_div T P
  rw[Nat.mul_comm P] at e3
  omega
 ·have e:(u32s L).set k (.int .u32 ((T / P:Nat):Int))=u32s (L.set k (T / P)):=by simp[u32s,List.map_set]
  rw[e] at hs
  exact hs.1
 ·exact h6.grown hs.2 h6.size (fun j hj=>by injection hj with hj;subst hj;exact (h5.lt g rfl).1)
theorem Ci (X:List Nat)(h9:∀x ∈ X,x<1000000000)(q P Q R:Nat)(_hq:q≤X.length)(hR:R<P)(h:Num.val Num.B9 (X.drop q)=Q * P+R) :
  Q=Num.worth X / (P * Num.B9 ^ q)∧Num.worth (X.take q ++ [R])=Num.worth X % (P * Num.B9 ^ q):=by
 have e:=Num.val_append Num.B9 (X.take q) (X.drop q)
 rw[List.take_append_drop,List.length_take,Nat.min_eq_left _hq,h] at e
 have hlow:=Num.val_take_lt (b:=Num.B9) (by decide) X h9 q
 have e2:Num.worth (X.take q ++ [R])=Num.val Num.B9 (X.take q)+Num.B9 ^ q * R:=by
  unfold Num.worth;rw[Num.val_snoc,List.length_take,Nat.min_eq_left _hq]
 have e3:Num.worth X=(Num.val Num.B9 (X.take q)+Num.B9 ^ q * R)+P * Num.B9 ^ q * Q:=by
  unfold Num.worth;rw[e,Nat.mul_add]
  have:Num.B9 ^ q * (Q * P)=P * Num.B9 ^ q * Q:=by ac_rfl
  omega
 have hlt:Num.val Num.B9 (X.take q)+Num.B9 ^ q * R<P * Num.B9 ^ q:=by
  have:Num.B9 ^ q * (R+1)≤Num.B9 ^ q * P:=Nat.mul_le_mul_left _ hR
  rw[Nat.mul_add,Nat.mul_one,Nat.mul_comm _ P] at this
  omega
 rw[e2,e3]
 constructor
 ·rw[Nat.add_mul_div_left _ _ (by omega),Nat.div_eq_of_lt hlt,Nat.zero_add]
 ·rw[Nat.add_mul_mod_self_left,Nat.mod_eq_of_lt hlt]
theorem wJ {T P c:Nat}(h:T / P<c):(T:Int) / (P:Int)<(c:Int):=by exact_mod_cast h
theorem Cj (a:Option Addr)(cap n:Nat)(xs:List Nat)(w:World)(h:U32 w a xs)(hl:xs.length≤100000000)(hn:n≤30000)(h0:Num.worth xs≠0)(hle:n / 9≤(Num.limbs (Num.worth xs)).length) :
  Calls Tryz.prog 115 #[.slice a xs.length cap,.int .i64 n] w (OutUUE w (Num.limbs (Num.worth xs / 10 ^ n)) (Num.limbs (Num.worth xs % 10 ^ n)) 0):=by
 have l1:=dh h.lt (Nat.le_refl _)
 have CN:=bY a cap xs w h (by omega)
 obtain⟨X,hX⟩:∃X,X=Num.limbs (Num.worth xs):=⟨_,rfl⟩
 have hX0:X≠[]:=by rw[hX];exact fun e=>h0 ((Num.digs_eq_nil Num.two_le_B9).1 e)
 have h9:∀x ∈ X,x<1000000000:=by rw[hX];exact Num.limbs_lt _
 have hXX:Num.worth xs=Num.worth X:=by rw[hX,Num.worth_limbs]
 obtain⟨q,hq⟩:∃q,q=n / 9:=⟨_,rfl⟩
 obtain⟨P,hP⟩:∃P,P=10 ^ (n % 9):=⟨_,rfl⟩
 have hP9:P≤100000000:=by rw[hP];exact Nat.pow_le_pow_right (n:=10) (by decide) (by omega:n % 9≤8)
 have hP0:1≤P:=by rw[hP];exact Nat.pow_pos (by decide)
 have hten:10 ^ n=P * Num.B9 ^ q:=by rw[hP,hq];exact Num.ten9 n
 rw[←hX] at CN hle l1
 rw[hXX,hten]
 rw[←hq] at hle
 have CN:=hid CN
 have H9:=hid h9
 have HX0:=hid hX0
 have CT:Hid (∀W,Calls Tryz.prog 156 #[.int .i64 ((n:Int) % 9)] W fun e w'=>e=.returned (.int .u64 (P:Int))∧W=w'):=fun W=>by
  have:=mW (n % 9) W (by omega)
  rw[hP]
  simpa using this
 have hq9:(n:Int) / 9=(q:Int):=by omega
 have HQ9:=hid hq9
 clear h h0 hX hX0 h9 hXX hten hP hq hq9
 go_enter Tryz.func115,Tryz.ntmps115
 go_wp2_with fail
 refine CN.out.mono ?_
 rintro e w1 ⟨a1,c1,rfl,hb1,ho1⟩
 obtain⟨b,off,rfl⟩:=(aU ho1).isSome (by intro e;exact HX0.out (by simpa[u32s] using e))
 have hcap:=gQ ho1
 have HB1:=hid hb1
 have HO1:=hid ho1
 have hsz1:=hb1.size
 have hq9:=HQ9.out
 clear hb1 ho1 CN
 obtain⟨ah,hah⟩:∃ah,ah=advance (some ⟨b,off,none⟩) c1 q:=⟨_,rfl⟩
 have hsl:=fun W=>lY (P:=Tryz.prog) Tryz.underlying22 Tryz.sizeOf166 (some ⟨b,off,none⟩) X.length c1 q hle W
 rw[←hah] at hsl
 have hrh:Row w1 ah (u32s (X.drop q)):=by
  have:=(aU HO1.out).drop c1 q (by simpa using hcap.1)
  rw[hah];simpa[u32s,List.map_drop] using this
 have hrl:Row w1 (some ⟨b,off,none⟩) (u32s (X.take q)):=by
  have:=(aU HO1.out).take q
  simpa[u32s,List.map_take] using this
 obtain⟨bh,oh,hbo⟩:=qF b off c1 q
 rw[←hah] at hbo
 subst hbo
 obtain⟨H,hH⟩:∃H,H=X.drop q:=⟨_,rfl⟩
 have hHl:X.length-q=H.length:=by rw[hH];simp
 rw[←hH] at hrh
 rw[hHl] at hsl
 have HH:=hid hH
 have HRH:=hid hrh
 have HRL:=hid hrl
 have hHl2:H.length≤c1-q:=by omega
 have hHl3:H.length≤100000001:=by omega
 clear hah hH hrh hrl hHl
 go_wp2_with fail
 go_region_with ((go_at_call 155;refine (pM b off q _ (X.take q) w1.drew (show Row w1 _ _ from HRL.out) (by simp;omega) (by omega)).mono ?_;rintro e w2 ⟨a2,c2,rfl,hb2,ho2⟩))
 have hlq:(X.take q).length=q:=by simp;omega
 rw[hlq] at ho2
 have HB2:=hid (ae HB1.out (show Below w1.heap.size w1 w2 from (below_drewN (Below.refl _ w1) 1).trans hb2))
 have HB12:=hid (show Below w1.heap.size w1 w2 from (below_drewN (Below.refl _ w1) 1).trans hb2)
 have HO2:=hid (show w2.ownsRow w.heap.size 166 1 (.slice a2 q c2) q (u32s (X.take q)) from aG ho2 (by simpa using hsz1))
 have hsz2:=HB2.out.size
 clear hb2 ho2 hlq hsl
 go_wp2_with fail
 refine (CT.out w2).mono ?_
 rintro e w3 ⟨rfl,rfl⟩
 go_wp2_with (at_make;refine kU Tryz.u32Slice rfl _ _ rfl H.length rfl rfl rfl rfl (by omega) (by unfold maxLen;omega) ?_;intro w3 hown hb3)
 have HOQ:=hid hown
 have HB3:=hid hb3
 clear hown hb3
 go_loopw [13,14] (fun r i wr=>∃(k R:Nat),k≤H.length∧i=.int .i64 ((k:Int)-1)∧r=.int .u64 R∧R<P∧Div w2 H P k R w2.heap.size wr) (fun _ i _=>(intOf i+1).toNat)
 case atStart =>
  refine⟨H.length,0,Nat.le_refl _,rfl,rfl,by omega,List.replicate H.length 0,by simp,by simp,?_,by omega,?_,HB3.out⟩
  ·rw[List.drop_of_length_le (Nat.le_refl _),List.drop_of_length_le (by simp)];simp[Num.val]
  ·simpa[u32s] using HOQ.out
 case round =>
  clear HB3 HOQ
  obtain⟨k,R,hk,rfl,rfl,hR,L,h1,h2,h3,h4,h5,h6⟩:=hrel
  have HL1:=hid h1
  have HL2:=hid h2
  have HL3:=hid h3
  have HL5:=hid h5
  have HL6:=hid h6
  clear h1 h2 h3 h4 h5 h6
  by_cases hk0:k=0
  ·subst hk0
   go_wp2_with fail
   refine (iT _ H.length H.length L w2 wr HL1.out HL2.out HL5.out HL6.out).mono ?_
   rintro e w4 ⟨aq,cq,rfl,hb4,ho4⟩
   have HB4:=hid hb4
   have HO4:=hid ho4
   have hlow2:=(HO2.out).lt
   have hlow:=aH HO2.out hb4
   have hsz4:=Nat.le_trans hsz2 hb4.size
   have HLW:=hid hlow2
   have hRR:(R:Int)<4294967296:=by omega
   have hmx:q+1≤maxLen:=by unfold maxLen;omega
   clear hb4 ho4 hlow2
   go_wp2_with (at_builtin;refine lZ Tryz.u32Slice rfl _ _ rfl w.heap.size hlow rfl rfl rfl hmx (by omega) hsz4 ?_;intro v5 w5 hown5 hb5 hg5)
   obtain⟨a5,c5,rfl,_,_⟩:=df hown5
   have HO5:=hid (show w5.ownsRow w.heap.size 166 1 (.slice a5 (q+1) c5) (q+1) (u32s (X.take q ++ [R])) by simpa[u32s] using hown5)
   have HB5:=hid ((ae HB2.out HB4.out).trans hb5)
   have HOQ:=hid (vS HO4.out hg5 (fun k hk=>(HLW.out k hk).2) hlow)
   clear hown5 hb5 hg5 hlow
   go_wp2_with fail
   have h9':∀x ∈ X.take q ++ [R],x<1000000000:=fun y hy=>by
    rcases List.mem_append.1 hy with h | h
    ·exact H9.out y (List.mem_of_mem_take h)
    ·simp at h;omega
   refine (gZ a5 (q+1) c5 (X.take q ++ [R]) w w5 (by simp;omega) h9' HO5.out HB5.out).mono ?_
   have hmath:=Ci X H9.out q P (Num.val Num.B9 L) R hle hR (by have:=HL3.out;rw[HH.out] at this;simpa using this)
   rw[hmath.2]
   have hQ:Num.worth L=Num.worth X / (P * Num.B9 ^ q):=hmath.1
   rw[hQ] at HOQ ⊢
   clear hmath hQ
   rintro e w6 ⟨⟨a6,c6,rfl,hb6,ho6⟩,rfl⟩
   go_wp2
   go_ret3
   refine⟨_,_,_,_,rfl,hb6,?_,ho6⟩
   exact aG HOQ.out hsz2
  ·obtain⟨m,rfl⟩:∃m,k=m+1:=⟨k-1,by omega⟩
   have e1:((m+1:Nat):Int)-1=(m:Int):=by omega
   rw[e1]
   have hm:m<H.length:=by omega
   obtain⟨x,hxe⟩:∃x,x=H.getD m 0:=⟨_,rfl⟩
   have hx9:x<1000000000:=by
    rw[hxe,HH.out]
    have:q+m<X.length:=by have:=HH.out;rw[this] at hm;simp at hm;omega
    rw[List.getD_eq_getElem?_getD,List.getElem?_drop,List.getElem?_eq_getElem this]
    exact H9.out _ (by simp)
   have g0:=(HRH.out.below HB12.out).u32 hm
   have g1:wr.cell? ⟨bh,oh+m,none⟩=some (.int .u32 (x:Int)):=by rw[hxe];exact (HL6.out.cell (ax g0)).trans g0
   have hold:∃u,wr.cell? ⟨w2.heap.size,m,none⟩=some (.int .u32 u):=by
    rw[HL5.out.cellAt m (by omega)];exact Bf (by have:=HL1.out;omega)
   obtain⟨u,hold⟩:=hold
   have hf2:=HL5.out.frozenAt m
   obtain⟨T,hT⟩:∃T,T=R * 1000000000+x:=⟨_,rfl⟩
   have hTi:(R:Int) * 1000000000+(x:Int)=(T:Int):=by omega
   have hT9:(T:Int)≤1000000000000000000:=by omega
   have hdiv:((T / P:Nat):Int)=(T:Int) / (P:Int):=by simp
   have hmod:(T:Int) % (P:Int)=((T % P:Nat):Int):=by simp
   have hdl:T / P<1000000000:=by
    rw[Nat.div_lt_iff_lt_mul (by omega),hT]
    have:(R+1) * 1000000000≤P * 1000000000:=Nat.mul_le_mul_right _ hR
    omega
   have hml:T % P<P:=Nat.mod_lt _ (by omega)
   have HD:Hid (∀wz,wz=wr.setCell ⟨w2.heap.size,m,none⟩ (.int .u32 ((T / P:Nat):Int))→Div w2 H P m (T % P) w2.heap.size wz):=fun wz hz =>
    Div.step HL1.out HL2.out HL3.out hR HL5.out HL6.out hm (by rw[←hxe];exact hx9) (by rw[←hxe];exact hT) hz
   have hd0:0≤(T:Int) / (P:Int):=Int.ediv_nonneg (by omega) (by omega)
   have hd1:(T:Int) / (P:Int)<1000000000:=wJ hdl
   have HDIV:=hid hdiv
   have HMOD:=hid hmod
   have HD:=hid (fun wz (hz:wz=wr.setCell ⟨w2.heap.size,m,none⟩ (.int .u32 ((T:Int) / (P:Int))))=>HD.out wz (by rw[HDIV.out];exact hz))
   clear hdiv hmod hdl
   have hPz:((P:Int) == 0)=false:=by rw[beq_eq_false_iff_ne];omega
   clear hT hxe e1 g0
   go_wp2
   go_roundw
   case rel=>exact⟨m,T % P,by omega,by go_num,by rw[HMOD.out],hml,HD.out _ rfl⟩
   case measure=>simp[intOf]
theorem sF (a:Option Addr)(cap n:Nat)(xs:List Nat)(w:World)(h:U32 w a xs)(hl:xs.length≤100000000)(hn:n≤30000)(h0:Num.worth xs≠0) :
  Calls Tryz.prog 115 #[.slice a xs.length cap,.int .i64 n] w (OutUUE w (Num.limbs (Num.worth xs / 10 ^ n)) (Num.limbs (Num.worth xs % 10 ^ n)) 0):=by
 by_cases hlt:(Num.limbs (Num.worth xs)).length<n / 9
 ·have C:=Eg a cap n xs w h hl hn h0 hlt
  have e:Num.worth xs<10 ^ n:=by
   have h1:=aT.1 (Nat.le_of_lt hlt)
   have h2:Num.B9 ^ (n / 9)≤10 ^ n:=by
    rw[Num.ten9 n];exact Nat.le_mul_of_pos_left _ (Nat.pow_pos (by decide))
   omega
  rw[Nat.div_eq_of_lt e,Nat.mod_eq_of_lt e]
  exact C
 ·exact Cj a cap n xs w h hl hn h0 (by omega)
end Go.Proofs.YtcgbmmalfbpjaaaGreatDoor
