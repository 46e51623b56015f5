/-  -/
import Derived.Test.YtcgbmmalfbpjaaaGreatDoorCards
import Derived.Test.YtcgbmmalfbpjaaaGreatDoorTie
import Derived.Test.YtcgbmmalfbpjaaaGreatDoorMb
import Derived.Test.YtcgbmmalfbpjaaaGreatDoorRows
import Derived.Test.YtcgbmmalfbpjaaaGreatDoorMm
import Derived.Test.YtcgbmmalfbpjaaaGreatDoorShelf
import Derived.WalkKit
import Derived.ProofKit
import Derived.OpenShut
import Derived.Carry
import Derived.Deep.DeepHandedRow
import Derived.Deep.DeepWitnessRowRef
import Derived.Lib.LaidTab
import Derived.Lib.LaidIn
import Derived.Lib.SmallJoins
import Derived.LaidSub
import Derived.ChangeArms
import Derived.Deep.Slices
import Derived.Lib.LaidU8
set_option maxRecDepth 100000
set_option maxHeartbeats 16000000
namespace Go.Proofs.YtcgbmmalfbpjaaaGreatDoor
open Go.RowKit Go.ChangeShapes Go.WideShapes Go.ChangeAt Go.Joins
theorem own:ownKnob Tryz.prog.godebug=none:=by kernel_rfl
theorem Bh:laidOutB Tryz.prog=true:=by kernel_rfl
theorem Bi:Tryz.prog.cellsOf 24=3:=by kernel_rfl
theorem Bj:Tryz.prog.cellsOf 166=1:=by kernel_rfl
theorem Bl:Tryz.prog.cellsOf 272=20:=by kernel_rfl
theorem Bo:Tryz.prog.cellsOf 101=1:=by kernel_rfl
theorem Bq:(Tryz.prog.globals[2]?).map (·.type)=some 272:=by kernel_rfl
section
variable {H:Type} {enc:TypeId × Value→H}
theorem iO {W W':World}(hb:Below W.heap.size W W'):∀{ts:List TypeId} {vs:List Value} {ds:List (DataW H)} {ps:List MemPlace},(∀t ∈ ts,Tryz.prog.readableRec t=true∧t<Tryz.prog.types.size) →
  DataW.TrodAll enc Tryz.prog W 0 (fun _=>true) true ts vs ds ps→(∀x ∈ ps,x.block<W.heap.size)→DataW.TrodAll enc Tryz.prog W' 0 (fun b=>decide (b<W.heap.size)) true ts vs ds ps
 | [],vs,ds,ps,_,h,_=>by
  obtain⟨rfl,rfl,rfl⟩:=trodAll_nil h
  exact trodAll_mk0
 | t :: ts,vs,ds,ps,ht,h,hlt=>by
  obtain⟨v,vs1,d,ds1,a,b,rfl,rfl,rfl,h1,h2⟩:=trodAll_cons h
  have h3:=Below.trod Bh (ht t (by simp)).1 (ht t (by simp)).2 h1 hb (fun x hx=>hlt x (List.mem_append_left _ hx))
  have h4:=iO hb (fun u hu=>ht u (by simp[hu])) h2 (fun x hx=>hlt x (List.mem_append_right _ hx))
  exact trodAll_cons_mk h3 h4
end
theorem Fb {l:List (String × DataW Unit)}{W:World}(h:laidMetH Tryz.prog l W)
  (hf:(l.filter fun x=>x.1 == "internal/strconv.uint64pow10")=[("internal/strconv.uint64pow10",Lib.tabData .u64 Lib.pow10Tab)]):Pow W:=by
 have h2:=(laidMetH_iff.1 (h.filter fun x=>x.1 == "internal/strconv.uint64pow10")).1
 rw[hf] at h2
 exact Lib.tabIs_of_head (rest:=[]) gPow Bq Tryz.underlying272 Tryz.underlying101 Bo Bl h2
def val1:DataW Unit→Value
 | .lit (.int k n)=>.int k n
 | .lit (.string l)=>.string ⟨l.toArray⟩
 | _=>undef
def vals1:DataW Unit→List Value
 | .agg xs=>xs.map val1
 | d=>[val1 d]
def vals2:DataW Unit→Array Value
 | .agg xs=>(xs.flatMap vals1).toArray
 | _=>#[]
def put (h:Array Obj) (g:Nat) (cs:Array Value):Array Obj:=h.modify g fun
 | .cells _ t frozen=>.cells cs t frozen
 | o=>o
def errText (d:DataW Unit):Value:=match d with
 | .iface _ (.ptr (.agg [.lit (.string l)]))=>.string ⟨l.toArray⟩
 | _=>undef
noncomputable def laidWorld (os:Os):World :=
 let N:=(World.settled Tryz.prog os).heap.size
 let w0:=World.holding Tryz.prog os ⟨#[.cells #[errText Rows.laid_strconv_ErrSyntax] 290,.cells #[errText Rows.laid_strconv_ErrRange] 290],#[],[]⟩
 let h0:=put (put w0.heap 3 #[.iface 288 (.pointer (some ⟨N,0,none⟩))]) 4 #[.iface 288 (.pointer (some ⟨N+1,0,none⟩))]
 let h1:=put h0 2 (vals2 Rows.laid_internal_strconv_uint64pow10)
 let h2:=put h1 0 (vals2 Rows.laid_unicode_utf8_first)
 let h3:=put h2 1 (vals2 Rows.laid_unicode_utf8_acceptRanges)
 let h4:=put h3 6 (vals2 Rows.laid_math_bits_deBruijn32tab)
 let h5:=put h4 7 (vals2 Rows.laid_math_bits_deBruijn64tab)
 { w0 with heap:=h5 }
theorem uo:Tryz.prog.cellsOf 3=1:=by kernel_rfl
theorem uq:Tryz.prog.cellsOf 9=1:=by kernel_rfl
theorem zQ:Tryz.prog.cellsOf 4=1:=by kernel_rfl
theorem zS:Tryz.prog.cellsOf 22=1:=by kernel_rfl
theorem zN:Tryz.prog.cellsOf 25=1:=by kernel_rfl
theorem zO:Tryz.prog.cellsOf 26=1:=by kernel_rfl
theorem nD:Tryz.prog.cellsOf 28=7:=by kernel_rfl
theorem uw:Tryz.prog.cellsOf 67=8:=by kernel_rfl
theorem uA {H:Type}(d:DataW H):1≤Rows.uptoBulk d:=by
 cases d with
 | lit l=>cases l<;>simp[Rows.uptoBulk]
 | nil=>simp[Rows.uptoBulk]
 | ptr d=>simp[Rows.uptoBulk]
 | slice elems spare=>simp[Rows.uptoBulk]
 | agg parts=>simp[Rows.uptoBulk]
 | iface t d=>simp[Rows.uptoBulk]
 | map entries=>simp[Rows.uptoBulk]
 | held h=>simp[Rows.uptoBulk]
theorem iC {H:Type}{d:DataW H}:∀{l:List (DataW H)},d ∈ l→Rows.uptoBulk d≤Rows.uptoBulkAll l
 | x :: r,h=>by
  simp only[Rows.uptoBulkAll]
  rcases List.mem_cons.1 h with e | e
  ·subst e;omega
  ·have:=iC e;omega
theorem lu {H:Type}:∀l:List (DataW H),l.length≤Rows.uptoBulkAll l
 | []=>Nat.le_refl _
 | x :: r=>by have:=uA x;have:=lu r;simp only[Rows.uptoBulkAll,List.length_cons];omega
theorem fF {H:Type}{parts:List (DataW H)}{d:DataW H}(h:d ∈ parts):Rows.uptoBulk d≤Rows.uptoBulk (.agg parts):=by
 have:=iC h
 simp only[Rows.uptoBulk]
 omega
theorem nG {H:Type}{es sp:List (DataW H)}:es.length+1≤Rows.uptoBulk (.slice es sp)∧∀d ∈ es,Rows.uptoBulk d≤Rows.uptoBulk (.slice es sp):=by
 have h1:=lu es
 refine⟨by simp only[Rows.uptoBulk];omega,fun d hd=>?_⟩
 have:=iC hd
 simp only[Rows.uptoBulk]
 omega
theorem lh {α β:Type}{P:Nat→α→β→Prop}:∀(l:List α),(∀(i:Nat) (y:α),l[i]? = some y→∃v,P i y v)→∃m:List β,m.length=l.length∧∀(i:Nat) (v:β),m[i]? = some v→∃y,l[i]? = some y∧P i y v:=by
 intro l
 suffices H:∀(l:List α) (k:Nat),(∀(i:Nat) (y:α),l[i]? = some y→∃v,P (k+i) y v)→∃m:List β,m.length=l.length∧∀(i:Nat) (v:β),m[i]? = some v→∃y,l[i]? = some y∧P (k+i) y v by
  intro h
  have:=H l 0 (fun i y hy=>by rw[Nat.zero_add];exact h i y hy)
  simpa using this
 intro l
 induction l with
 | nil=>intro k _;exact⟨[],rfl,fun i v h=>by simp at h⟩
 | cons x l ih =>
  intro k h
  obtain⟨v,hv⟩:=h 0 x rfl
  obtain⟨m,h1,h2⟩:=ih (k+1) (fun i y hy=>by
   have:=h (i+1) y (by simpa using hy)
   rw[show k+1+i=k+(i+1) by omega]
   exact this)
  refine⟨v :: m,by simp[h1],fun i u hu=>?_⟩
  cases i with
  | zero =>
   simp at hu
   rw[←hu]
   exact⟨x,rfl,hv⟩
  | succ i =>
   obtain⟨y,e1,e2⟩:=h2 i u (by simpa using hu)
   rw[show k+1+i=k+(i+1) by omega] at e2
   exact⟨y,by simpa using e1,e2⟩
section
variable {H:Type} {enc:TypeId × Value→H}
theorem lq {W:World}{a:Addr}{k n:Nat}{cs:List Value}(h:W.cells? 0 (a.add k) n=some cs)(h0:a.spot=none):CellsAt W (some a) k cs:=by
 obtain⟨_,hl,hc⟩:=World.cells?_some h
 obtain⟨b,off,sp⟩:=a
 simp only at h0
 subst h0
 refine⟨b,off,rfl,fun j v hv=>?_⟩
 have hj:=(List.getElem?_eq_some_iff.1 hv).1
 have:=hc j (by omega)
 rw[Addr.add_lit,Addr.add_lit] at this
 rw[this,hv]
theorem yA {W:World}{a:Addr}{n:Nat}{cs:List Value}(h:W.cells? 0 (a.add (0 * n)) (n+1)=some cs):a.spot=none:=by
 obtain⟨_,hl,hc⟩:=World.cells?_some h
 have h0:=hc 0 (by omega)
 rw[List.getElem?_eq_getElem (by omega)] at h0
 have:=World.cell?_spot h0
 simpa[Addr.add] using this
theorem zT {W:World}{n:Nat}{c:Value}{x:DataW H × List MemPlace}(h:DataW.trod enc Tryz.prog W 0 (fun _=>true) true n 22 [c]=some x) :
  ∃(a:Option Addr) (cap:Nat) (xs:List Nat),c=.slice a xs.length cap∧U32 W a xs∧xs.length≤cap∧cap≤maxLen:=by
 rcases open_ints Tryz.underlying22 Tryz.underlying166 Bj h with ⟨e1,_⟩ | ⟨a,len,cap,zs,e1,_,hlc,hcm,hzl,_,hcell,hwf⟩
 ·simp only[List.cons.injEq,and_true] at e1
  subst e1
  exact⟨none,0,[],rfl,⟨Row.nil _ _,fun x hx=>by simp at hx⟩,Nat.le_refl _,Nat.zero_le _⟩
 ·simp only[List.cons.injEq,and_true] at e1
  subst e1
  simp only[if_true] at hzl
  have hz:∀z ∈ zs,0≤z∧z<4294967296:=fun z hz=>by
   have:=hwf z hz
   simp only[Lit.wf,Bool.and_eq_true,decide_eq_true_eq] at this
   rw[show IntKind.u32.min=0 by decide,show IntKind.u32.max=4294967295 by decide] at this
   omega
  have hxl:((zs.take len).map Int.toNat).length=len:=by simp;omega
  refine⟨some a,cap,(zs.take len).map Int.toNat,by rw[hxl],⟨?_,?_⟩,by rw[hxl];exact hlc,hcm⟩
  ·intro j x hx
   have hj:j<len:=by
    have:=(List.getElem?_eq_some_iff.1 hx).1
    simp[u32s] at this;omega
   have hjz:j<zs.length:=by omega
   have hc:=hcell j hjz
   have hxe:x=.int .u32 (zs.getD j 0):=by
    have hm:zs[j] ∈ zs:=List.getElem_mem hjz
    have hb:=hz _ hm
    simp only[u32s,List.getElem?_map,List.getElem?_take,hj,if_true,List.getElem?_eq_getElem hjz,Option.map_some,Option.some.injEq] at hx
    rw[←hx,List.getD_eq_getElem?_getD,List.getElem?_eq_getElem hjz]
    simp only[Option.getD_some]
    rw[Int.toNat_of_nonneg hb.1]
   rw[hxe]
   have hc0:=World.cell?_spot (hcell 0 (by omega))
   obtain⟨b,off,sp⟩:=a
   obtain rfl:sp=none:=by simpa[Addr.add] using hc0
   rw[Addr.add_lit] at hc
   exact⟨b,off,rfl,hc⟩
  ·intro x hx
   obtain⟨z,hz',rfl⟩:=List.mem_map.1 hx
   have:=hz z (List.mem_of_mem_take hz')
   omega
theorem uy {α:Type}{l:List α}(h:l.length=8):∃q0 q1 q2 q3 q4 q5 q6 q7,l=[q0,q1,q2,q3,q4,q5,q6,q7]:=by
 match l,h with
 | [q0,q1,q2,q3,q4,q5,q6,q7],_=>exact⟨q0,q1,q2,q3,q4,q5,q6,q7,rfl⟩
theorem wM {α:Type}{l:List α}(h:l.length=5):∃a b c d e,l=[a,b,c,d,e]:=by
 match l,h with
 | [a,b,c,d,e],_=>exact⟨a,b,c,d,e,rfl⟩
theorem zU {α:Type}{l:List α}(h:l.length=2):∃a b,l=[a,b]:=by
 match l,h with
 | [a,b],_=>exact⟨a,b,rfl⟩
theorem uu {α:Type}{l:List α}(h:l.length=3):∃a b c,l=[a,b,c]:=by
 match l,h with
 | [a,b,c],_=>exact⟨a,b,c,rfl⟩
theorem yB {s:ByteArray}(h:s.size≤maxLen):s.data.toList.length≤9223372036854775807:=by
 have e:s.data.toList.length=s.size:=Array.length_toList
 have h:s.size≤9223372036854775807:=h
 omega
theorem uz {H:Type}{y:DataW H × List MemPlace}{s:ByteArray}(h:y=(.lit (.string s.data.toList),[])):s.data.toList.length+1=Rows.uptoBulk y.1:=by rw[h];simp[Rows.uptoBulk]
theorem CU {e:Int}(hw:(Lit.int .i64 e).wf=true):I64 e:=by
 simp only[Lit.wf,Bool.and_eq_true,decide_eq_true_eq] at hw
 rw[show IntKind.i64.min=-9223372036854775808 by decide,show IntKind.i64.max=9223372036854775807 by decide] at hw
 exact hw
end
section
variable {H:Type} {enc:TypeId × Value→H}
end
theorem DW {l:List (String × DataW Unit)}{W:World}(h:laidMetH Tryz.prog l W)
  (hf:(l.filter fun x=>x.1 == "internal/strconv.uint64pow10")=[("internal/strconv.uint64pow10",Lib.tabData .u64 Lib.pow10Tab)])
  (h1:(l.filter fun x=>x.1 == "unicode/utf8.first")=[("unicode/utf8.first",Lib.firstData)])
  (h2:(l.filter fun x=>x.1 == "unicode/utf8.acceptRanges")=[("unicode/utf8.acceptRanges",Lib.acceptData)]):Tabs W:=by
 refine⟨?_,Fb h hf⟩
 have k1:=(laidMetH_iff.1 (h.filter fun x=>x.1 == "unicode/utf8.first")).1
 have k2:=(laidMetH_iff.1 (h.filter fun x=>x.1 == "unicode/utf8.acceptRanges")).1
 rw[h1] at k1
 rw[h2] at k2
 exact utf8Tabs_of_reads (ρ:=Tryz.lays260_ren) Tryz.lays260 ⟨by kernel_rfl,by kernel_rfl,by kernel_rfl,by kernel_rfl,by kernel_rfl,by kernel_rfl,by kernel_rfl⟩
  (Lib.laidMet.reads (l:=[("unicode/utf8.first",Lib.firstData)]) k1 (.head _)) (Lib.laidMet.reads (l:=[("unicode/utf8.acceptRanges",Lib.acceptData)]) k2 (.head _))
end Go.Proofs.YtcgbmmalfbpjaaaGreatDoor
