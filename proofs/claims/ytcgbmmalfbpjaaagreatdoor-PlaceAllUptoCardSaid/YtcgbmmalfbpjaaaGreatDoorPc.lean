/-  -/
import Derived.Test.YtcgbmmalfbpjaaaGreatDoorMm
import Derived.Test.YtcgbmmalfbpjaaaGreatDoorMu
import Derived.Test.YtcgbmmalfbpjaaaGreatDoorPb
import Derived.Test.YtcgbmmalfbpjaaaGreatDoorMy
import Derived.Test.YtcgbmmalfbpjaaaGreatDoorStrD
import Derived.Test.YtcgbmmalfbpjaaaGreatDoorFg
import Derived.Test.YtcgbmmalfbpjaaaGreatDoorPa
import Derived.Test.YtcgbmmalfbpjaaaGreatDoorMv
set_option maxRecDepth 100000
set_option maxHeartbeats 16000000
namespace Go.Proofs.YtcgbmmalfbpjaaaGreatDoor
open Go.RowKit
structure ZE (w0:World) where
 cs:List Value
 v:JV
 rd:RdV w0 cs v
section
variable {w0:World}
theorem lX {n:Nat}(j:Nat)(h:j<n * 7):∃i c,i<n∧c<7∧j=i * 7+c:=⟨j / 7,j % 7,by omega,by omega,by omega⟩
theorem aV:∀E:List (ZE w0),(E.flatMap ZE.cs).length=E.length * 7
 | []=>rfl
 | f :: E=>by rw[List.flatMap_cons,List.length_append,aV E,f.rd.len,List.length_cons];omega
theorem eF:∀(E:List (ZE w0)) (i c:Nat) (f:ZE w0),E[i]? = some f→c<7→(E.flatMap ZE.cs)[i * 7+c]? = f.cs[c]?
 | [],i,c,f,h,_=>by simp at h
 | g :: E,0,c,f,h,hc=>by
  simp at h
  subst h
  rw[List.flatMap_cons,Nat.zero_mul,Nat.zero_add,List.getElem?_append_left (by rw[g.rd.len];exact hc)]
 | g :: E,i+1,c,f,h,hc=>by
  rw[List.flatMap_cons,List.getElem?_append_right (by rw[g.rd.len];omega),g.rd.len,show (i+1) * 7+c-7=i * 7+c by omega]
  exact eF E i c f (by simpa using h) hc
theorem dY (E:List (ZE w0)):∀u ∈ E.flatMap ZE.cs,u.oneCell'=true:=by
 intro u hu
 obtain⟨f,_,hf⟩:=List.mem_flatMap.1 hu
 exact fM f.rd u hf
theorem lF {w:World}{b off:Nat}{E:List (ZE w0)}(h:∀(i:Nat) (e:ZE w0),E[i]? = some e→CellsAt w (some ⟨b,off,none⟩) (i * 7) e.cs)(j:Nat)(u:Value)(hj:(E.flatMap ZE.cs)[j]? = some u):w.cell? ⟨b,off+j,none⟩=some u:=by
 have hlt:=(List.getElem?_eq_some_iff.1 hj).1
 rw[aV] at hlt
 obtain⟨i,cc,hi,hc,rfl⟩:=lX j hlt
 have hf:=List.getElem?_eq_getElem hi
 rw[eF E i cc _ hf hc] at hj
 obtain⟨b',off',e,hcs⟩:=h i _ hf
 simp only[Option.some.injEq,Addr.mk.injEq] at e
 have:=hcs cc u hj
 rw[←e.1,←e.2.1,Nat.add_assoc] at this
 exact this
theorem DV {w:World}{a:Option Addr}:∀{l:List JV} {k:Nat},(∀(i:Nat) (x:JV),l[i]? = some x→∃cs,CellsAt w a ((k+i) * 7) cs∧RdV w cs x) →
  ∃E:List (ZE w),E.map ZE.v=l∧∀(i:Nat) (e:ZE w),E[i]? = some e→CellsAt w a ((k+i) * 7) e.cs
 | [],_,_=>⟨[],rfl,fun i f h=>by simp at h⟩
 | x :: l,k,h=>by
  obtain⟨cs,h1,h3⟩:=h 0 x rfl
  obtain⟨E,e1,e3⟩:=DV (k:=k+1) (fun i y hy=>by
   have:=h (i+1) y (by simpa using hy)
   rw[show k+1+i=k+(i+1) by omega]
   exact this)
  refine⟨⟨cs,x,h3⟩ :: E,by rw[List.map_cons,e1],?_⟩
  intro i f hf
  cases i with
  | zero =>
   simp at hf
   rw[←hf]
   exact h1
  | succ i =>
   have:=e3 i f (by simpa using hf)
   rw[show k+1+i=k+(i+1) by omega] at this
   exact this
theorem RdA.zes {w:World}{a:Option Addr}{l:List JV}(h:RdA w a l):∃E:List (ZE w),E.map ZE.v=l∧∀(i:Nat) (e:ZE w),E[i]? = some e→CellsAt w a (i * 7) e.cs:=by
 obtain⟨E,h1,h2⟩:=DV (w:=w) (a:=a) (l:=l) (k:=0) (fun i x hx=>by rw[Nat.zero_add];exact h i x hx)
 exact⟨E,h1,fun i e he=>by have:=h2 i e he;rwa [Nat.zero_add] at this⟩
theorem yT {w:World}{g off:Nat}{E:List (ZE w0)}(hs:SubW w0 w)(h:∀(j:Nat) (u:Value),(E.flatMap ZE.cs)[j]? = some u→w.cell? ⟨g,off+j,none⟩=some u):RdA w (some ⟨g,off,none⟩) (E.map ZE.v):=by
 intro i x hx
 rw[List.getElem?_map] at hx
 obtain⟨e,he,rfl⟩:=Option.map_eq_some_iff.1 hx
 refine⟨e.cs,⟨g,off,rfl,fun j v hv=>?_⟩,e.rd.sub hs⟩
 have hj:j<7:=by have:=(List.getElem?_eq_some_iff.1 hv).1;rw[e.rd.len] at this;exact this
 rw[Nat.add_assoc]
 exact h (i * 7+j) v (by rw[eF E i j e he hj];exact hv)
theorem lQ {A:Nat→Prop}{w:World}{base n:Nat}{a:Option Addr}{cap:Nat}{T:TypeId}{E:List (ZE w0)}(hA:∀k,A k→k<base)(hs:SubW w0 (hideW A w))(h:w.ownsRow base T 7 (.slice a n cap) E.length (E.flatMap ZE.cs)) :
  RdA (hideW A w) a (E.map ZE.v)∧n=E.length∧n≤cap∧cap≤9223372036854775807:=by
 obtain⟨h1,h | ⟨g,c2,cur,hv,hg,hh,h3,h4,h5,h6⟩⟩:=h
 ·obtain⟨h,h0⟩:=h
  injection h with e1 e2 e3
  subst e1 e2 e3
  obtain rfl:=List.length_eq_zero_iff.1 h0
  exact⟨fun i x hx=>by simp at hx,rfl,Nat.le_refl _,by omega⟩
 ·injection hv with e1 e2 e3
  subst e1 e2 e3
  refine⟨yT hs fun j u hu=>?_,rfl,h3,h4⟩
  have hj:=(List.getElem?_eq_some_iff.1 hu).1
  have e:cur[j]? = some u:=by
   rw[←hu,←h6,List.getElem?_take_of_lt (by rw[←h6,List.length_take] at hj;omega),Array.getElem?_toList]
  rw[Nat.zero_add]
  refine aI.2 ⟨fun h=>Nat.lt_irrefl _ (Nat.lt_of_lt_of_le (hA _ h) hg),?_⟩
  simp only[World.cell?,hh]
  simpa using e
theorem RdA.take {w:World}{a:Option Addr}{l:List JV}(h:RdA w a l)(k:Nat):RdA w a (l.take k):=fun i x hx=>h i x (by
 rw[List.getElem?_take] at hx
 split at hx
 ·exact hx
 ·cases hx)
theorem RdA.drop {w:World}{b off:Nat}{l:List JV}(h:RdA w (some ⟨b,off,none⟩) l)(k:Nat):RdA w (some ⟨b,off+k * 7,none⟩) (l.drop k):=fun i x hx=>by
 rw[List.getElem?_drop] at hx
 obtain⟨cs,⟨b',off',e,hc⟩,h2⟩:=h (k+i) x hx
 obtain⟨rfl,rfl⟩:b=b'∧off=off':=by simpa using e
 exact⟨cs,⟨b,off+k * 7,rfl,fun j v hv=>by have:=hc j v hv;rwa [show off+k * 7+i * 7+j=off+(k+i) * 7+j by omega]⟩,h2⟩
end
theorem lS {A:Nat→Prop}{w:World}{q:Option Addr}{c:Nat}{l:List JV}(h:RdA (hideW A w) q l)(hc:l.length≤c∧c≤9223372036854775807) :
  RdX A w [.int .i64 5,.bool false,.slice none 0 0,.int .i64 0,.string ⟨#[]⟩,.slice q l.length c,.slice none 0 0] (arrJ l) :=
 PartsV.rd (v:=arrJ l) (a:=none) (c:=0) (aa:=q) (ac:=c) (oa:=none) (oc:=0) ⟨rfl,by unfold I64;simp[arrJ,JV.kind],by unfold I64;simp[arrJ,JV.e],by simp[arrJ,JV.s],hc,by simp[arrJ,JV.obj],by simp[arrJ,JV.ls],⟨Row.nil _ _,fun x hx=>by cases hx⟩,h,fun i x hx=>by simp[arrJ,JV.obj] at hx⟩
theorem bz (q:Option Addr)(n c:Nat)(w:World) :
  Calls Tryz.prog 34 #[.slice q n c] w fun e w'=>e=.returned (.agg #[.int .i64 5,.bool false,.slice none 0 0,.int .i64 0,.string ⟨#[]⟩,.slice q n c,.slice none 0 0])∧Below w.heap.size w w':=by
 have h0:=aj w (.cells #[.int .i64 0,.bool false,.slice none 0 0,.int .i64 0,.string ⟨#[]⟩,.slice none 0 0,.slice none 0 0] 28)
 have hb:=(Below.refl w.heap.size w).alloc (Nat.le_refl _) (.cells #[.int .i64 0,.bool false,.slice none 0 0,.int .i64 0,.string ⟨#[]⟩,.slice none 0 0,.slice none 0 0] 28)
 obtain⟨W,hW⟩:∃W,W=w.alloc (.cells #[.int .i64 0,.bool false,.slice none 0 0,.int .i64 0,.string ⟨#[]⟩,.slice none 0 0,.slice none 0 0] 28):=⟨_,rfl⟩
 rw[←hW] at h0 hb
 have HB:=hid hb
 replace hW:=hid hW.symm
 obtain⟨⟨r0,r1,r2,r3,r4,r5,r6⟩,s0,s1,s2,s3,s4,s5,s6⟩:=ag h0
 clear h0 hb
 go_enter Tryz.func34,Tryz.ntmps34
 go_upto_region 1 with fail
 rw[hW.out]
 go_wp2_with fail
 refine bodyPost_ret (v:=.agg #[.int .i64 5,.bool false,.slice none 0 0,.int .i64 0,.string ⟨#[]⟩,.slice q n c,.slice none 0 0]) (by simp[results,Tryz.results34,go_sem,r0,r1,r2,r3,r4,r5,r6]) rfl ?_
 exact⟨rfl,aF w.heap.size (Nat.le_refl _) [.int .i64 5,.bool false,.slice none 0 0,.int .i64 0,.string ⟨#[]⟩,.slice q n c,.slice none 0 0] 0 W HB.out⟩
theorem xZ (A:Nat→Prop)(l:List JV)(aa:Option Addr)(c:Nat)(w W:World)(h:RdA (hideW A w) aa l)(hm:∀x ∈ l,mayJ 200 x=true)(sm:∀x ∈ l,SmallV x)(hn:l.length≤1048576)(hb:Below w.heap.size w W)(hIn:In A W) :
  Calls Tryz.prog 43 #[.slice aa l.length c] W fun e w'=>∃(q:Option Addr) (c':Nat),e=.returned (.slice q l.length c')∧RdA (hideW A w') q l∧(l.length≤c'∧c'≤9223372036854775807)∧Below W.heap.size W w':=by
 cases hl:l with
 | nil =>
  cases aa with
  | none =>
   refine (AnyE.slices_Clone_nil Tryz.laysSlE041_f37 0 c W).mono ?_
   rintro e w' ⟨rfl,rfl⟩
   exact⟨none,0,rfl,fun i x hx=>by simp at hx,⟨Nat.le_refl _,by omega⟩,Below.refl _ _⟩
  | some p =>
   refine (vT p c W).mono ?_
   rintro e w' ⟨q,c',rfl,h1,h2⟩
   exact⟨q,c',rfl,fun i x hx=>by simp at hx,⟨Nat.zero_le _,h1⟩,h2⟩
 | cons x0 l0 =>
  rw[←hl]
  obtain⟨b,off,rfl⟩:∃b off,aa=some ⟨b,off,none⟩:=by
   obtain⟨cs,⟨b,off,e,_⟩,_⟩:=h 0 x0 (by rw[hl];rfl)
   exact⟨b,off,e⟩
  obtain⟨E,e1,e3⟩:=Bg (l:=l) (k:=0) (fun i x hx=>by rw[Nat.zero_add];exact h i x hx) hm sm
  simp only[Nat.zero_add] at e3
  have hlen:l.length=E.length:=by rw[←e1];simp
  have:=zo b off c E W (fun i e he=>((e3 i e he).sub (aC A w)).sub (SubW.below hb)) (by omega)
  rw[hlen]
  refine this.mono ?_
  rintro e w' ⟨g,cap,cur,rfl,k1,k2,k3,k4,k5,k6,k7⟩
  have hf:(E.map fun e=>(⟨e.cs,e.v,e.rd⟩:ZE (hideW A w))).flatMap ZE.cs=E.flatMap VE.cs:=by rw[List.flatMap_map]
  have ho:w'.ownsRow W.heap.size 28 7 (.slice (some ⟨g,0,none⟩) E.length cap) (E.map fun e=>(⟨e.cs,e.v,e.rd⟩:ZE (hideW A w))).length ((E.map fun e=>(⟨e.cs,e.v,e.rd⟩:ZE (hideW A w))).flatMap ZE.cs):=by
   rw[hf,List.length_map]
   exact⟨iD E,.inr ⟨g,cap,cur,rfl,k1,k2,k3,k4,k5,k6⟩⟩
  have hr:=lQ (A:=A) hIn (az (A:=A) (A':=A) (fun _ _ h=>h) (ae hb k7)) ho
  rw[List.map_map] at hr
  have he:List.map (ZE.v ∘ fun e=>(⟨e.cs,e.v,e.rd⟩:ZE (hideW A w))) E=l:=by rw[←e1];rfl
  rw[he] at hr
  exact⟨some ⟨g,0,none⟩,cap,rfl,hr.1,⟨hr.2.2.1,hr.2.2.2⟩,k7⟩
theorem oD (p:Nat)(h:isPt p):Lib.encodeRune (p:Int)=encU p:=by
 unfold isPt at h
 unfold Lib.encodeRune encU encN u8L
 by_cases h1:p<128
 ·rw[Lib.encodeRuneZ_one (by omega) (by omega),if_pos h1]
  simp
 ·rw[if_neg h1]
  by_cases h2:p<2048
  ·rw[Lib.encodeRuneZ_two (by omega) (by omega),if_pos h2]
   simp only[List.map_cons,List.map_nil]
   congr 1
  ·rw[if_neg h2]
   by_cases h3:p<65536
   ·rw[Lib.encodeRuneZ_three (by omega),if_pos h3]
    rfl
   ·rw[Lib.encodeRuneZ_four (by omega) (by omega),if_neg h3]
    rfl
theorem uB (xk:Int)(xg:Bool)(xa:Option Addr)(xl xc:Nat)(xe:Int)(xs:ByteArray)(xaa:Option Addr)(xan xac:Nat)(xoa:Option Addr)(xon xoc:Nat)(yk:Int)(yg:Bool)(ya:Option Addr)(yl yc:Nat)(ye:Int)(ys:ByteArray)(yaa:Option Addr)(yan yac:Nat)(yoa:Option Addr)(yon yoc:Nat)(n:Nat)(r1 r2:Nat × Nat)(F T E:Nat)(w:World)
  (CA:∀W,Below w.heap.size w W→Calls Tryz.prog 123 #[.agg #[.int .i64 xk,.bool xg,.slice xa xl xc,.int .i64 xe,.string xs,.slice xaa xan xac,.slice xoa xon xoc],.bool false,.int .i64 n,.int .i64 0] W fun e w'=>e=.returned (.tuple #[.int .i64 (r1.1:Nat),.int .i64 (r1.2:Nat)])∧Below W.heap.size W w')
  (CB:∀W,Below w.heap.size w W→Calls Tryz.prog 123 #[.agg #[.int .i64 yk,.bool yg,.slice ya yl yc,.int .i64 ye,.string ys,.slice yaa yan yac,.slice yoa yon yoc],.bool true,.int .i64 n,.int .i64 n] W fun e w'=>e=.returned (.tuple #[.int .i64 (r2.1:Nat),.int .i64 (r2.2:Nat)])∧Below W.heap.size W w')
  (h1:r1.2≠0→F=0∧T=0∧E=r1.2)(h2:r1.2=0→F=r1.1∧T=max r1.1 r2.1∧E=r2.2) :
  Calls Tryz.prog 79 #[.agg #[.int .i64 xk,.bool xg,.slice xa xl xc,.int .i64 xe,.string xs,.slice xaa xan xac,.slice xoa xon xoc,.int .i64 yk,.bool yg,.slice ya yl yc,.int .i64 ye,.string ys,.slice yaa yan yac,.slice yoa yon yoc],.int .i64 n] w fun e w'=>e=.returned (.tuple #[.int .i64 F,.int .i64 T,.int .i64 E])∧Below w.heap.size w w':=by
 have hb0:=(Below.refl w.heap.size w).alloc (Nat.le_refl _) (.cells #[.int .i64 xk,.bool xg,.slice xa xl xc,.int .i64 xe,.string xs,.slice xaa xan xac,.slice xoa xon xoc,.int .i64 yk,.bool yg,.slice ya yl yc,.int .i64 ye,.string ys,.slice yaa yan yac,.slice yoa yon yoc] 79)
 have HB:=hid hb0
 have HX:=hid (aj w (.cells #[.int .i64 xk,.bool xg,.slice xa xl xc,.int .i64 xe,.string xs,.slice xaa xan xac,.slice xoa xon xoc,.int .i64 yk,.bool yg,.slice ya yl yc,.int .i64 ye,.string ys,.slice yaa yan yac,.slice yoa yon yoc] 79))
 replace CA:=hid CA
 replace CB:=hid CB
 replace h1:=hid h1
 replace h2:=hid h2
 obtain⟨r1,e1⟩:=r1
 obtain⟨r2,e2⟩:=r2
 dsimp only at CA CB h1 h2
 clear hb0
 go_enter Tryz.func79,Tryz.ntmps79
 go_wp2_with fail
 refine (CA.out _ HB.out).mono ?_
 rintro en w1 ⟨rfl,hb⟩
 have q1:=hid (ae HB.out hb)
 obtain⟨⟨p0,p1,p2,p3,p4,p5,p6,p7,p8,p9,p10,p11,p12,p13⟩,_⟩:=kH (af HX.out hb)
 clear hb HX HB CA
 go_wp2_with fail
 refine (CB.out _ q1.out).mono ?_
 rintro en w2 ⟨rfl,hb⟩
 have q2:=hid (ae q1.out hb)
 clear hb q1 CB p0 p1 p2 p3 p4 p5 p6 p7 p8 p9 p10 p11 p12 p13
 by_cases he:e1=0
 ·subst he
  obtain⟨rfl,hT,rfl⟩:=h2.out rfl
  have hT2:=hid (show ((T:Nat):Int)=max (F:Int) (r2:Int) by omega)
  clear h1 h2 hT
  go_wp2_with fail
  go_ret3
  rw[hT2.out]
  exact⟨rfl,q2.out⟩
 ·have hne:((e1:Int) != 0)=true:=by rw[bne_iff_ne];omega
  obtain⟨rfl,rfl,rfl⟩:=h1.out he
  clear h1 h2 he
  go_wp2_with fail
  go_ret3
  exact⟨rfl,q2.out⟩
theorem gu (a b:JV)(ca cb:List Value)(n:Nat)(w:World)(ra:RdV w ca a)(rb:RdV w cb b)(hn:n≤1152921504606846976)(htab:Pow w) :
  Calls Tryz.prog 79 #[.agg (ca ++ cb).toArray,.int .i64 n] w fun e w'=>e=.returned (.tuple #[.int .i64 ((boundsJ a b n).1:Nat),.int .i64 ((boundsJ a b n).2.1:Nat),.int .i64 ((boundsJ a b n).2.2:Nat)])∧Below w.heap.size w w':=by
 have C1:=fun W (hb:Below w.heap.size w W)=>lC a ca false n 0 W (ra.stay hb) hn (by omega) (htab.next hb)
 have C2:=fun W (hb:Below w.heap.size w W)=>lC b cb true n n W (rb.stay hb) hn hn (htab.next hb)
 obtain⟨xk,xg,xa,xl,xc,xe,xs,xaa,xan,xac,xoa,xon,xoc,rfl⟩:=ra.sevenB
 obtain⟨yk,yg,ya,yl,yc,ye,ys,yaa,yan,yac,yoa,yon,yoc,rfl⟩:=rb.sevenB
 refine uB xk xg xa xl xc xe xs xaa xan xac xoa xon xoc yk yg ya yl yc ye ys yaa yan yac yoa yon yoc n (boundJ a 1 n 0) (boundJ b 2 n n) (boundsJ a b n).1 (boundsJ a b n).2.1 (boundsJ a b n).2.2 w C1 C2 (fun h=>?_) (fun h=>?_)
 ·unfold boundsJ
  rw[if_pos h]
  exact⟨rfl,rfl,rfl⟩
 ·unfold boundsJ
  rw[if_neg (by omega)]
  exact⟨rfl,rfl,rfl⟩
theorem Ac (s:List UInt8)(f t:Nat)(w:World)(hs:s.length≤17592186044415)(hft:f≤t)(ht:t≤(pts s).length) :
  Calls Tryz.prog 81 #[.string ⟨s.toArray⟩,.int .i64 f,.int .i64 t] w fun e w'=>e=.returned (.string ⟨(u8L (encs (((pts s).take t).drop f))).toArray⟩)∧Below w.heap.size w w':=by
 have C:=hid (kW s w hs)
 have hpl:=qP s.length s (Nat.le_refl _)
 have hpp:=wV s.length s (Nat.le_refl _)
 obtain⟨sb,hsb⟩:∃sb:ByteArray,sb=⟨s.toArray⟩:=⟨_,rfl⟩
 rw[←hsb] at C ⊢
 clear hsb
 generalize pts s=ps at *
 obtain⟨L,hL⟩:∃L,L=(ps.take t).drop f:=⟨_,rfl⟩
 obtain⟨T,hT⟩:∃T,T=u8L (encs L):=⟨_,rfl⟩
 rw[←hL,←hT]
 have hLl:L.length=t-f:=by rw[hL,List.length_drop,List.length_take];omega
 have hLp:=hid (show ∀p ∈ L,isPt p from fun p hp=>hpp p (List.mem_of_mem_take (List.mem_of_mem_drop (by rw[←hL];exact hp))))
 have hLi:=hid (show ∀(i:Nat) (p:Nat),L[i]? = some p→ps[f+i]? = some p from fun i p hi=>by
  rw[hL,List.getElem?_drop,List.getElem?_take] at hi
  split at hi
  ·exact hi
  ·cases hi)
 replace hL:=hid hL
 replace hT:=hid hT
 have hLL:=hid hLl
 clear hpp
 obtain⟨n,hn⟩:∃n,n=ps.length:=⟨_,rfl⟩
 rw[←hn] at ht hpl
 replace hn:=hid hn
 clear hLl
 go_enter Tryz.func81,Tryz.ntmps81
 rw[←hn.out] at C
 replace C:=hid C.out
 go_upto_region 2 with fail
 refine C.out.mono ?_
 rintro e w1 ⟨a,cap,rfl,hb,ho⟩
 replace hb:=hid hb
 replace ho:=hid ho
 go_upto_region 2 with fail
 go_cut [1,2] from 11 (fun v1 v2 w'=>v1=.int .i64 f∧v2=.int .i64 t∧w'=w1)
 case first =>
  go_wp2_with fail
  go_meet
  case rel=>exact⟨by congr 1;omega,by congr 1;omega,rfl⟩
 case rest =>
  obtain⟨rfl,rfl,hw1⟩:=hcut
  subst hw1
  clear C
  by_cases he:t≤f
  ·have hle:(t:Int)≤(f:Int):=by omega
   have hT0:Hid (T=[]):=by
    have:L=[]:=List.eq_nil_of_length_eq_zero (by rw[hLL.out];omega)
    rw[hT.out,this]
    rfl
   go_wp2_with fail
   go_ret
   rw[hT0.out]
   exact⟨rfl,hb.out⟩
  ·have hle:¬ (t:Int)≤(f:Int):=by omega
   obtain⟨g,cur,rfl,hg,hh,hc1,hc2,htk⟩:∃g cur,a=some ⟨g,0,none⟩∧w.heap.size≤g∧wc.heap[g]? = some (.cells cur 3 (0,0))∧n≤cap∧cap≤9223372036854775807∧cur.toList.take (n * 1)=i64s ps:=by
    obtain⟨_,⟨_,h0⟩ | ⟨g,c2,cur,hv,hg,hh,h3,h4,h5,h6⟩⟩:=ho.out
    ·omega
    ·injection hv with e1 _ e3
     subst e1 e3
     exact⟨g,cur,rfl,hg,hh,h3,h4,h6⟩
   have hRow:=hid (show ∀(i p:Nat),L[i]? = some p→wc.cell? ⟨g,f+i,none⟩=some (.int .i64 p) from fun i p hi=>by
    have h1:=hLi.out i p hi
    have hlt:=(List.getElem?_eq_some_iff.1 h1).1
    have h2:(i64s ps)[f+i]? = some (.int .i64 (p:Nat)):=by unfold i64s;rw[List.getElem?_map,h1];rfl
    rw[←htk,Nat.mul_one,List.getElem?_take_of_lt (by have:=hn.out;omega),Array.getElem?_toList] at h2
    simp only[World.cell?,hh]
    simpa using h2)
   have hgl:=aA hh
   have hfc:¬ cap=f:=by omega
   have htc:t≤cap:=by omega
   replace htk:=hid htk
   have hbk0:=aj wc (.cells #[.pointer none,.slice none 0 0] 154)
   have hb1:=(Below.refl wc.heap.size wc).alloc (Nat.le_refl _) (.cells #[.pointer none,.slice none 0 0] 154)
   obtain⟨W,hW⟩:∃W,W=wc.alloc (.cells #[.pointer none,.slice none 0 0] 154):=⟨_,rfl⟩
   rw[←hW] at hbk0 hb1
   have hsz:wc.heap.size+1≤W.heap.size:=by rw[hW];simp
   replace hW:=hid hW.symm
   obtain⟨S,hS⟩:∃S,S=wc.heap.size:=⟨_,rfl⟩
   have hbd0:=hid (Bld.fresh (C:=wc.heap.size+1) hbk0 (by omega))
   have HB1:=hid (ae hb.out hb1)
   have hwS:=hb.out.size
   have hRow1:=hid (show ∀(i p:Nat),L[i]? = some p→W.cell? ⟨g,f+i,none⟩=some (.int .i64 p) from fun i p hi=>ai (hRow.out i p hi) hb1)
   clear hbk0 hb1 hh
   go_upto_region 6 with fail
   rw[hW.out]
   go_upto_region 7 with fail
   rw[←hS] at hbd0 hwS hgl hsz ⊢
   clear hS hW hb ho hRow
   go_loopw [10,31] (fun _ v31 wr=>∃i:Nat,i≤t-f∧v31=.int .i64 i∧Hid (Bld (S+1) S (u8L (encs (L.take i))) wr)∧Hid (Below w.heap.size w wr)∧Hid (∀(i p:Nat),L[i]? = some p→wr.cell? ⟨g,f+i,none⟩=some (.int .i64 p))∧S+1≤wr.heap.size) (fun _ v31 _=>(t-f)-(intOf v31).toNat)
   case atStart=>exact⟨0,Nat.zero_le _,rfl,hbd0,HB1,hRow1,hsz⟩
   case round =>
    obtain⟨i,hi,rfl,hbd,hB,hR,hsw⟩:=hrel
    clear hbd0 HB1 hRow1 hsz
    by_cases hlt:i<t-f
    ·have hlt2:(i:Int)<((t-f:Nat):Int):=by omega
     have hi1:i<L.length:=by rw[hLL.out];exact hlt
     obtain⟨p,hp⟩:∃p,p=L[i]:=⟨_,rfl⟩
     have hpi:L[i]? = some p:=by rw[hp];exact List.getElem?_eq_getElem hi1
     have hc:=hR.out i p hpi
     have hpt:=hLp.out p (List.mem_of_getElem? hpi)
     have hst:=zn L hpi
     have hlen:(u8L (encs (L.take i))).length+4≤140737488355328:=by
      have:=yQ (L.take i)
      have h2:=List.length_take_le i L
      unfold u8L
      rw[List.length_map]
      omega
     have hp31:p≤1114111:=by unfold isPt at hpt;omega
     have CW:=WriteRune _ _ _ (p:Int) (by omega) (by omega) wr hbd.out hlen hsw
     rw[oD p hpt,←hst] at CW
     replace CW:=hid CW
     have hcl:=ax hc
     have hwr:IntKind.i32.wrap (p:Int)=(p:Int):=by
      simp[IntKind.wrap,IntKind.bits,IntKind.signed]
      omega
     clear hpi hp hpt hst hlen
     go_wp2_with fail
     refine CW.out.mono ?_
     rintro e w2 ⟨nn,rfl,hbd2,hx2⟩
     have hbd3:=hid hbd2
     have hB3:=hid (hB.out.trans (hx2.below hwS (by omega)))
     have hR3:=hid (show ∀(i p:Nat),L[i]? = some p→w2.cell? ⟨g,f+i,none⟩=some (.int .i64 p) from fun i p hi=>by
      have e:=hx2.block g (by omega) (by omega)
      have h:=hR.out i p hi
      unfold World.cell? at h ⊢
      rw[e]
      exact h)
     have hsw3:=Nat.le_trans hsw hx2.size
     clear hbd2 hx2 CW hbd hB hR
     go_wp2_with fail
     go_roundw
     case rel=>exact⟨i+1,by omega,by go_num,hbd3,hB3,hR3,hsw3⟩
     case measure=>simp[intOf];omega
    ·obtain rfl:i=t-f:=by omega
     have hlt2:¬ ((t-f:Nat):Int)<((t-f:Nat):Int):=by omega
     have hbd2:=hbd.out
     rw[List.take_of_length_le (by rw[hLL.out];exact Nat.le_refl _),←hT.out] at hbd2
     have CS:=hid (EL _ _ _ _ hbd2)
     clear hbd hbd2 hR
     go_wp2_with fail
     refine CS.out.mono ?_
     rintro e w3 ⟨rfl,hb3⟩
     have HB3:=hid (hB.out.trans (hb3.mono hwS))
     clear hb3
     go_wp2_with fail
     go_ret
     exact⟨rfl,HB3.out⟩
theorem wO (xk:Int)(xg:Bool)(xa:Option Addr)(xl xc:Nat)(xe:Int)(xs:ByteArray)(xaa:Option Addr)(xan xac:Nat)(xoa:Option Addr)(xon xoc:Nat)(yk:Int)(yg:Bool)(ya:Option Addr)(yl yc:Nat)(ye:Int)(ys:ByteArray)(yaa:Option Addr)(yan yac:Nat)(yoa:Option Addr)(yon yoc:Nat)(zk:Int)(zg:Bool)(za:Option Addr)(zl zc:Nat)(ze:Int)(zs:ByteArray)(zaa:Option Addr)(zan zac:Nat)(zoa:Option Addr)(zon zoc:Nat)(w:World)(Q:Ending→World→Prop)(hk5:xk≠5)(hk4:xk≠4)
  (h0:xk=0→∀W,Below w.heap.size w W→Q (.returned (.tuple #[.agg #[.int .i64 xk,.bool xg,.slice xa xl xc,.int .i64 xe,.string xs,.slice xaa xan xac,.slice xoa xon xoc],.int .i64 0])) (W.setCells (w.heap.size+1+1) 0 [.int .i64 xk,.bool xg,.slice xa xl xc,.int .i64 xe,.string xs,.slice xaa xan xac,.slice xoa xon xoc]))
  (hn:xk≠0→∀W,Below w.heap.size w W→Q (.returned (.tuple #[.agg #[.int .i64 0,.bool false,.slice none 0 0,.int .i64 0,.string ⟨#[]⟩,.slice none 0 0,.slice none 0 0],.int .i64 9])) (W.setCells (w.heap.size+1+1) 0 [.int .i64 0,.bool false,.slice none 0 0,.int .i64 0,.string ⟨#[]⟩,.slice none 0 0,.slice none 0 0])) :
  Calls Tryz.prog 50 #[.agg #[.int .i64 xk,.bool xg,.slice xa xl xc,.int .i64 xe,.string xs,.slice xaa xan xac,.slice xoa xon xoc],.agg #[.int .i64 yk,.bool yg,.slice ya yl yc,.int .i64 ye,.string ys,.slice yaa yan yac,.slice yoa yon yoc,.int .i64 zk,.bool zg,.slice za zl zc,.int .i64 ze,.string zs,.slice zaa zan zac,.slice zoa zon zoc]] w Q:=by
 obtain⟨W,hW⟩:∃W,W=((w.alloc (.cells #[.int .i64 xk,.bool xg,.slice xa xl xc,.int .i64 xe,.string xs,.slice xaa xan xac,.slice xoa xon xoc] 28)).alloc (.cells #[.int .i64 yk,.bool yg,.slice ya yl yc,.int .i64 ye,.string ys,.slice yaa yan yac,.slice yoa yon yoc,.int .i64 zk,.bool zg,.slice za zl zc,.int .i64 ze,.string zs,.slice zaa zan zac,.slice zoa zon zoc] 79)).alloc (.cells #[.int .i64 0,.bool false,.slice none 0 0,.int .i64 0,.string ⟨#[]⟩,.slice none 0 0,.slice none 0 0] 28):=⟨_,rfl⟩
 obtain⟨b0,b1,b2,b3⟩:=eP w #[.int .i64 xk,.bool xg,.slice xa xl xc,.int .i64 xe,.string xs,.slice xaa xan xac,.slice xoa xon xoc] #[.int .i64 yk,.bool yg,.slice ya yl yc,.int .i64 ye,.string ys,.slice yaa yan yac,.slice yoa yon yoc,.int .i64 zk,.bool zg,.slice za zl zc,.int .i64 ze,.string zs,.slice zaa zan zac,.slice zoa zon zoc] #[.int .i64 0,.bool false,.slice none 0 0,.int .i64 0,.string ⟨#[]⟩,.slice none 0 0,.slice none 0 0] 28 79 28
 rw[←hW] at b0 b1 b2 b3
 have HB:=hid b0
 replace hW:=hid hW.symm
 obtain⟨⟨p0,p1,p2,p3,p4,p5,p6⟩,_⟩:=ag b1
 obtain⟨⟨r0,r1,r2,r3,r4,r5,r6⟩,s0,s1,s2,s3,s4,s5,s6⟩:=ag b3
 clear b0 b1 b2 b3
 have f5:(xk == 5)=false:=by rw[beq_eq_false_iff_ne];exact hk5
 have f4:(xk == 4)=false:=by rw[beq_eq_false_iff_ne];exact hk4
 clear hk5 hk4
 by_cases hk0:xk=0
 ·have hq:=hid (h0 hk0)
  subst hk0
  clear h0 hn f5 f4
  go_enter Tryz.func50,Tryz.ntmps50
  go_upto_region 1 with fail
  rw[hW.out]
  go_wp2_with fail
  refine bodyPost_ret (v:=.tuple #[.agg #[.int .i64 0,.bool xg,.slice xa xl xc,.int .i64 xe,.string xs,.slice xaa xan xac,.slice xoa xon xoc],.int .i64 0]) (by simp[results,Tryz.results50,go_sem,r0,r1,r2,r3,r4,r5,r6]) rfl ?_
  exact hq.out _ HB.out
 ·have hq:=hid (hn hk0)
  have f0:(xk == 0)=false:=by rw[beq_eq_false_iff_ne];exact hk0
  clear h0 hn hk0
  go_enter Tryz.func50,Tryz.ntmps50
  go_upto_region 1 with fail
  rw[hW.out]
  go_wp2_with fail
  refine bodyPost_ret (v:=.tuple #[.agg #[.int .i64 0,.bool false,.slice none 0 0,.int .i64 0,.string ⟨#[]⟩,.slice none 0 0,.slice none 0 0],.int .i64 9]) (by simp[results,Tryz.results50,go_sem,r0,r1,r2,r3,r4,r5,r6]) rfl ?_
  exact hq.out _ HB.out
theorem GK (xk:Int)(xg:Bool)(xa:Option Addr)(xl xc:Nat)(xe:Int)(xs:ByteArray)(xaa:Option Addr)(xan xac:Nat)(xoa:Option Addr)(xon xoc:Nat)(yk:Int)(yg:Bool)(ya:Option Addr)(yl yc:Nat)(ye:Int)(ys:ByteArray)(yaa:Option Addr)(yan yac:Nat)(yoa:Option Addr)(yon yoc:Nat)(zk:Int)(zg:Bool)(za:Option Addr)(zl zc:Nat)(ze:Int)(zs:ByteArray)(zaa:Option Addr)(zan zac:Nat)(zoa:Option Addr)(zon zoc:Nat)(F T E:Nat)(w:World)(Q:Ending→World→Prop)(R:World→Option Addr→Nat→Prop)(hk:xk=5)(hcap:xan≤xac∧xac≤9223372036854775807)(hFT:F≤T)(hT:T≤xan)
  (CB:∀W,Below w.heap.size w W→Calls Tryz.prog 79 #[.agg #[.int .i64 yk,.bool yg,.slice ya yl yc,.int .i64 ye,.string ys,.slice yaa yan yac,.slice yoa yon yoc,.int .i64 zk,.bool zg,.slice za zl zc,.int .i64 ze,.string zs,.slice zaa zan zac,.slice zoa zon zoc],.int .i64 xan] W fun e w'=>e=.returned (.tuple #[.int .i64 F,.int .i64 T,.int .i64 E])∧Below W.heap.size W w')
  (CC:E=0→∀W,Below w.heap.size w W→w.heap.size+1+1<W.heap.size→Calls Tryz.prog 43 #[.slice (if xac=F then xaa else xaa.map (fun x=>x.add (F * 7))) (T-F) (xac-F)] W fun e w'=>∃(q:Option Addr) (c':Nat),e=.returned (.slice q (T-F) c')∧R w' q c'∧Below W.heap.size W w')
  (hn:E≠0→∀W,Below w.heap.size w W→Q (.returned (.tuple #[.agg #[.int .i64 0,.bool false,.slice none 0 0,.int .i64 0,.string ⟨#[]⟩,.slice none 0 0,.slice none 0 0],.int .i64 E])) (W.setCells (w.heap.size+1+1) 0 [.int .i64 0,.bool false,.slice none 0 0,.int .i64 0,.string ⟨#[]⟩,.slice none 0 0,.slice none 0 0]))
  (hR:E=0→∀W0 W q c',R W0 q c'→Below w.heap.size w W0→Below W0.heap.size W0 W→Q (.returned (.tuple #[.agg #[.int .i64 5,.bool false,.slice none 0 0,.int .i64 0,.string ⟨#[]⟩,.slice q (T-F) c',.slice none 0 0],.int .i64 0])) (W.setCells (w.heap.size+1+1) 0 [.int .i64 5,.bool false,.slice none 0 0,.int .i64 0,.string ⟨#[]⟩,.slice q (T-F) c',.slice none 0 0])) :
  Calls Tryz.prog 50 #[.agg #[.int .i64 xk,.bool xg,.slice xa xl xc,.int .i64 xe,.string xs,.slice xaa xan xac,.slice xoa xon xoc],.agg #[.int .i64 yk,.bool yg,.slice ya yl yc,.int .i64 ye,.string ys,.slice yaa yan yac,.slice yoa yon yoc,.int .i64 zk,.bool zg,.slice za zl zc,.int .i64 ze,.string zs,.slice zaa zan zac,.slice zoa zon zoc]] w Q:=by
 subst hk
 obtain⟨W,hW⟩:∃W,W=((w.alloc (.cells #[.int .i64 5,.bool xg,.slice xa xl xc,.int .i64 xe,.string xs,.slice xaa xan xac,.slice xoa xon xoc] 28)).alloc (.cells #[.int .i64 yk,.bool yg,.slice ya yl yc,.int .i64 ye,.string ys,.slice yaa yan yac,.slice yoa yon yoc,.int .i64 zk,.bool zg,.slice za zl zc,.int .i64 ze,.string zs,.slice zaa zan zac,.slice zoa zon zoc] 79)).alloc (.cells #[.int .i64 0,.bool false,.slice none 0 0,.int .i64 0,.string ⟨#[]⟩,.slice none 0 0,.slice none 0 0] 28):=⟨_,rfl⟩
 obtain⟨b0,b1,b2,b3⟩:=eP w #[.int .i64 5,.bool xg,.slice xa xl xc,.int .i64 xe,.string xs,.slice xaa xan xac,.slice xoa xon xoc] #[.int .i64 yk,.bool yg,.slice ya yl yc,.int .i64 ye,.string ys,.slice yaa yan yac,.slice yoa yon yoc,.int .i64 zk,.bool zg,.slice za zl zc,.int .i64 ze,.string zs,.slice zaa zan zac,.slice zoa zon zoc] #[.int .i64 0,.bool false,.slice none 0 0,.int .i64 0,.string ⟨#[]⟩,.slice none 0 0,.slice none 0 0] 28 79 28
 rw[←hW] at b0 b1 b2 b3
 have HB:=hid b0
 have HX:=hid b1
 have HY:=hid b2
 have HZ:=hid b3
 replace hW:=hid hW.symm
 clear b0 b1 b2 b3
 replace CB:=hid CB
 replace CC:=hid CC
 replace hn:=hid hn
 replace hR:=hid hR
 obtain⟨⟨p0,p1,p2,p3,p4,p5,p6⟩,_⟩:=ag HX.out
 obtain⟨⟨y0,y1,y2,y3,y4,y5,y6,y7,y8,y9,y10,y11,y12,y13⟩,_⟩:=kH HY.out
 go_enter Tryz.func50,Tryz.ntmps50
 go_upto_region 1 with fail
 rw[hW.out]
 go_upto_region 6 with fail
 refine (CB.out _ HB.out).mono ?_
 rintro en w1 ⟨rfl,hb⟩
 have q1:=hid (ae HB.out hb)
 have z1:=hid (af HZ.out hb)
 have x1:=hid (af HX.out hb)
 clear hb HB HX HY HZ hW p0 p1 p2 p3 p4 p5 p6 y0 y1 y2 y3 y4 y5 y6 y7 y8 y9 y10 y11 y12 y13 CB
 obtain⟨⟨p0,p1,p2,p3,p4,p5,p6⟩,_⟩:=ag x1.out
 by_cases he:E=0
 rotate_left
 ·have g:((E:Int) != 0)=true:=by rw[bne_iff_ne];omega
  have hq:=hid (hn.out he)
  obtain⟨⟨r0,r1,r2,r3,r4,r5,r6⟩,s0,s1,s2,s3,s4,s5,s6⟩:=ag z1.out
  clear hn hR CC he
  go_wp2_with fail
  refine bodyPost_ret (v:=.tuple #[.agg #[.int .i64 0,.bool false,.slice none 0 0,.int .i64 0,.string ⟨#[]⟩,.slice none 0 0,.slice none 0 0],.int .i64 E]) (by simp[results,Tryz.results50,go_sem,r0,r1,r2,r3,r4,r5,r6]) rfl ?_
  exact hq.out _ q1.out
 have C:=hid (CC.out he _ q1.out (aA z1.out))
 have hR2:=hid (hR.out he)
 subst he
 clear hn hR CC
 obtain⟨hc1,hc2⟩:=hcap
 have hTc:T≤xac:=by omega
 by_cases hcF:xac=F
 ·have C2:=C.out
  rw[if_pos hcF,hcF,Nat.sub_self] at C2
  replace C2:=hid C2
  clear C
  go_upto_region 8 with fail
  go_wp2_with fail
  refine C2.out.mono ?_
  rintro en w2 ⟨q,c',rfl,hr,hb⟩
  have q2:=hid (ae q1.out hb)
  have z2:=hid (af z1.out hb)
  replace hr:=hid hr
  clear hb p0 p1 p2 p3 p4 p5 p6 C2
  go_wp2_with fail
  refine (bz q (T-F) c' w2).mono ?_
  rintro en w3 ⟨rfl,hb⟩
  obtain⟨⟨r0,r1,r2,r3,r4,r5,r6⟩,s0,s1,s2,s3,s4,s5,s6⟩:=ag (af z2.out hb)
  have hF:=hid (hR2.out w2 w3 q c' hr.out q2.out hb)
  clear hb
  go_wp2_with fail
  refine bodyPost_ret (v:=.tuple #[.agg #[.int .i64 5,.bool false,.slice none 0 0,.int .i64 0,.string ⟨#[]⟩,.slice q (T-F) c',.slice none 0 0],.int .i64 0]) (by simp[results,Tryz.results50,go_sem,r0,r1,r2,r3,r4,r5,r6]) rfl ?_
  exact hF.out
 ·have C2:=C.out
  rw[if_neg hcF] at C2
  replace C2:=hid C2
  clear C
  go_upto_region 8 with fail
  go_wp2_with fail
  refine C2.out.mono ?_
  rintro en w2 ⟨q,c',rfl,hr,hb⟩
  have q2:=hid (ae q1.out hb)
  have z2:=hid (af z1.out hb)
  replace hr:=hid hr
  clear hb p0 p1 p2 p3 p4 p5 p6 C2
  go_wp2_with fail
  refine (bz q (T-F) c' w2).mono ?_
  rintro en w3 ⟨rfl,hb⟩
  obtain⟨⟨r0,r1,r2,r3,r4,r5,r6⟩,s0,s1,s2,s3,s4,s5,s6⟩:=ag (af z2.out hb)
  have hF:=hid (hR2.out w2 w3 q c' hr.out q2.out hb)
  clear hb
  go_wp2_with fail
  refine bodyPost_ret (v:=.tuple #[.agg #[.int .i64 5,.bool false,.slice none 0 0,.int .i64 0,.string ⟨#[]⟩,.slice q (T-F) c',.slice none 0 0],.int .i64 0]) (by simp[results,Tryz.results50,go_sem,r0,r1,r2,r3,r4,r5,r6]) rfl ?_
  exact hF.out
theorem Aa (xk:Int)(xg:Bool)(xa:Option Addr)(xl xc:Nat)(xe:Int)(xs:ByteArray)(xaa:Option Addr)(xan xac:Nat)(xoa:Option Addr)(xon xoc:Nat)(yk:Int)(yg:Bool)(ya:Option Addr)(yl yc:Nat)(ye:Int)(ys:ByteArray)(yaa:Option Addr)(yan yac:Nat)(yoa:Option Addr)(yon yoc:Nat)(zk:Int)(zg:Bool)(za:Option Addr)(zl zc:Nat)(ze:Int)(zs:ByteArray)(zaa:Option Addr)(zan zac:Nat)(zoa:Option Addr)(zon zoc:Nat)(n F T E:Nat)(tb:ByteArray)(w:World)(Q:Ending→World→Prop)(hk:xk=4)
  (CE:∀W,Below w.heap.size w W→Calls Tryz.prog 80 #[.string xs] W fun e w'=>∃(a:Option Addr) (c:Nat),e=.returned (.slice a n c)∧Below W.heap.size W w')
  (CB:∀W,Below w.heap.size w W→Calls Tryz.prog 79 #[.agg #[.int .i64 yk,.bool yg,.slice ya yl yc,.int .i64 ye,.string ys,.slice yaa yan yac,.slice yoa yon yoc,.int .i64 zk,.bool zg,.slice za zl zc,.int .i64 ze,.string zs,.slice zaa zan zac,.slice zoa zon zoc],.int .i64 n] W fun e w'=>e=.returned (.tuple #[.int .i64 F,.int .i64 T,.int .i64 E])∧Below W.heap.size W w')
  (CS:E=0→∀W,Below w.heap.size w W→Calls Tryz.prog 81 #[.string xs,.int .i64 F,.int .i64 T] W fun e w'=>e=.returned (.string tb)∧Below W.heap.size W w')
  (hn:E≠0→∀W,Below w.heap.size w W→Q (.returned (.tuple #[.agg #[.int .i64 0,.bool false,.slice none 0 0,.int .i64 0,.string ⟨#[]⟩,.slice none 0 0,.slice none 0 0],.int .i64 E])) (W.setCells (w.heap.size+1+1) 0 [.int .i64 0,.bool false,.slice none 0 0,.int .i64 0,.string ⟨#[]⟩,.slice none 0 0,.slice none 0 0]))
  (hR:E=0→∀W,Below w.heap.size w W→Q (.returned (.tuple #[.agg #[.int .i64 4,.bool false,.slice none 0 0,.int .i64 0,.string tb,.slice none 0 0,.slice none 0 0],.int .i64 0])) (W.setCells (w.heap.size+1+1) 0 [.int .i64 4,.bool false,.slice none 0 0,.int .i64 0,.string tb,.slice none 0 0,.slice none 0 0])) :
  Calls Tryz.prog 50 #[.agg #[.int .i64 xk,.bool xg,.slice xa xl xc,.int .i64 xe,.string xs,.slice xaa xan xac,.slice xoa xon xoc],.agg #[.int .i64 yk,.bool yg,.slice ya yl yc,.int .i64 ye,.string ys,.slice yaa yan yac,.slice yoa yon yoc,.int .i64 zk,.bool zg,.slice za zl zc,.int .i64 ze,.string zs,.slice zaa zan zac,.slice zoa zon zoc]] w Q:=by
 subst hk
 obtain⟨W,hW⟩:∃W,W=((w.alloc (.cells #[.int .i64 4,.bool xg,.slice xa xl xc,.int .i64 xe,.string xs,.slice xaa xan xac,.slice xoa xon xoc] 28)).alloc (.cells #[.int .i64 yk,.bool yg,.slice ya yl yc,.int .i64 ye,.string ys,.slice yaa yan yac,.slice yoa yon yoc,.int .i64 zk,.bool zg,.slice za zl zc,.int .i64 ze,.string zs,.slice zaa zan zac,.slice zoa zon zoc] 79)).alloc (.cells #[.int .i64 0,.bool false,.slice none 0 0,.int .i64 0,.string ⟨#[]⟩,.slice none 0 0,.slice none 0 0] 28):=⟨_,rfl⟩
 obtain⟨b0,b1,b2,b3⟩:=eP w #[.int .i64 4,.bool xg,.slice xa xl xc,.int .i64 xe,.string xs,.slice xaa xan xac,.slice xoa xon xoc] #[.int .i64 yk,.bool yg,.slice ya yl yc,.int .i64 ye,.string ys,.slice yaa yan yac,.slice yoa yon yoc,.int .i64 zk,.bool zg,.slice za zl zc,.int .i64 ze,.string zs,.slice zaa zan zac,.slice zoa zon zoc] #[.int .i64 0,.bool false,.slice none 0 0,.int .i64 0,.string ⟨#[]⟩,.slice none 0 0,.slice none 0 0] 28 79 28
 rw[←hW] at b0 b1 b2 b3
 have HB:=hid b0
 have HX:=hid b1
 have HY:=hid b2
 have HZ:=hid b3
 replace hW:=hid hW.symm
 clear b0 b1 b2 b3
 have CE2:=hid fun W' (hb:Below W.heap.size W W')=>CE W' (ae HB.out hb)
 have CB2:=hid fun W' (hb:Below W.heap.size W W')=>CB W' (ae HB.out hb)
 replace CS:=hid CS
 replace hn:=hid hn
 replace hR:=hid hR
 clear CE CB
 obtain⟨⟨p0,p1,p2,p3,p4,p5,p6⟩,_⟩:=ag HX.out
 obtain⟨⟨y0,y1,y2,y3,y4,y5,y6,y7,y8,y9,y10,y11,y12,y13⟩,_⟩:=kH HY.out
 go_enter Tryz.func50,Tryz.ntmps50
 go_upto_region 1 with fail
 rw[hW.out]
 go_upto_region 10 with fail
 go_region_held3 (fun W'=>W'.cell? ⟨w.heap.size,0,none⟩=some (.int .i64 4)∧W'.cell? ⟨w.heap.size,4,none⟩=some (.string xs)∧W'.cell? ⟨w.heap.size+1,0,none⟩=some (.int .i64 yk)∧W'.cell? ⟨w.heap.size+1,1,none⟩=some (.bool yg)∧W'.cell? ⟨w.heap.size+1,2,none⟩=some (.slice ya yl yc)∧W'.cell? ⟨w.heap.size+1,3,none⟩=some (.int .i64 ye)∧W'.cell? ⟨w.heap.size+1,4,none⟩=some (.string ys)∧W'.cell? ⟨w.heap.size+1,5,none⟩=some (.slice yaa yan yac)∧W'.cell? ⟨w.heap.size+1,6,none⟩=some (.slice yoa yon yoc)∧W'.cell? ⟨w.heap.size+1,7,none⟩=some (.int .i64 zk)∧W'.cell? ⟨w.heap.size+1,8,none⟩=some (.bool zg)∧W'.cell? ⟨w.heap.size+1,9,none⟩=some (.slice za zl zc)∧W'.cell? ⟨w.heap.size+1,10,none⟩=some (.int .i64 ze)∧W'.cell? ⟨w.heap.size+1,11,none⟩=some (.string zs)∧W'.cell? ⟨w.heap.size+1,12,none⟩=some (.slice zaa zan zac)∧W'.cell? ⟨w.heap.size+1,13,none⟩=some (.slice zoa zon zoc)∧Below W.heap.size W W') (first | (exact⟨p0,p4,y0,y1,y2,y3,y4,y5,y6,y7,y8,y9,y10,y11,y12,y13,(Below.refl _ _).drew⟩) | (exact Em (by assumption) (by assumption)) | assumption) (first | (go_at_call 80;(with_reducible refine (CE2.out _ ?_).mono ?_);(simp only[*]);rintro e3 w3 ⟨a3,c3,rfl,hb3⟩) | (go_at_call 79;(with_reducible refine (CB2.out _ ?_).mono ?_);(simp only[*]);rintro e4 w4 ⟨rfl,hb4⟩))
 all_goals
  rename_i hHeld
  have hb5:=hHeld.2.2.2.2.2.2.2.2.2.2.2.2.2.2.2.2
  have q1:=hid (ae HB.out hb5)
  have z1:=hid (af HZ.out hb5)
  have x1:=hid (af HX.out hb5)
  clear hHeld hb5 HB HX HY HZ hW p0 p1 p2 p3 p4 p5 p6 y0 y1 y2 y3 y4 y5 y6 y7 y8 y9 y10 y11 y12 y13 CB2 CE2
  by_cases he:E=0
  rotate_left
  ·have g:((E:Int) != 0)=true:=by rw[bne_iff_ne];omega
   have hq:=hid (hn.out he)
   obtain⟨⟨r0,r1,r2,r3,r4,r5,r6⟩,s0,s1,s2,s3,s4,s5,s6⟩:=ag z1.out
   clear hn hR CS he
   go_wp2_with fail
   refine bodyPost_ret (v:=.tuple #[.agg #[.int .i64 0,.bool false,.slice none 0 0,.int .i64 0,.string ⟨#[]⟩,.slice none 0 0,.slice none 0 0],.int .i64 E]) (by simp[results,Tryz.results50,go_sem,r0,r1,r2,r3,r4,r5,r6]) rfl ?_
   exact hq.out _ q1.out
  have C:=hid (CS.out he _ q1.out)
  have hR2:=hid (hR.out he)
  subst he
  clear hn hR CS
  obtain⟨⟨p0,p1,p2,p3,p4,p5,p6⟩,_⟩:=ag x1.out
  go_wp2_with fail
  refine C.out.mono ?_
  rintro en w5 ⟨rfl,hb⟩
  have q2:=hid (ae q1.out hb)
  obtain⟨⟨r0,r1,r2,r3,r4,r5,r6⟩,s0,s1,s2,s3,s4,s5,s6⟩:=ag (af z1.out hb)
  clear hb p0 p1 p2 p3 p4 p5 p6 C
  go_wp2_with fail
  refine bodyPost_ret (v:=.tuple #[.agg #[.int .i64 4,.bool false,.slice none 0 0,.int .i64 0,.string tb,.slice none 0 0,.slice none 0 0],.int .i64 0]) (by simp[results,Tryz.results50,go_sem,r0,r1,r2,r3,r4,r5,r6]) rfl ?_
  exact hR2.out _ q2.out
theorem sZ {A:Nat→Prop}{w:World}{s:List UInt8}(h:s.length≤9223372036854775807):RdX A w [.int .i64 4,.bool false,.slice none 0 0,.int .i64 0,.string ⟨s.toArray⟩,.slice none 0 0,.slice none 0 0] (textJ2 s) :=
 PartsV.rd (v:=textJ2 s) (a:=none) (c:=0) (aa:=none) (ac:=0) (oa:=none) (oc:=0) ⟨rfl,by unfold I64;simp[textJ2,JV.kind],by unfold I64;simp[textJ2,JV.e],h,by simp[textJ2,JV.arr],by simp[textJ2,JV.obj],by simp[textJ2,JV.ls],⟨Row.nil _ _,fun x hx=>by cases hx⟩,fun i x hx=>by simp[textJ2,JV.arr] at hx,fun i x hx=>by simp[textJ2,JV.obj] at hx⟩
theorem fC {v:JV}(h:mayJ 200 v=true)(h4:v.kind=4):soundB v.s=true:=by
 have:=fG h
 simp only[baseB,Bool.and_eq_true] at this
 have h3:=this.1.1.2
 rw[if_pos h4] at h3
 exact h3
theorem wP (A:Nat→Prop)(v a b:JV)(cs ca cb:List Value)(w:World)(hIn:In A w)(hv:mayJ 200 v=true)(sv:SmallV v)(rv:RdX A w cs v)(ra:RdV w ca a)(rb:RdV w cb b)(hT:Tabs w) :
  Calls Tryz.prog 50 #[.agg cs.toArray,.agg (ca ++ cb).toArray] w (OutX A w (takeS v (.slc a b)).1 (takeS v (.slc a b)).2):=by
 have htx:=ed sv (.slc a b) (fun h4=>fC hv h4)
 obtain⟨va,vc,aa,ac,oa,oc,P⟩:=rv.parts
 have e:=P.cells
 subst e
 have hal:=sv.al
 have hsl:=sv.sl
 have CBn:=fun n (hn:n≤1152921504606846976) W (hb:Below w.heap.size w W)=>gu a b ca cb n W (ra.stay hb) (rb.stay hb) hn (hT.below hb).2
 obtain⟨yk,yg,ya,yl,yc,ye,ys,yaa,yan,yac,yoa,yon,yoc,rfl⟩:=ra.sevenB
 obtain⟨zk,zg,za,zl,zc,ze,zs,zaa,zan,zac,zoa,zon,zoc,rfl⟩:=rb.sevenB
 by_cases hk5:v.kind=5
 ·have hB:=dW a b v.arr.length
  refine GK v.kind v.g va v.ls.length vc v.e ⟨v.s.toArray⟩ aa v.arr.length ac oa v.obj.length oc yk yg ya yl yc ye ys yaa yan yac yoa yon yoc zk zg za zl zc ze zs zaa zan zac zoa zon zoc (boundsJ a b v.arr.length).1 (boundsJ a b v.arr.length).2.1 (boundsJ a b v.arr.length).2.2 w _
   (fun W q c=>RdA (hideW (And1 A (w.heap.size+1+1)) W) q ((v.arr.take (boundsJ a b v.arr.length).2.1).drop (boundsJ a b v.arr.length).1)∧((boundsJ a b v.arr.length).2.1-(boundsJ a b v.arr.length).1≤c∧c≤9223372036854775807)) hk5 P.ac hB.1 hB.2 (CBn _ (by omega)) ?_ ?_ ?_
  ·intro hE W hb hlt
   have hlen:((v.arr.take (boundsJ a b v.arr.length).2.1).drop (boundsJ a b v.arr.length).1).length=(boundsJ a b v.arr.length).2.1-(boundsJ a b v.arr.length).1:=by rw[List.length_drop,List.length_take];omega
   have hin:In (And1 A (w.heap.size+1+1)) W:=hIn.new hb hlt
   have hmem:∀x ∈ (v.arr.take (boundsJ a b v.arr.length).2.1).drop (boundsJ a b v.arr.length).1,x ∈ v.arr:=fun x hx=>List.mem_of_mem_take (List.mem_of_mem_drop hx)
   have hrow:RdA (hideW (And1 A (w.heap.size+1+1)) w) (if ac=(boundsJ a b v.arr.length).1 then aa else aa.map (fun x=>x.add ((boundsJ a b v.arr.length).1 * 7))) ((v.arr.take (boundsJ a b v.arr.length).2.1).drop (boundsJ a b v.arr.length).1):=by
    have h1:RdA (hideW (And1 A (w.heap.size+1+1)) w) aa (v.arr.take (boundsJ a b v.arr.length).2.1):=(RdA.take P.arr _).sub (az (fun k hk h=>h.elim id fun e=>by omega) (Below.refl _ _))
    split
    ·rename_i h
     have:(v.arr.take (boundsJ a b v.arr.length).2.1).drop (boundsJ a b v.arr.length).1=[]:=List.eq_nil_of_length_eq_zero (by rw[hlen];have:=P.ac;omega)
     rw[this]
     exact fun i x hx=>by simp at hx
    ·cases aa with
     | none =>
      rw[show v.arr.take (boundsJ a b v.arr.length).2.1=[] from uC h1]
      exact fun i x hx=>by simp at hx
     | some p =>
      by_cases h0:(v.arr.take (boundsJ a b v.arr.length).2.1)=[]
      ·rw[h0];exact fun i x hx=>by simp at hx
      ·obtain⟨x0,l0,hl0⟩:=List.exists_cons_of_ne_nil h0
       obtain⟨cs,⟨b',off,e,_⟩,_⟩:=h1 0 x0 (by rw[hl0];rfl)
       obtain rfl:p=⟨b',off,none⟩:=by simpa using e
       have:=h1.drop (boundsJ a b v.arr.length).1
       rw[show (some (⟨b',off,none⟩:Addr)).map (fun x=>x.add ((boundsJ a b v.arr.length).1 * 7))=some ⟨b',off+(boundsJ a b v.arr.length).1 * 7,none⟩ by simp[Addr.add]]
       exact this
   have:=xZ (And1 A (w.heap.size+1+1)) _ _ (ac-(boundsJ a b v.arr.length).1) w W hrow (fun x hx=>jC hv x (hmem x hx)) (fun x hx=>sv.arr x (hmem x hx)) (by rw[hlen];omega) hb hin
   rw[hlen] at this
   exact this.mono fun e w' ⟨q,c',h1,h2,h3,h4⟩=>⟨q,c',h1,⟨h2,h3⟩,h4⟩
  ·intro hE W hb
   have hx:takeS v (.slc a b)=(.null,(boundsJ a b v.arr.length).2.2):=by
    unfold takeS
    dsimp only
    rw[if_neg (by omega),if_pos hk5,if_pos hE]
   rw[hx]
   exact aO hb (by omega)
  ·intro hE W0 W q c' hr hb0 hb1
   have hlen:((v.arr.take (boundsJ a b v.arr.length).2.1).drop (boundsJ a b v.arr.length).1).length=(boundsJ a b v.arr.length).2.1-(boundsJ a b v.arr.length).1:=by rw[List.length_drop,List.length_take];omega
   have hx:takeS v (.slc a b)=(arrJ ((v.arr.take (boundsJ a b v.arr.length).2.1).drop (boundsJ a b v.arr.length).1),0):=by
    unfold takeS
    dsimp only
    rw[if_neg (by omega),if_pos hk5,if_neg (by omega)]
   rw[hx]
   have h2:=lS (c:=c') (hr.1.sub (az (A':=And1 A (w.heap.size+1+1)) (fun _ _ h=>h) hb1)) (by rw[hlen];exact hr.2)
   rw[hlen] at h2
   exact aZ h2 (ae hb0 hb1) (by omega)
 by_cases hk4:v.kind=4
 ·have hB:=dW a b (pts v.s).length
  have hpl:=qP v.s.length v.s (Nat.le_refl _)
  have hx0:(boundsJ a b (pts v.s).length).2.2=0→takeS v (.slc a b)=(textJ2 (u8L (encs (((pts v.s).take (boundsJ a b (pts v.s).length).2.1).drop (boundsJ a b (pts v.s).length).1))),0):=fun hE=>by
   unfold takeS
   dsimp only
   rw[if_neg (by omega),if_neg (by omega),if_pos hk4,if_neg (by omega)]
  refine Aa v.kind v.g va v.ls.length vc v.e ⟨v.s.toArray⟩ aa v.arr.length ac oa v.obj.length oc yk yg ya yl yc ye ys yaa yan yac yoa yon yoc zk zg za zl zc ze zs zaa zan zac zoa zon zoc (pts v.s).length (boundsJ a b (pts v.s).length).1 (boundsJ a b (pts v.s).length).2.1 (boundsJ a b (pts v.s).length).2.2
   ⟨(u8L (encs (((pts v.s).take (boundsJ a b (pts v.s).length).2.1).drop (boundsJ a b (pts v.s).length).1))).toArray⟩ w _ hk4 ?_ (CBn _ (by omega)) ?_ ?_ ?_
  ·intro W hb
   exact (kW v.s W (by omega)).mono fun e w' ⟨a,c,h1,h2,_⟩=>⟨a,c,h1,h2⟩
  ·intro hE W hb
   exact Ac v.s _ _ W (by omega) hB.1 hB.2
  ·intro hE W hb
   have hx:takeS v (.slc a b)=(.null,(boundsJ a b (pts v.s).length).2.2):=by
    unfold takeS
    dsimp only
    rw[if_neg (by omega),if_neg (by omega),if_pos hk4,if_pos hE]
   rw[hx]
   exact aO hb (by omega)
  ·intro hE W hb
   have hx:=hx0 hE
   have hsm:=htx.sl
   rw[hx] at hsm ⊢
   exact aZ (sZ (by
    have h:(u8L (encs (((pts v.s).take (boundsJ a b (pts v.s).length).2.1).drop (boundsJ a b (pts v.s).length).1))).length≤1048576:=hsm
    omega)) hb (by omega)
 refine wO v.kind v.g va v.ls.length vc v.e ⟨v.s.toArray⟩ aa v.arr.length ac oa v.obj.length oc yk yg ya yl yc ye ys yaa yan yac yoa yon yoc zk zg za zl zc ze zs zaa zan zac zoa zon zoc w _ hk5 hk4 ?_ ?_
 ·intro h W hb
  have hx:takeS v (.slc a b)=(v,0):=by
   unfold takeS
   dsimp only
   rw[if_pos h]
  rw[hx]
  exact di rv hb (by omega)
 ·intro h W hb
  have hx:takeS v (.slc a b)=(.null,9):=by
   unfold takeS
   dsimp only
   rw[if_neg h,if_neg hk5,if_neg hk4]
  rw[hx]
  exact aO hb (by omega)
@[go_sem] theorem Fv (v:Value)(W:World):(Instr.typeAssert (.iface 73 v) 70 73 true).run Tryz.prog W=.ok (.tuple #[v,.bool true]) W:=by kernel_rfl
@[go_sem] theorem EM (v:Value)(W:World):(Instr.typeAssert (.iface 73 v) 70 76 true).run Tryz.prog W=.ok (.tuple #[.agg #[.bool false,.slice none 0 0,.int .i64 0],.bool false]) W:=by kernel_rfl
@[go_sem] theorem EN (v:Value)(W:World):(Instr.typeAssert (.iface 73 v) 70 79 true).run Tryz.prog W=.ok (.tuple #[.agg #[.int .i64 0,.bool false,.slice none 0 0,.int .i64 0,.string ⟨#[]⟩,.slice none 0 0,.slice none 0 0,.int .i64 0,.bool false,.slice none 0 0,.int .i64 0,.string ⟨#[]⟩,.slice none 0 0,.slice none 0 0],.bool false]) W:=by kernel_rfl
@[go_sem] theorem qK (v:Value)(W:World):(Instr.typeAssert (.iface 76 v) 70 73 true).run Tryz.prog W=.ok (.tuple #[.agg #[.string ⟨#[]⟩],.bool false]) W:=by kernel_rfl
@[go_sem] theorem DJ (v:Value)(W:World):(Instr.typeAssert (.iface 76 v) 70 76 true).run Tryz.prog W=.ok (.tuple #[v,.bool true]) W:=by kernel_rfl
@[go_sem] theorem DK (v:Value)(W:World):(Instr.typeAssert (.iface 76 v) 70 79 true).run Tryz.prog W=.ok (.tuple #[.agg #[.int .i64 0,.bool false,.slice none 0 0,.int .i64 0,.string ⟨#[]⟩,.slice none 0 0,.slice none 0 0,.int .i64 0,.bool false,.slice none 0 0,.int .i64 0,.string ⟨#[]⟩,.slice none 0 0,.slice none 0 0],.bool false]) W:=by kernel_rfl
@[go_sem] theorem qL (v:Value)(W:World):(Instr.typeAssert (.iface 79 v) 70 73 true).run Tryz.prog W=.ok (.tuple #[.agg #[.string ⟨#[]⟩],.bool false]) W:=by kernel_rfl
@[go_sem] theorem DL (v:Value)(W:World):(Instr.typeAssert (.iface 79 v) 70 76 true).run Tryz.prog W=.ok (.tuple #[.agg #[.bool false,.slice none 0 0,.int .i64 0],.bool false]) W:=by kernel_rfl
@[go_sem] theorem DN (v:Value)(W:World):(Instr.typeAssert (.iface 79 v) 70 79 true).run Tryz.prog W=.ok (.tuple #[v,.bool true]) W:=by kernel_rfl
@[go_sem] theorem wC (W:World):(Instr.typeAssert .nilIface 70 73 true).run Tryz.prog W=.ok (.tuple #[.agg #[.string ⟨#[]⟩],.bool false]) W:=by kernel_rfl
@[go_sem] theorem EO (W:World):(Instr.typeAssert .nilIface 70 76 true).run Tryz.prog W=.ok (.tuple #[.agg #[.bool false,.slice none 0 0,.int .i64 0],.bool false]) W:=by kernel_rfl
@[go_sem] theorem EP (W:World):(Instr.typeAssert .nilIface 70 79 true).run Tryz.prog W=.ok (.tuple #[.agg #[.int .i64 0,.bool false,.slice none 0 0,.int .i64 0,.string ⟨#[]⟩,.slice none 0 0,.slice none 0 0,.int .i64 0,.bool false,.slice none 0 0,.int .i64 0,.string ⟨#[]⟩,.slice none 0 0,.slice none 0 0],.bool false]) W:=by kernel_rfl
theorem AY (A:Nat→Prop)(xk:Int)(xg:Bool)(xa:Option Addr)(xl xc:Nat)(xe:Int)(xs:ByteArray)(xaa:Option Addr)(xan xac:Nat)(xoa:Option Addr)(xon xoc:Nat)(yk:Int)(yg:Bool)(ya:Option Addr)(yl yc:Nat)(ye:Int)(ys:ByteArray)(yaa:Option Addr)(yan yac:Nat)(yoa:Option Addr)(yon yoc:Nat)(s:StepJ)(r:JV)(er:Nat)(w:World)(hIn:In A w)
  (CR:∀W,Below w.heap.size w W→Calls Tryz.prog 47 #[.agg #[.int .i64 yk,.bool yg,.slice ya yl yc,.int .i64 ye,.string ys,.slice yaa yan yac,.slice yoa yon yoc]] W fun e w'=>∃u,e=.returned u∧StepV w' u s∧Below W.heap.size W w')
  (CG:∀W t,s=.key t→t.length≤9223372036854775807→Below w.heap.size w W→In (And1 A (w.heap.size+1+1)) W→Calls Tryz.prog 48 #[.agg #[.int .i64 xk,.bool xg,.slice xa xl xc,.int .i64 xe,.string xs,.slice xaa xan xac,.slice xoa xon xoc],.string ⟨t.toArray⟩] W (OutX (And1 A (w.heap.size+1+1)) W r er))
  (CI:∀W k a c,s=.idx k→U32 W a k.ls→Below w.heap.size w W→In (And1 A (w.heap.size+1+1)) W→Calls Tryz.prog 49 #[.agg #[.int .i64 xk,.bool xg,.slice xa xl xc,.int .i64 xe,.string xs,.slice xaa xan xac,.slice xoa xon xoc],.agg #[.bool k.g,.slice a k.ls.length c,.int .i64 k.e]] W (OutX (And1 A (w.heap.size+1+1)) W r er))
  (CP:∀W a b ca cb,s=.slc a b→RdV W ca a→RdV W cb b→Below w.heap.size w W→In (And1 A (w.heap.size+1+1)) W→Calls Tryz.prog 50 #[.agg #[.int .i64 xk,.bool xg,.slice xa xl xc,.int .i64 xe,.string xs,.slice xaa xan xac,.slice xoa xon xoc],.agg (ca ++ cb).toArray] W (OutX (And1 A (w.heap.size+1+1)) W r er))
  (hN:s=.none→r=.null∧er=9) :
  Calls Tryz.prog 27 #[.agg #[.int .i64 xk,.bool xg,.slice xa xl xc,.int .i64 xe,.string xs,.slice xaa xan xac,.slice xoa xon xoc],.agg #[.int .i64 yk,.bool yg,.slice ya yl yc,.int .i64 ye,.string ys,.slice yaa yan yac,.slice yoa yon yoc]] w (OutX A w r er):=by
 obtain⟨W,hW⟩:∃W,W=((w.alloc (.cells #[.int .i64 xk,.bool xg,.slice xa xl xc,.int .i64 xe,.string xs,.slice xaa xan xac,.slice xoa xon xoc] 28)).alloc (.cells #[.int .i64 yk,.bool yg,.slice ya yl yc,.int .i64 ye,.string ys,.slice yaa yan yac,.slice yoa yon yoc] 28)).alloc (.cells #[.int .i64 0,.bool false,.slice none 0 0,.int .i64 0,.string ⟨#[]⟩,.slice none 0 0,.slice none 0 0] 28):=⟨_,rfl⟩
 obtain⟨b0,b1,b2,b3⟩:=eP w #[.int .i64 xk,.bool xg,.slice xa xl xc,.int .i64 xe,.string xs,.slice xaa xan xac,.slice xoa xon xoc] #[.int .i64 yk,.bool yg,.slice ya yl yc,.int .i64 ye,.string ys,.slice yaa yan yac,.slice yoa yon yoc] #[.int .i64 0,.bool false,.slice none 0 0,.int .i64 0,.string ⟨#[]⟩,.slice none 0 0,.slice none 0 0] 28 28 28
 rw[←hW] at b0 b1 b2 b3
 have HI:=hid (hIn.new b0 (aA b3))
 have HB:=hid b0
 have HX:=hid b1
 have HY:=hid b2
 have HZ:=hid b3
 replace hW:=hid hW.symm
 clear b0 b1 b2 b3 hIn
 replace CR:=hid CR
 have hwN:Hid (w.heap.size≤w.heap.size+1+1):=by show w.heap.size≤_;omega
 obtain⟨Q,hQ⟩:∃Q,Q=OutX A w r er:=⟨_,rfl⟩
 have hput:=hid (show ∀W' z0 z1 z2 z3 z4 z5 z6,RdX (And1 A (w.heap.size+1+1)) W' [z0,z1,z2,z3,z4,z5,z6] r→Below w.heap.size w W'→Q (.returned (.tuple #[.agg #[z0,z1,z2,z3,z4,z5,z6],.int .i64 er])) (W'.setCells (w.heap.size+1+1) 0 [z0,z1,z2,z3,z4,z5,z6]) from fun W' z0 z1 z2 z3 z4 z5 z6 h1 h2=>by rw[hQ];exact aZ h1 h2 hwN.out)
 have hnone:=hid (show s=.none→∀W',Below w.heap.size w W'→Q (.returned (.tuple #[.agg #[.int .i64 0,.bool false,.slice none 0 0,.int .i64 0,.string ⟨#[]⟩,.slice none 0 0,.slice none 0 0],.int .i64 9])) (W'.setCells (w.heap.size+1+1) 0 [.int .i64 0,.bool false,.slice none 0 0,.int .i64 0,.string ⟨#[]⟩,.slice none 0 0,.slice none 0 0]) from fun h W' hb=>by
  obtain⟨rfl,rfl⟩:=hN h
  rw[hQ]
  exact aO hb hwN.out)
 rw[←hQ]
 clear hQ hN
 obtain⟨⟨p0,p1,p2,p3,p4,p5,p6⟩,_⟩:=ag HX.out
 obtain⟨⟨y0,y1,y2,y3,y4,y5,y6⟩,_⟩:=ag HY.out
 cases s with
 | none =>
  have hq:=hid (hnone.out rfl)
  clear CG CI CP hnone hput HI
  go_enter Tryz.func27,Tryz.ntmps27
  go_upto_region 1 with fail
  rw[hW.out]
  go_wp2_with fail
  refine (CR.out _ HB.out).mono ?_
  rintro en w1 ⟨u,rfl,rfl,hb⟩
  have q1:=hid (ae HB.out hb)
  obtain⟨⟨r0,r1,r2,r3,r4,r5,r6⟩,s0,s1,s2,s3,s4,s5,s6⟩:=ag (af HZ.out hb)
  clear hb HB HX HY HZ hW p0 p1 p2 p3 p4 p5 p6 y0 y1 y2 y3 y4 y5 y6 CR
  go_wp2_with fail
  refine bodyPost_ret (v:=.tuple #[.agg #[.int .i64 0,.bool false,.slice none 0 0,.int .i64 0,.string ⟨#[]⟩,.slice none 0 0,.slice none 0 0],.int .i64 9]) (by simp[results,Tryz.results27,go_sem,r0,r1,r2,r3,r4,r5,r6]) rfl ?_
  exact hq.out _ q1.out
 | key t =>
  have CG2:=hid fun W hl=>CG W t rfl hl
  clear CG CI CP hnone
  go_enter Tryz.func27,Tryz.ntmps27
  go_upto_region 1 with fail
  rw[hW.out]
  go_wp2_with fail
  refine (CR.out _ HB.out).mono ?_
  rintro en w1 ⟨u,rfl,⟨rfl,hl⟩,hb⟩
  have q1:=hid (ae HB.out hb)
  have z1:=hid (af HZ.out hb)
  have x1:=hid (af HX.out hb)
  have i1:=hid (HI.out.next hb)
  replace hl:=hid hl
  clear hb HB HX HY HZ HI hW p0 p1 p2 p3 p4 p5 p6 y0 y1 y2 y3 y4 y5 y6 CR
  obtain⟨⟨p0,p1,p2,p3,p4,p5,p6⟩,_⟩:=ag x1.out
  have hlt:=ax p0
  unfold strV
  obtain⟨tb,htb⟩:∃tb:ByteArray,tb=⟨t.toArray⟩:=⟨_,rfl⟩
  rw[←htb] at CG2 ⊢
  clear htb
  have hbA:=(Below.refl w1.heap.size w1).alloc (Nat.le_refl _) (.cells #[.string tb] 73)
  have q2:=hid (ae q1.out hbA)
  have z2:=hid (af z1.out hbA)
  have i2:=hid (i1.out.next hbA)
  clear hbA
  go_wp2_with fail
  refine (CG2.out _ hl.out q2.out i2.out).mono ?_
  rintro en w2 ⟨cs,rfl,hrd,hb⟩
  obtain⟨zk,zg,za,zl,zc,ze,zs,zaa,zan,zac,zoa,zon,zoc,rfl⟩:=RdV.sevenB hrd
  have q3:=hid (ae q2.out hb)
  obtain⟨⟨r0,r1,r2,r3,r4,r5,r6⟩,s0,s1,s2,s3,s4,s5,s6⟩:=ag (af z2.out hb)
  have hF:=hid (hput.out w2 _ _ _ _ _ _ _ hrd q3.out)
  clear hb hrd hput
  go_wp2_with fail
  refine bodyPost_ret (v:=.tuple #[.agg #[.int .i64 zk,.bool zg,.slice za zl zc,.int .i64 ze,.string zs,.slice zaa zan zac,.slice zoa zon zoc],.int .i64 er]) (by simp[results,Tryz.results27,go_sem,r0,r1,r2,r3,r4,r5,r6]) rfl ?_
  exact hF.out
 | idx k =>
  have CI2:=hid fun W a c=>CI W k a c rfl
  clear CG CI CP hnone
  go_enter Tryz.func27,Tryz.ntmps27
  go_upto_region 1 with fail
  rw[hW.out]
  go_wp2_with fail
  refine (CR.out _ HB.out).mono ?_
  rintro en w1 ⟨u,rfl,⟨a,c,rfl,hu⟩,hb⟩
  have q1:=hid (ae HB.out hb)
  have z1:=hid (af HZ.out hb)
  have x1:=hid (af HX.out hb)
  have i1:=hid (HI.out.next hb)
  clear hb HB HX HY HZ HI hW p0 p1 p2 p3 p4 p5 p6 y0 y1 y2 y3 y4 y5 y6 CR
  obtain⟨⟨p0,p1,p2,p3,p4,p5,p6⟩,_⟩:=ag x1.out
  have hlt:=ax p0
  have hbA:=(Below.refl w1.heap.size w1).alloc (Nat.le_refl _) (.cells #[.bool k.g,.slice a k.ls.length c,.int .i64 k.e] 76)
  have u2:=hid (hu.below hbA)
  have q2:=hid (ae q1.out hbA)
  have z2:=hid (af z1.out hbA)
  have i2:=hid (i1.out.next hbA)
  clear hbA hu
  go_wp2_with fail
  refine (CI2.out _ a c u2.out q2.out i2.out).mono ?_
  rintro en w2 ⟨cs,rfl,hrd,hb⟩
  obtain⟨zk,zg,za,zl,zc,ze,zs,zaa,zan,zac,zoa,zon,zoc,rfl⟩:=RdV.sevenB hrd
  have q3:=hid (ae q2.out hb)
  obtain⟨⟨r0,r1,r2,r3,r4,r5,r6⟩,s0,s1,s2,s3,s4,s5,s6⟩:=ag (af z2.out hb)
  have hF:=hid (hput.out w2 _ _ _ _ _ _ _ hrd q3.out)
  clear hb hrd hput
  go_wp2_with fail
  refine bodyPost_ret (v:=.tuple #[.agg #[.int .i64 zk,.bool zg,.slice za zl zc,.int .i64 ze,.string zs,.slice zaa zan zac,.slice zoa zon zoc],.int .i64 er]) (by simp[results,Tryz.results27,go_sem,r0,r1,r2,r3,r4,r5,r6]) rfl ?_
  exact hF.out
 | slc a b =>
  have CP2:=hid fun W ca cb=>CP W a b ca cb rfl
  clear CG CI CP hnone
  go_enter Tryz.func27,Tryz.ntmps27
  go_upto_region 1 with fail
  rw[hW.out]
  go_wp2_with fail
  refine (CR.out _ HB.out).mono ?_
  rintro en w1 ⟨u,rfl,⟨ca,cb,rfl,ha,hb'⟩,hb⟩
  obtain⟨fk,fg,fa,fl,fc,fe,fs,faa,fan,fac,foa,fon,foc,rfl⟩:=ha.sevenB
  obtain⟨gk,gg,ga,gl,gc,ge,gs,gaa,gan,gac,goa,gon,goc,rfl⟩:=hb'.sevenB
  have q1:=hid (ae HB.out hb)
  have z1:=hid (af HZ.out hb)
  have x1:=hid (af HX.out hb)
  have i1:=hid (HI.out.next hb)
  clear hb HB HX HY HZ HI hW p0 p1 p2 p3 p4 p5 p6 y0 y1 y2 y3 y4 y5 y6 CR
  obtain⟨⟨p0,p1,p2,p3,p4,p5,p6⟩,_⟩:=ag x1.out
  have hlt:=ax p0
  have hbA:=(Below.refl w1.heap.size w1).alloc (Nat.le_refl _) (.cells #[.int .i64 fk,.bool fg,.slice fa fl fc,.int .i64 fe,.string fs,.slice faa fan fac,.slice foa fon foc,.int .i64 gk,.bool gg,.slice ga gl gc,.int .i64 ge,.string gs,.slice gaa gan gac,.slice goa gon goc] 79)
  have a2:=hid (ha.stay hbA)
  have b2:=hid (hb'.stay hbA)
  have q2:=hid (ae q1.out hbA)
  have z2:=hid (af z1.out hbA)
  have i2:=hid (i1.out.next hbA)
  clear hbA ha hb'
  simp only[List.cons_append,List.nil_append]
  go_wp2_with fail
  refine (CP2.out _ _ _ a2.out b2.out q2.out i2.out).mono ?_
  rintro en w2 ⟨cs,rfl,hrd,hb⟩
  obtain⟨zk,zg,za,zl,zc,ze,zs,zaa,zan,zac,zoa,zon,zoc,rfl⟩:=RdV.sevenB hrd
  have q3:=hid (ae q2.out hb)
  obtain⟨⟨r0,r1,r2,r3,r4,r5,r6⟩,s0,s1,s2,s3,s4,s5,s6⟩:=ag (af z2.out hb)
  have hF:=hid (hput.out w2 _ _ _ _ _ _ _ hrd q3.out)
  clear hb hrd hput
  go_wp2_with fail
  refine bodyPost_ret (v:=.tuple #[.agg #[.int .i64 zk,.bool zg,.slice za zl zc,.int .i64 ze,.string zs,.slice zaa zan zac,.slice zoa zon zoc],.int .i64 er]) (by simp[results,Tryz.results27,go_sem,r0,r1,r2,r3,r4,r5,r6]) rfl ?_
  exact hF.out
theorem fV (A:Nat→Prop)(v k:JV)(cs ck:List Value)(w:World)(hIn:In A w)(hv:mayJ 200 v=true)(hk:mayJ 200 k=true)(sv:SmallV v)(rv:RdX A w cs v)(rk:RdV w ck k)(hT:Tabs w) :
  Calls Tryz.prog 27 #[.agg cs.toArray,.agg ck.toArray] w (OutX A w (takeJ v k).1 (takeJ v k).2):=by
 have CR:=fun W (hb:Below w.heap.size w W)=>ji k ck W (rk.stay hb)
 have rvW:=fun W (hb:Below w.heap.size w W)=>RdV.sub rv (az (A':=And1 A (w.heap.size+1+1)) (fun n hn h=>h.elim id fun e=>by omega) hb)
 have CG:∀W t,readS k=.key t→t.length≤9223372036854775807→Below w.heap.size w W→In (And1 A (w.heap.size+1+1)) W→Calls Tryz.prog 48 #[.agg cs.toArray,.string ⟨t.toArray⟩] W (OutX (And1 A (w.heap.size+1+1)) W (takeJ v k).1 (takeJ v k).2):=by
  intro W t ht hl hb hi
  have h4:k.kind=4∧t=k.s:=by
   unfold readS at ht
   split at ht
   ·rename_i h
    injection ht with ht
    exact⟨h,ht.symm⟩
   ·split at ht
    ·cases ht
    ·split at ht
     ·split at ht<;>cases ht
     ·cases ht
  have hs:soundB t=true:=by rw[h4.2];exact fC hk h4.1
  have hx:takeJ v k=getR v t:=by
   unfold takeJ
   rw[ht]
   unfold takeS getR
   dsimp only
   have hvs:¬ ¬ (mayJ 200 v=true∧soundB t=true):=fun h=>h ⟨hv,hs⟩
   by_cases h:v.kind=6∨v.kind=0
   ·rw[if_pos h,if_neg hvs,if_neg (by omega)]
   ·rw[if_neg h,if_neg hvs,if_pos (by omega)]
  rw[hx]
  exact vY _ v cs t W hl sv (rvW W hb) (hT.below hb)
 have CI:∀W k' a c,readS k=.idx k'→U32 W a k'.ls→Below w.heap.size w W→In (And1 A (w.heap.size+1+1)) W→Calls Tryz.prog 49 #[.agg cs.toArray,.agg #[.bool k'.g,.slice a k'.ls.length c,.int .i64 k'.e]] W (OutX (And1 A (w.heap.size+1+1)) W (takeJ v k).1 (takeJ v k).2):=by
  intro W k' a c hk' hu hb hi
  have hal:=sv.al
  unfold takeJ
  rw[hk']
  exact wu _ v k' cs a c W (rvW W hb) hu (by omega) (hT.below hb).2
 have CP:∀W a b ca cb,readS k=.slc a b→RdV W ca a→RdV W cb b→Below w.heap.size w W→In (And1 A (w.heap.size+1+1)) W→Calls Tryz.prog 50 #[.agg cs.toArray,.agg (ca ++ cb).toArray] W (OutX (And1 A (w.heap.size+1+1)) W (takeJ v k).1 (takeJ v k).2):=by
  intro W a b ca cb hk' ha hb' hb hi
  unfold takeJ
  rw[hk']
  exact wP _ v a b cs ca cb W hi hv sv (rvW W hb) ha hb' (hT.below hb)
 obtain⟨xk,xg,xa,xl,xc,xe,xs,xaa,xan,xac,xoa,xon,xoc,rfl⟩:=RdV.sevenB rv
 obtain⟨yk,yg,ya,yl,yc,ye,ys,yaa,yan,yac,yoa,yon,yoc,rfl⟩:=rk.sevenB
 refine AY A xk xg xa xl xc xe xs xaa xan xac xoa xon xoc yk yg ya yl yc ye ys yaa yan yac yoa yon yoc (readS k) _ _ w hIn CR CG CI CP (fun h=>?_)
 unfold takeJ
 rw[h]
 exact⟨rfl,rfl⟩
theorem rda1 {w:World}{b:Nat}{T:TypeId}(xk:Int)(xg:Bool)(xa:Option Addr)(xl xc:Nat)(xe:Int)(xs:ByteArray)(xaa:Option Addr)(xan xac:Nat)(xoa:Option Addr)(xon xoc:Nat){v:JV}(h:w.heap[b]? = some (.cells #[.int .i64 xk,.bool xg,.slice xa xl xc,.int .i64 xe,.string xs,.slice xaa xan xac,.slice xoa xon xoc] T (0,0)))(hv:RdV w [.int .i64 xk,.bool xg,.slice xa xl xc,.int .i64 xe,.string xs,.slice xaa xan xac,.slice xoa xon xoc] v):RdA w (some ⟨b,0,none⟩) [v]:=fun i y hy=>by
 have hi:i=0:=by have:=(List.getElem?_eq_some_iff.1 hy).1;simp at this;omega
 subst hi
 obtain rfl:v=y:=by simpa using hy
 refine⟨_,⟨b,0,rfl,fun j u hu=>?_⟩,hv⟩
 simp only[World.cell?,h]
 simpa using hu
theorem rda2 {w:World}{b:Nat}{T:TypeId}(xk:Int)(xg:Bool)(xa:Option Addr)(xl xc:Nat)(xe:Int)(xs:ByteArray)(xaa:Option Addr)(xan xac:Nat)(xoa:Option Addr)(xon xoc:Nat)(yk:Int)(yg:Bool)(ya:Option Addr)(yl yc:Nat)(ye:Int)(ys:ByteArray)(yaa:Option Addr)(yan yac:Nat)(yoa:Option Addr)(yon yoc:Nat){v k:JV}(h:w.heap[b]? = some (.cells #[.int .i64 xk,.bool xg,.slice xa xl xc,.int .i64 xe,.string xs,.slice xaa xan xac,.slice xoa xon xoc,.int .i64 yk,.bool yg,.slice ya yl yc,.int .i64 ye,.string ys,.slice yaa yan yac,.slice yoa yon yoc] T (0,0)))(hv:RdV w [.int .i64 xk,.bool xg,.slice xa xl xc,.int .i64 xe,.string xs,.slice xaa xan xac,.slice xoa xon xoc] v)(hk:RdV w [.int .i64 yk,.bool yg,.slice ya yl yc,.int .i64 ye,.string ys,.slice yaa yan yac,.slice yoa yon yoc] k):RdA w (some ⟨b,0,none⟩) [v,k]:=fun i z hz=>by
 have hi:i=0∨i=1:=by have:=(List.getElem?_eq_some_iff.1 hz).1;simp at this;omega
 rcases hi with rfl | rfl
 ·obtain rfl:v=z:=by simpa using hz
  refine⟨_,⟨b,0,rfl,fun j u hu=>?_⟩,hv⟩
  have hj:j<7:=by have:=(List.getElem?_eq_some_iff.1 hu).1;simpa using this
  have e:([.int .i64 xk,.bool xg,.slice xa xl xc,.int .i64 xe,.string xs,.slice xaa xan xac,.slice xoa xon xoc,.int .i64 yk,.bool yg,.slice ya yl yc,.int .i64 ye,.string ys,.slice yaa yan yac,.slice yoa yon yoc]:List Value)[j]? = some u:=by
   rw[show ([.int .i64 xk,.bool xg,.slice xa xl xc,.int .i64 xe,.string xs,.slice xaa xan xac,.slice xoa xon xoc,.int .i64 yk,.bool yg,.slice ya yl yc,.int .i64 ye,.string ys,.slice yaa yan yac,.slice yoa yon yoc]:List Value)=[.int .i64 xk,.bool xg,.slice xa xl xc,.int .i64 xe,.string xs,.slice xaa xan xac,.slice xoa xon xoc] ++ [.int .i64 yk,.bool yg,.slice ya yl yc,.int .i64 ye,.string ys,.slice yaa yan yac,.slice yoa yon yoc] from rfl,List.getElem?_append_left (by simpa using hj)]
   exact hu
  simp only[World.cell?,h]
  simpa using e
 ·obtain rfl:k=z:=by simpa using hz
  refine⟨_,⟨b,0,rfl,fun j u hu=>?_⟩,hk⟩
  have e:([.int .i64 xk,.bool xg,.slice xa xl xc,.int .i64 xe,.string xs,.slice xaa xan xac,.slice xoa xon xoc,.int .i64 yk,.bool yg,.slice ya yl yc,.int .i64 ye,.string ys,.slice yaa yan yac,.slice yoa yon yoc]:List Value)[7+j]? = some u:=by
   rw[show ([.int .i64 xk,.bool xg,.slice xa xl xc,.int .i64 xe,.string xs,.slice xaa xan xac,.slice xoa xon xoc,.int .i64 yk,.bool yg,.slice ya yl yc,.int .i64 ye,.string ys,.slice yaa yan yac,.slice yoa yon yoc]:List Value)=[.int .i64 xk,.bool xg,.slice xa xl xc,.int .i64 xe,.string xs,.slice xaa xan xac,.slice xoa xon xoc] ++ [.int .i64 yk,.bool yg,.slice ya yl yc,.int .i64 ye,.string ys,.slice yaa yan yac,.slice yoa yon yoc] from rfl,List.getElem?_append_right (by simp)]
   simpa using hu
  simp only[World.cell?,h]
  simpa using e
theorem AX (A:Nat→Prop)(xk:Int)(xg:Bool)(xa:Option Addr)(xl xc:Nat)(xe:Int)(xs:ByteArray)(xaa:Option Addr)(xan xac:Nat)(xoa:Option Addr)(xon xoc:Nat)(yk:Int)(yg:Bool)(ya:Option Addr)(yl yc:Nat)(ye:Int)(ys:ByteArray)(yaa:Option Addr)(yan yac:Nat)(yoa:Option Addr)(yon yoc:Nat)(m:Bool)(r t:JV)(er et:Nat)(w:World)(hIn:In A w)
  (CM:∀W b,Below w.heap.size w W→W.heap[b]? = some (.cells #[.int .i64 xk,.bool xg,.slice xa xl xc,.int .i64 xe,.string xs,.slice xaa xan xac,.slice xoa xon xoc,.int .i64 yk,.bool yg,.slice ya yl yc,.int .i64 ye,.string ys,.slice yaa yan yac,.slice yoa yon yoc] 28 (0,0))→Calls Tryz.prog 26 #[.slice (some ⟨b,0,none⟩) 2 2] W fun e w'=>e=.returned (.bool m)∧Below W.heap.size W w')
  (CT:m=true→∀W,Below w.heap.size w W→In (And1 A (w.heap.size+1+1)) W→Calls Tryz.prog 27 #[.agg #[.int .i64 xk,.bool xg,.slice xa xl xc,.int .i64 xe,.string xs,.slice xaa xan xac,.slice xoa xon xoc],.agg #[.int .i64 yk,.bool yg,.slice ya yl yc,.int .i64 ye,.string ys,.slice yaa yan yac,.slice yoa yon yoc]] W (OutX (And1 A (w.heap.size+1+1)) W t et))
  (hm:m=true→r=t∧er=et)(hn:m=false→r=.null∧er=1) :
  Calls Tryz.prog 11 #[.agg #[.int .i64 xk,.bool xg,.slice xa xl xc,.int .i64 xe,.string xs,.slice xaa xan xac,.slice xoa xon xoc],.agg #[.int .i64 yk,.bool yg,.slice ya yl yc,.int .i64 ye,.string ys,.slice yaa yan yac,.slice yoa yon yoc]] w (OutX A w r er):=by
 obtain⟨W,hW⟩:∃W,W=((w.alloc (.cells #[.int .i64 xk,.bool xg,.slice xa xl xc,.int .i64 xe,.string xs,.slice xaa xan xac,.slice xoa xon xoc] 28)).alloc (.cells #[.int .i64 yk,.bool yg,.slice ya yl yc,.int .i64 ye,.string ys,.slice yaa yan yac,.slice yoa yon yoc] 28)).alloc (.cells #[.int .i64 0,.bool false,.slice none 0 0,.int .i64 0,.string ⟨#[]⟩,.slice none 0 0,.slice none 0 0] 28):=⟨_,rfl⟩
 obtain⟨b0,b1,b2,b3⟩:=eP w #[.int .i64 xk,.bool xg,.slice xa xl xc,.int .i64 xe,.string xs,.slice xaa xan xac,.slice xoa xon xoc] #[.int .i64 yk,.bool yg,.slice ya yl yc,.int .i64 ye,.string ys,.slice yaa yan yac,.slice yoa yon yoc] #[.int .i64 0,.bool false,.slice none 0 0,.int .i64 0,.string ⟨#[]⟩,.slice none 0 0,.slice none 0 0] 28 28 28
 rw[←hW] at b0 b1 b2 b3
 have HI:=hid (hIn.new b0 (aA b3))
 have HB:=hid b0
 have HX:=hid b1
 have HY:=hid b2
 have HZ:=hid b3
 replace hW:=hid hW.symm
 clear b0 b1 b2 b3 hIn
 replace CM:=hid CM
 replace CT:=hid CT
 have hwN:Hid (w.heap.size≤w.heap.size+1+1):=by show w.heap.size≤_;omega
 obtain⟨Q,hQ⟩:∃Q,Q=OutX A w r er:=⟨_,rfl⟩
 have hput:=hid (show m=true→∀W' z0 z1 z2 z3 z4 z5 z6,RdX (And1 A (w.heap.size+1+1)) W' [z0,z1,z2,z3,z4,z5,z6] t→Below w.heap.size w W'→Q (.returned (.tuple #[.agg #[z0,z1,z2,z3,z4,z5,z6],.int .i64 et])) (W'.setCells (w.heap.size+1+1) 0 [z0,z1,z2,z3,z4,z5,z6]) from fun h W' z0 z1 z2 z3 z4 z5 z6 h1 h2=>by
  obtain⟨rfl,rfl⟩:=hm h
  rw[hQ];exact aZ h1 h2 hwN.out)
 have hnone:=hid (show m=false→∀W',Below w.heap.size w W'→Q (.returned (.tuple #[.agg #[.int .i64 0,.bool false,.slice none 0 0,.int .i64 0,.string ⟨#[]⟩,.slice none 0 0,.slice none 0 0],.int .i64 1])) (W'.setCells (w.heap.size+1+1) 0 [.int .i64 0,.bool false,.slice none 0 0,.int .i64 0,.string ⟨#[]⟩,.slice none 0 0,.slice none 0 0]) from fun h W' hb=>by
  obtain⟨rfl,rfl⟩:=hn h
  rw[hQ]
  exact aO hb hwN.out)
 rw[←hQ]
 clear hQ hn hm
 obtain⟨⟨p0,p1,p2,p3,p4,p5,p6⟩,_⟩:=ag HX.out
 obtain⟨⟨y0,y1,y2,y3,y4,y5,y6⟩,_⟩:=ag HY.out
 have hbA:=(Below.refl W.heap.size W).alloc (Nat.le_refl _) (.cells #[.int .i64 xk,.bool xg,.slice xa xl xc,.int .i64 xe,.string xs,.slice xaa xan xac,.slice xoa xon xoc,.int .i64 yk,.bool yg,.slice ya yl yc,.int .i64 ye,.string ys,.slice yaa yan yac,.slice yoa yon yoc] 28)
 have q0:=hid (ae HB.out hbA)
 have hnw:=hid (aj W (.cells #[.int .i64 xk,.bool xg,.slice xa xl xc,.int .i64 xe,.string xs,.slice xaa xan xac,.slice xoa xon xoc,.int .i64 yk,.bool yg,.slice ya yl yc,.int .i64 ye,.string ys,.slice yaa yan yac,.slice yoa yon yoc] 28))
 have x0:=hid (af HX.out hbA)
 have y0':=hid (af HY.out hbA)
 have z0':=hid (af HZ.out hbA)
 have i0:=hid (HI.out.next hbA)
 clear hbA
 go_enter Tryz.func11,Tryz.ntmps11
 go_upto_region 1 with fail
 rw[hW.out]
 go_wp2_with fail
 refine (CM.out _ _ q0.out hnw.out).mono ?_
 rintro en w1 ⟨rfl,hb⟩
 have q1:=hid (ae q0.out hb)
 have x1:=hid (af x0.out hb)
 have y1':=hid (af y0'.out hb)
 have z1:=hid (af z0'.out hb)
 have i1:=hid (i0.out.next hb)
 clear hb q0 hnw x0 y0' z0' i0 HB HX HY HZ HI hW CM p0 p1 p2 p3 p4 p5 p6 y0 y1 y2 y3 y4 y5 y6
 cases m with
 | false =>
  have hq:=hid (hnone.out rfl)
  obtain⟨⟨r0,r1,r2,r3,r4,r5,r6⟩,s0,s1,s2,s3,s4,s5,s6⟩:=ag z1.out
  clear hnone hput CT
  go_wp2_with fail
  refine bodyPost_ret (v:=.tuple #[.agg #[.int .i64 0,.bool false,.slice none 0 0,.int .i64 0,.string ⟨#[]⟩,.slice none 0 0,.slice none 0 0],.int .i64 1]) (by simp[results,Tryz.results11,go_sem,r0,r1,r2,r3,r4,r5,r6]) rfl ?_
  exact hq.out _ q1.out
 | true =>
  have C:=hid (CT.out rfl _ q1.out i1.out)
  have hp:=hid (hput.out rfl)
  clear hnone hput CT
  obtain⟨⟨p0,p1,p2,p3,p4,p5,p6⟩,_⟩:=ag x1.out
  obtain⟨⟨y0,y1,y2,y3,y4,y5,y6⟩,_⟩:=ag y1'.out
  go_wp2_with fail
  refine C.out.mono ?_
  rintro en w2 ⟨cs,rfl,hrd,hb⟩
  obtain⟨zk,zg,za,zl,zc,ze,zs,zaa,zan,zac,zoa,zon,zoc,rfl⟩:=RdV.sevenB hrd
  obtain⟨⟨r0,r1,r2,r3,r4,r5,r6⟩,s0,s1,s2,s3,s4,s5,s6⟩:=ag (af z1.out hb)
  have hF:=hid (hp.out w2 _ _ _ _ _ _ _ hrd (ae q1.out hb))
  clear hb hrd hp C p0 p1 p2 p3 p4 p5 p6 y0 y1 y2 y3 y4 y5 y6
  go_wp2_with fail
  refine bodyPost_ret (v:=.tuple #[.agg #[.int .i64 zk,.bool zg,.slice za zl zc,.int .i64 ze,.string zs,.slice zaa zan zac,.slice zoa zon zoc],.int .i64 et]) (by simp[results,Tryz.results11,go_sem,r0,r1,r2,r3,r4,r5,r6]) rfl ?_
  exact hF.out
theorem xC (A:Nat→Prop)(v k:JV)(cs ck:List Value)(w:World)(hIn:In A w)(sv:SmallV v)(rv:RdX A w cs v)(rk:RdV w ck k)(hT:Tabs w) :
  Calls Tryz.prog 11 #[.agg cs.toArray,.agg ck.toArray] w (OutX A w (stepJ v k).1 (stepJ v k).2):=by
 have CT:=fun (hm:(decide (∀x ∈ [v,k],mayJ 200 x=true))=true) W (hb:Below w.heap.size w W) (hi:In (And1 A (w.heap.size+1+1)) W) =>
  fV (And1 A (w.heap.size+1+1)) v k cs ck W hi (of_decide_eq_true hm v (by simp)) (of_decide_eq_true hm k (by simp)) sv (RdV.sub rv (az (A':=And1 A (w.heap.size+1+1)) (fun n hn h=>h.elim id fun e=>by omega) hb)) (rk.stay hb) (hT.below hb)
 have rv':=RdX.rd rv
 obtain⟨xk,xg,xa,xl,xc,xe,xs,xaa,xan,xac,xoa,xon,xoc,rfl⟩:=RdV.sevenB rv
 obtain⟨yk,yg,ya,yl,yc,ye,ys,yaa,yan,yac,yoa,yon,yoc,rfl⟩:=rk.sevenB
 refine AX A xk xg xa xl xc xe xs xaa xan xac xoa xon xoc yk yg ya yl yc ye ys yaa yan yac yoa yon yoc (decide (∀x ∈ [v,k],mayJ 200 x=true)) _ (takeJ v k).1 _ (takeJ v k).2 w hIn ?_ CT ?_ ?_
 ·intro W b hb hh
  exact bP [v,k] _ 2 W (rda2 xk xg xa xl xc xe xs xaa xan xac xoa xon xoc yk yg ya yl yc ye ys yaa yan yac yoa yon yoc hh (rv'.stay hb) (rk.stay hb)) (by simp) (hT.below hb)
 ·intro h
  have h1:=of_decide_eq_true h
  unfold stepJ
  rw[if_pos ⟨h1 v (by simp),h1 k (by simp)⟩]
  exact⟨rfl,rfl⟩
 ·intro h
  have h1:=of_decide_eq_false h
  unfold stepJ
  rw[if_neg (fun h2=>h1 (by simpa using h2))]
  exact⟨rfl,rfl⟩
theorem gV {w:World}{S:Nat}{c0 c1 c2 c3 c4 c5 c6 d0 d1 d2 d3 d4 d5 d6:Value}{T:TypeId}(h:w.heap[S]? = some (.cells #[c0,c1,c2,c3,c4,c5,c6] T (0,0))) :
  (w.setCells S 0 [d0,d1,d2,d3,d4,d5,d6]).heap[S]? = some (.cells #[d0,d1,d2,d3,d4,d5,d6] T (0,0)):=by
 simp[World.setCells,World.setCell,Array.getElem?_modify,h]
theorem jD {r:Nat}:∀(zs:List Value) (o:Nat) (w:World) (k:Nat),k≠r→(w.setCells r o zs).heap[k]? = w.heap[k]?
 | [],_,_,_,_=>rfl
 | z :: zs,o,w,k,h=>by
  show ((w.setCell ⟨r,o,none⟩ z).setCells r (o+1) zs).heap[k]? = _
  rw[jD zs (o+1) _ k h,Below.heap_setCell _ _ _ _ (by exact h)]
theorem bU (r:Nat):∀(zs:List Value) (o:Nat) (w:World),(w.setCells r o zs).heap.size=w.heap.size
 | [],_,_=>rfl
 | z :: zs,o,w=>by
  show ((w.setCell ⟨r,o,none⟩ z).setCells r (o+1) zs).heap.size=_
  rw[bU r zs (o+1) _]
  simp[World.setCell]
theorem CY {p:List JV}{i:Nat}(hi:i<p.length)(u:JV):goJ u (p.drop i)=(if (takeJ u p[i]).2≠0 then (.null,(takeJ u p[i]).2) else goJ (takeJ u p[i]).1 (p.drop (i+1))):=by
 rw[List.drop_eq_getElem_cons hi]
 rfl
theorem zV (A:Nat→Prop)(xk:Int)(xg:Bool)(xa:Option Addr)(xl xc:Nat)(xe:Int)(xs:ByteArray)(xaa:Option Addr)(xan xac:Nat)(xoa:Option Addr)(xon xoc:Nat)(pa:Option Addr)(pl pc:Nat)(v:JV)(path:List JV)(m1 m2:Bool)(r:JV)(er:Nat)(w:World)(hIn:In A w)(hpl:pl=path.length)(hpn:pl≤1048576)
  (rv:RdX A w [.int .i64 xk,.bool xg,.slice xa xl xc,.int .i64 xe,.string xs,.slice xaa xan xac,.slice xoa xon xoc] v)(rp:RdA w pa path)
  (CM:∀W b,Below w.heap.size w W→W.heap[b]? = some (.cells #[.int .i64 xk,.bool xg,.slice xa xl xc,.int .i64 xe,.string xs,.slice xaa xan xac,.slice xoa xon xoc] 28 (0,0))→Calls Tryz.prog 26 #[.slice (some ⟨b,0,none⟩) 1 1] W fun e w'=>e=.returned (.bool m1)∧Below W.heap.size W w')
  (CM2:∀W,Below w.heap.size w W→Calls Tryz.prog 26 #[.slice pa pl pc] W fun e w'=>e=.returned (.bool m2)∧Below W.heap.size W w')
  (CT:m1=true→m2=true→∀(A2:Nat→Prop) (u k:JV) (cs ck:List Value) (W:World),k ∈ path→mayJ 200 u=true→SmallV u→In A2 W→RdX A2 W cs u→RdV W ck k→Below w.heap.size w W→Calls Tryz.prog 27 #[.agg cs.toArray,.agg ck.toArray] W (OutX A2 W (takeJ u k).1 (takeJ u k).2))
  (hv:m1=true→mayJ 200 v=true)(sv:SmallV v)
  (hm:m1=true→m2=true→goJ v path=(r,er))(hn:m1=false∨m2=false→r=.null∧er=1) :
  Calls Tryz.prog 14 #[.agg #[.int .i64 xk,.bool xg,.slice xa xl xc,.int .i64 xe,.string xs,.slice xaa xan xac,.slice xoa xon xoc],.slice pa pl pc] w (OutX A w r er):=by
 obtain⟨W,hW⟩:∃W,W=(w.alloc (.cells #[.int .i64 xk,.bool xg,.slice xa xl xc,.int .i64 xe,.string xs,.slice xaa xan xac,.slice xoa xon xoc] 28)).alloc (.cells #[.int .i64 0,.bool false,.slice none 0 0,.int .i64 0,.string ⟨#[]⟩,.slice none 0 0,.slice none 0 0] 28):=⟨_,rfl⟩
 obtain⟨b0,b1,b2⟩:=bG w #[.int .i64 xk,.bool xg,.slice xa xl xc,.int .i64 xe,.string xs,.slice xaa xan xac,.slice xoa xon xoc] #[.int .i64 0,.bool false,.slice none 0 0,.int .i64 0,.string ⟨#[]⟩,.slice none 0 0,.slice none 0 0] 28 28
 rw[←hW] at b0 b1 b2
 have HI:=hid (show In (And1 (And1 A w.heap.size) (w.heap.size+1)) W from fun k hk=>by
  have:=aA b2
  rcases hk with (hk | hk) | hk
  ·exact hIn.next b0 k hk
  ·omega
  ·omega)
 have hrv:=hid (show RdX (And1 (And1 A w.heap.size) (w.heap.size+1)) W [.int .i64 xk,.bool xg,.slice xa xl xc,.int .i64 xe,.string xs,.slice xaa xan xac,.slice xoa xon xoc] v from RdV.sub rv (az (A':=And1 (And1 A w.heap.size) (w.heap.size+1)) (fun n hn h=>by rcases h with (h | h) | h;exact h;omega;omega) b0))
 have HB:=hid b0
 have HX:=hid b1
 have HZ:=hid b2
 replace hW:=hid hW.symm
 clear b0 b1 b2 hIn rv
 replace CM:=hid CM
 replace CM2:=hid CM2
 replace CT:=hid CT
 replace rp:=hid rp
 have hpl2:=hid hpl
 have hwN:Hid (w.heap.size≤w.heap.size+1):=by show w.heap.size≤_;omega
 obtain⟨Q,hQ⟩:∃Q,Q=OutX A w r er:=⟨_,rfl⟩
 have hgo:=hid hm
 have hput:=hid (show ∀t et W' z0 z1 z2 z3 z4 z5 z6,t=r→et=er→RdX (And1 (And1 A w.heap.size) (w.heap.size+1)) W' [z0,z1,z2,z3,z4,z5,z6] t→Below w.heap.size w W'→Q (.returned (.tuple #[.agg #[z0,z1,z2,z3,z4,z5,z6],.int .i64 et])) (W'.setCells (w.heap.size+1) 0 [z0,z1,z2,z3,z4,z5,z6]) from fun t et W' z0 z1 z2 z3 z4 z5 z6 e1 e2 h1 h2=>by
  subst e1 e2
  rw[hQ];exact aZ (RdX.less h1 fun k hk=>hk.elim (fun h=>Or.inl (Or.inl h)) Or.inr) h2 hwN.out)
 have hnone:=hid (show m1=false∨m2=false→∀W',Below w.heap.size w W'→Q (.returned (.tuple #[.agg #[.int .i64 0,.bool false,.slice none 0 0,.int .i64 0,.string ⟨#[]⟩,.slice none 0 0,.slice none 0 0],.int .i64 1])) (W'.setCells (w.heap.size+1) 0 [.int .i64 0,.bool false,.slice none 0 0,.int .i64 0,.string ⟨#[]⟩,.slice none 0 0,.slice none 0 0]) from fun h W' hb=>by
  obtain⟨rfl,rfl⟩:=hn h
  rw[hQ]
  exact aO hb hwN.out)
 have hbad:=hid (show ∀et:Nat,r=.null→et=er→∀W',Below w.heap.size w W'→Q (.returned (.tuple #[.agg #[.int .i64 0,.bool false,.slice none 0 0,.int .i64 0,.string ⟨#[]⟩,.slice none 0 0,.slice none 0 0],.int .i64 et])) (W'.setCells (w.heap.size+1) 0 [.int .i64 0,.bool false,.slice none 0 0,.int .i64 0,.string ⟨#[]⟩,.slice none 0 0,.slice none 0 0]) from fun et h1 h2 W' hb=>by
  subst h1 h2
  rw[hQ]
  exact aO hb hwN.out)
 rw[←hQ]
 clear hQ hn hm
 have hv2:=hid hv
 have sv2:=hid sv
 clear hv sv hpl
 obtain⟨⟨p0,p1,p2,p3,p4,p5,p6⟩,_⟩:=ag HX.out
 have hbA:=(Below.refl W.heap.size W).alloc (Nat.le_refl _) (.cells #[.int .i64 xk,.bool xg,.slice xa xl xc,.int .i64 xe,.string xs,.slice xaa xan xac,.slice xoa xon xoc] 28)
 have q0:=hid (ae HB.out hbA)
 have hnw:=hid (aj W (.cells #[.int .i64 xk,.bool xg,.slice xa xl xc,.int .i64 xe,.string xs,.slice xaa xan xac,.slice xoa xon xoc] 28))
 have x0:=hid (af HX.out hbA)
 have z0':=hid (af HZ.out hbA)
 have i0:=hid (HI.out.next hbA)
 have r0':=hid (hrv.out.stay hbA)
 clear hbA
 go_enter Tryz.func14,Tryz.ntmps14
 go_upto_region 1 with fail
 rw[hW.out]
 go_wp2_with fail
 refine (CM.out _ _ q0.out hnw.out).mono ?_
 rintro en w1 ⟨rfl,hb⟩
 have q1:=hid (ae q0.out hb)
 have x1:=hid (af x0.out hb)
 have z1:=hid (af z0'.out hb)
 have i1:=hid (i0.out.next hb)
 have r1':=hid (r0'.out.stay hb)
 clear hb q0 hnw x0 z0' i0 r0' hrv HB HX HZ HI hW CM p0 p1 p2 p3 p4 p5 p6
 cases m1 with
 | false =>
  have hq:=hid (hnone.out (by simp))
  obtain⟨⟨r0,r1,r2,r3,r4,r5,r6⟩,s0,s1,s2,s3,s4,s5,s6⟩:=ag z1.out
  clear hnone hput CT hbad hgo hv2 sv2 CM2
  go_wp2_with fail
  refine bodyPost_ret (v:=.tuple #[.agg #[.int .i64 0,.bool false,.slice none 0 0,.int .i64 0,.string ⟨#[]⟩,.slice none 0 0,.slice none 0 0],.int .i64 1]) (by simp[results,Tryz.results14,go_sem,r0,r1,r2,r3,r4,r5,r6]) rfl ?_
  exact hq.out _ q1.out
 | true =>
  go_wp2_with fail
  refine (CM2.out _ q1.out).mono ?_
  rintro en w2 ⟨rfl,hb⟩
  have q2:=hid (ae q1.out hb)
  have x2:=hid (af x1.out hb)
  have z2:=hid (af z1.out hb)
  have i2:=hid (i1.out.next hb)
  have r2':=hid (r1'.out.stay hb)
  clear hb q1 x1 z1 i1 r1' CM2
  cases m2 with
  | false =>
   have hq:=hid (hnone.out (by simp))
   obtain⟨⟨r0,r1,r2,r3,r4,r5,r6⟩,s0,s1,s2,s3,s4,s5,s6⟩:=ag z2.out
   clear hnone hput CT hbad hgo hv2 sv2
   go_wp2_with fail
   refine bodyPost_ret (v:=.tuple #[.agg #[.int .i64 0,.bool false,.slice none 0 0,.int .i64 0,.string ⟨#[]⟩,.slice none 0 0,.slice none 0 0],.int .i64 1]) (by simp[results,Tryz.results14,go_sem,r0,r1,r2,r3,r4,r5,r6]) rfl ?_
   exact hq.out _ q2.out
  | true =>
   have CT2:=hid (CT.out (by simp) (by simp))
   have hgo2:=hid (hgo.out (by simp) (by simp))
   have hmv:=hid (hv2.out (by simp))
   clear CT hgo hnone hv2
   go_upto_region 4 with fail
   go_loopw [7,8,21] (fun _ _ v21 wr=>∃(i:Nat) (u:JV),∃ck cg ca cl cc ce cs caa can cac coa con coc,i≤pl∧v21=.int .i64 i∧Hid (goJ u (path.drop i)=(r,er))∧Hid (mayJ 200 u=true)∧Hid (SmallV u)∧Hid (RdX (And1 (And1 A w.heap.size) (w.heap.size+1)) wr [.int .i64 ck,.bool cg,.slice ca cl cc,.int .i64 ce,.string cs,.slice caa can cac,.slice coa con coc] u) ∧
    Hid (wr.heap[w.heap.size]? = some (.cells #[.int .i64 ck,.bool cg,.slice ca cl cc,.int .i64 ce,.string cs,.slice caa can cac,.slice coa con coc] 28))∧Hid (wr.heap[w.heap.size+1]? = some (.cells #[.int .i64 0,.bool false,.slice none 0 0,.int .i64 0,.string ⟨#[]⟩,.slice none 0 0,.slice none 0 0] 28))∧Hid (Below w.heap.size w wr)∧Hid (In (And1 (And1 A w.heap.size) (w.heap.size+1)) wr)) (fun _ _ v21 _=>pl-(intOf v21).toNat)
   case atStart=>exact⟨0,v,xk,xg,xa,xl,xc,xe,xs,xaa,xan,xac,xoa,xon,xoc,Nat.zero_le _,rfl,hgo2,hmv,sv2,r2',x2,z2,q2,i2⟩
   case round =>
    obtain⟨i,u,ck,cg,ca,cl,cc,ce,cs,caa,can,cac,coa,con,coc,hi,rfl,hg,hmu,hsu,hru,hx,hz,hB,hI⟩:=hrel
    clear x2 z2 q2 i2 r2' hgo2 hmv sv2
    obtain⟨⟨p0,p1,p2,p3,p4,p5,p6⟩,f0,f1,f2,f3,f4,f5,f6⟩:=ag hx.out
    by_cases hlt:i<pl
    ·have hlt2:(i:Int)<(pl:Int):=by omega
     have hk1:i<path.length:=by rw[←hpl2.out];exact hlt
     obtain⟨kv,hkv⟩:∃kv,kv=path[i]:=⟨_,rfl⟩
     have hmem:=hid (show kv ∈ path by rw[hkv];exact List.getElem_mem hk1)
     have hg2:=hg.out
     rw[CY hk1,←hkv] at hg2
     obtain⟨ck,⟨b,off,rfl,hc⟩,hrk⟩:=(rp.out.below hB.out) i kv (by rw[hkv];exact List.getElem?_eq_getElem hk1)
     obtain⟨kk,kg,ka,kl,kc,ke,ks,kaa,kan,kac,koa,kon,koc,rfl⟩:=hrk.sevenB
     have u0:=hc 0 _ rfl
     have u1:=hc 1 _ rfl
     have u2:=hc 2 _ rfl
     have u3:=hc 3 _ rfl
     have u4:=hc 4 _ rfl
     have u5:=hc 5 _ rfl
     have u6:=hc 6 _ rfl
     rw[Nat.add_zero] at u0
     have hlu:=ax u0
     have hlx:=ax p0
     have hbA:=(Below.refl wr.heap.size wr).alloc (Nat.le_refl _) (.cells #[.int .i64 kk,.bool kg,.slice ka kl kc,.int .i64 ke,.string ks,.slice kaa kan kac,.slice koa kon koc] 28)
     have CT3:=hid (CT2.out _ u kv [.int .i64 ck,.bool cg,.slice ca cl cc,.int .i64 ce,.string cs,.slice caa can cac,.slice coa con coc] [.int .i64 kk,.bool kg,.slice ka kl kc,.int .i64 ke,.string ks,.slice kaa kan kac,.slice koa kon koc] _ hmem.out hmu.out hsu.out (hI.out.next hbA) (hru.out.stay hbA) (hrk.stay hbA) (ae hB.out hbA))
     have q3:=hid (ae hB.out hbA)
     have x3:=hid (af hx.out hbA)
     have z3:=hid (af hz.out hbA)
     have i3:=hid (hI.out.next hbA)
     have hmt:=hid (dV (k:=kv) hmu.out)
     have hst:=hid (show SmallV (takeJ u kv).1 from ed hsu.out (readS kv) (fun h4=>fC hmu.out h4))
     replace hg2:=hid hg2
     clear hc hrk hbA hg hmu hsu hru hx hz hB hI hkv hmem
     generalize takeJ u kv=tk at hg2 CT3 hmt hst
     obtain⟨t1,et⟩:=tk
     dsimp only at hg2 CT3 hmt hst
     go_upto_region 8 with fail
     refine CT3.out.mono ?_
     rintro en w4 ⟨cs,rfl,hrd,hb⟩
     obtain⟨zk,zg,za,zl,zc,ze,zs,zaa,zan,zac,zoa,zon,zoc,rfl⟩:=RdV.sevenB hrd
     have q4:=hid (ae q3.out hb)
     have x4:=hid (af x3.out hb)
     have z4:=hid (af z3.out hb)
     have i4:=hid (i3.out.next hb)
     have hrd4:=hid hrd
     clear p0 p1 p2 p3 p4 p5 p6 u0 u1 u2 u3 u4 u5 u6 f0 f1 f2 f3 f4 f5 f6 hlu hlx
     obtain⟨⟨g0,g1,g2,g3,g4,g5,g6⟩,f0',f1',f2',f3',f4',f5',f6'⟩:=ag x4.out
     obtain⟨W5,hW5⟩:∃W5,W5=w4.setCells w.heap.size 0 [.int .i64 zk,.bool zg,.slice za zl zc,.int .i64 ze,.string zs,.slice zaa zan zac,.slice zoa zon zoc]:=⟨_,rfl⟩
     have hN5:=hid (show (((((((w4.setCell ⟨w.heap.size,0,none⟩ (.int .i64 zk)).setCell ⟨w.heap.size,1,none⟩ (.bool zg)).setCell ⟨w.heap.size,2,none⟩ (.slice za zl zc)).setCell ⟨w.heap.size,3,none⟩ (.int .i64 ze)).setCell ⟨w.heap.size,4,none⟩ (.string zs)).setCell ⟨w.heap.size,5,none⟩ (.slice zaa zan zac)).setCell ⟨w.heap.size,6,none⟩ (.slice zoa zon zoc))=W5 by rw[hW5];rfl)
     have q5:=hid (aF w.heap.size (Nat.le_refl _) [.int .i64 zk,.bool zg,.slice za zl zc,.int .i64 ze,.string zs,.slice zaa zan zac,.slice zoa zon zoc] 0 w4 q4.out)
     have x5:=hid (gV (d0:=.int .i64 zk) (d1:=.bool zg) (d2:=.slice za zl zc) (d3:=.int .i64 ze) (d4:=.string zs) (d5:=.slice zaa zan zac) (d6:=.slice zoa zon zoc) x4.out)
     have z5:=hid ((jD [.int .i64 zk,.bool zg,.slice za zl zc,.int .i64 ze,.string zs,.slice zaa zan zac,.slice zoa zon zoc] 0 w4 (w.heap.size+1) (show w.heap.size+1≠w.heap.size by omega)).trans z4.out)
     have r5':=hid (RdX.keep (r:=w.heap.size) (o:=0) (zs:=[.int .i64 zk,.bool zg,.slice za zl zc,.int .i64 ze,.string zs,.slice zaa zan zac,.slice zoa zon zoc]) hrd4.out (Or.inl (Or.inr rfl)))
     have i5:=hid (show In (And1 (And1 A w.heap.size) (w.heap.size+1)) (w4.setCells w.heap.size 0 [.int .i64 zk,.bool zg,.slice za zl zc,.int .i64 ze,.string zs,.slice zaa zan zac,.slice zoa zon zoc]) from fun k hk=>by rw[bU];exact i4.out k hk)
     rw[←hW5] at q5 x5 z5 r5' i5
     clear q3 q4 x3 x4 z3 z4 i3 i4 CT3 hb hrd hrd4 hW5
     go_upto_region 8 with fail
     rw[hN5.out]
     clear hN5 g0 g1 g2 g3 g4 g5 g6 f0' f1' f2' f3' f4' f5' f6'
     by_cases he:et=0
     ·have hg3:=hg2.out
      rw[if_neg (by omega)] at hg3
      subst he
      replace hg3:=hid hg3
      clear hg2 hput hbad
      go_wp2_with fail
      go_roundw
      case rel=>exact⟨i+1,t1,zk,zg,za,zl,zc,ze,zs,zaa,zan,zac,zoa,zon,zoc,by omega,by go_num,hg3,hmt,hst,r5',x5,z5,q5,i5⟩
      case measure=>simp[intOf];omega
     ·have hg3:=hg2.out
      rw[if_pos he] at hg3
      have hq:=hid (hbad.out et (congrArg Prod.fst hg3).symm (congrArg Prod.snd hg3) _ q5.out)
      have hne:((et:Int) != 0)=true:=by rw[bne_iff_ne];omega
      obtain⟨⟨r0,r1,r2,r3,r4,r5,r6⟩,s0,s1,s2,s3,s4,s5,s6⟩:=ag z5.out
      clear hg3 hg2 hput hbad he x5 q5 r5' i5
      go_wp2_with fail
      refine bodyPost_ret (v:=.tuple #[.agg #[.int .i64 0,.bool false,.slice none 0 0,.int .i64 0,.string ⟨#[]⟩,.slice none 0 0,.slice none 0 0],.int .i64 et]) (by simp[results,Tryz.results14,go_sem,r0,r1,r2,r3,r4,r5,r6]) rfl ?_
      exact hq.out
    ·obtain rfl:i=pl:=by omega
     have hlt2:¬ ((i:Nat):Int)<(i:Int):=by omega
     have hg2:=hg.out
     rw[List.drop_of_length_le (by rw[←hpl2.out];exact Nat.le_refl _)] at hg2
     have e1:u=r:=congrArg Prod.fst hg2
     have e2:0=er:=congrArg Prod.snd hg2
     have hF:=hid (hput.out u 0 wr _ _ _ _ _ _ _ e1 e2 hru.out hB.out)
     obtain⟨⟨r0,r1,r2,r3,r4,r5,r6⟩,s0,s1,s2,s3,s4,s5,s6⟩:=ag hz.out
     clear hg hg2 e1 e2 hput hbad
     go_wp2_with fail
     refine bodyPost_ret (v:=.tuple #[.agg #[.int .i64 ck,.bool cg,.slice ca cl cc,.int .i64 ce,.string cs,.slice caa can cac,.slice coa con coc],.int .i64 0]) (by simp[results,Tryz.results14,go_sem,r0,r1,r2,r3,r4,r5,r6]) rfl ?_
     exact hF.out
open Classical in
theorem zX (A:Nat→Prop)(v:JV)(path:List JV)(cs:List Value)(pa:Option Addr)(pc:Nat)(w:World)(hIn:In A w)(sv:SmallV v)(hp:path.length≤1048576)(rv:RdX A w cs v)(rp:RdA w pa path)(hT:Tabs w) :
  Calls Tryz.prog 14 #[.agg cs.toArray,.slice pa path.length pc] w (OutX A w (getPJ v path).1 (getPJ v path).2):=by
 have rv':=RdX.rd rv
 obtain⟨xk,xg,xa,xl,xc,xe,xs,xaa,xan,xac,xoa,xon,xoc,rfl⟩:=RdV.sevenB rv
 refine zV A xk xg xa xl xc xe xs xaa xan xac xoa xon xoc pa path.length pc v path (decide (∀x ∈ [v],mayJ 200 x=true)) (decide (∀x ∈ path,mayJ 200 x=true)) _ _ w hIn rfl hp rv rp ?_ ?_ ?_ ?_ sv ?_ ?_
 ·intro W b hb hh
  exact bP [v] _ 1 W (rda1 xk xg xa xl xc xe xs xaa xan xac xoa xon xoc hh (rv'.stay hb)) (by simp) (hT.below hb)
 ·intro W hb
  exact bP path pa pc W (rp.below hb) (by omega) (hT.below hb)
 ·intro _ h2 A2 u k cs ck W hk hu su hi ru rk hb
  exact fV A2 u k cs ck W hi hu (of_decide_eq_true h2 k hk) su ru rk (hT.below hb)
 ·intro h
  exact of_decide_eq_true h v (by simp)
 ·intro h1 h2
  unfold getPJ
  rw[if_pos ⟨of_decide_eq_true h1 v (by simp),of_decide_eq_true h2⟩]
 ·intro h
  unfold getPJ
  rw[if_neg]
  ·exact⟨rfl,rfl⟩
  ·rintro ⟨h1,h2⟩
   rcases h with h | h
   ·exact of_decide_eq_false h (by simpa using h1)
   ·exact of_decide_eq_false h h2
end Go.Proofs.YtcgbmmalfbpjaaaGreatDoor
