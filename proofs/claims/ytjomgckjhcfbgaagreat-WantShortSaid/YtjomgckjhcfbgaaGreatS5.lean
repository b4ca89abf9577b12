/- Walks. -/
import Derived.Test.YtjomgckjhcfbgaaGreatS4
set_option maxRecDepth 100000
set_option maxHeartbeats 64000000
set_option linter.all false
namespace Go.Proofs.YtjomgckjhcfbgaaGreat
open Go.RowKit
open _root_.List renaming getElem?_eq_getElem→GN,getElem?_eq_some_iff→GQ,length_append→GU,mem_of_getElem?→GV,length_take→Ht
open _root_.Nat renaming lt_of_lt_of_le→Hd,le_refl→He,zero_add→Hf,zero_le→Hg
open _root_.Option renaming some.inj→Hl
open Go.RowKit.Below renaming refl→Hw,heap_alloc→Hy
open Go renaming heap_setCell_same→Hz,World→H5
open Go.RowKit renaming Below→H9,Hid→Ia
open Tryz
theorem nu {c:Nat}{p:Pg}{L:Nat}{f0 f1 f2 f3 f4 f5 f6:Value}{sA:Option Addr}{sC:Nat}{S:List Fd}(kd:Int)(hkd:kd=8∨kd=9)(tb:Bool)(ts nm:ByteArray)(eo:Option Addr)(en ec:Nat)(ln cl:Int)(w:H5)(h:Ck c p L f0 f1 f2 f3 f4 f5 f6 sA sC S w)
  (hpl:∀W,H9 w.heap.size w W→Calls prog 268 #[.pointer (some ⟨c,0,none⟩),.agg #[.int .i64 kd,.bool tb,.string ts,.string nm,.slice eo en ec,.slice none 0 0,.slice none 0 0,.int .i64 ln,.int .i64 cl]] W fun en w'=>en= .returned (.tuple #[])∧H9 W.heap.size W w'):
  Calls prog 244 #[.pointer (some ⟨c,0,none⟩),.agg #[.int .i64 kd,.bool tb,.string ts,.string nm,.slice eo en ec,.slice none 0 0,.slice none 0 0,.int .i64 ln,.int .i64 cl]] w fun en w'=>en= .returned (.tuple #[])∧H9 w.heap.size w w':=by
 obtain⟨N,hN⟩:=zE w.heap.size;obtain⟨W1,hW1⟩:=zE (w.alloc (.cells #[.int .i64 kd,.bool tb,.string ts,.string nm,.slice eo en ec,.slice none 0 0,.slice none 0 0,.int .i64 ln,.int .i64 cl] 282));have hb1:=gZ hW1 hN;have hr1:W1.heap[N]?=some (.cells #[.int .i64 kd,.bool tb,.string ts,.string nm,.slice eo en ec,.slice none 0 0,.slice none 0 0,.int .i64 ln,.int .i64 cl] 282 (0,0)):=by rw[←hW1,←hN];exact alloc_at _ _
 have hN1:=ae hr1;have h1:=h.grow (by rw[hN];exact hb1);have HBD:=zH (dz W1 h1);have HPL:=zH (hpl W1 (by rw[hN];exact hb1));obtain⟨⟨a0,a1,a2,a3,a4,a5,a6,a7,a8⟩,_,hN1'⟩:=fq hr1;have HW1:=zH hW1;have HB1:=zH hb1;clear h hpl hW1 hb1 hr1 h1;rcases hkd with rfl|rfl<;>(
  go_enter func244,ntmps244
  go_upto_region 1 with(fail)
  rw[HW1.out]
  go_wp2_with (first
   |(go_at_call 178;refine HBD.out.mono ?_;rintro e W1 ⟨rfl,rfl⟩)
   |(go_at_call 268;refine HPL.out.mono ?_;rintro e w2 ⟨rfl,hb2⟩;have HB2:=zH hb2;clear hb2))
  go_end0
  exact⟨rfl,by(try rw[hN]);exact HB1.out.trans (HB2.out.mono (Nat.le_of_lt hN1))⟩)
theorem qK {α:Type}{f:α→List Value}{m:Nat}(hm:0<m)(hf:∀x,(f x).length=m):∀(l:List α)(j:Nat)(u:Value),(l.flatMap f)[j]?=some u→∃k q x,l[k]?=some x∧(f x)[q]?=some u∧j=k*m+q
 |[],j,u,h=>by simp at h
 |y::l,j,u,h=>by
  rw[List.flatMap_cons] at h
  by_cases hj:j<m
  ·rw[List.getElem?_append_left (by rw[hf];exact hj)] at h
   exact⟨0,j,y,rfl,h,by omega⟩
  ·rw[List.getElem?_append_right (by rw[hf];omega),hf] at h
   obtain⟨k,q,x,h1,h2,h3⟩:=qK hm hf l (j-m) u h;exact⟨k+1,q,x,by simpa using h1,h2,by rw[Nat.succ_mul];omega⟩
theorem lu {α:Type}{f:α→List Value}{m:Nat}(hf:∀x,(f x).length=m):∀l:List α,(l.flatMap f).length=l.length*m
 |[]=>by simp
 |y::l=>by rw[List.flatMap_cons,GU,hf,lu hf l,List.length_cons,Nat.succ_mul,Nat.add_comm]
theorem Av (S:List Fd):∀u∈S.flatMap sj,u.oneCell'=true:=by
 intro u hu;obtain⟨f,_,hf⟩:=List.mem_flatMap.1 hu
 revert hf;unfold sj Fd.cells
 simp;rintro(rfl|rfl|rfl|rfl|rfl)<;>rfl
def Cj (c:Nat)(p:Pg)(L:Nat)(f0 f1 f2 f3 f4 f5 f6:Value)(S:List Fd)(w w':H5):Prop:=∃sA sC,Ck c p L f0 f1 f2 f3 f4 f5 f6 sA sC S w'∧Ext (·=c) w w'
theorem lw {W:H5}{g:Nat}{a0 a1 a2 a3 a4 a5 a6 a7 a8 a9 a10 a11 a12 a13 a14 u:Value}{t:TypeId}(hg:W.heap[g]?=some (.cells #[a0,a1,a2,a3,a4,a5,a6,a7,a8,a9,a10,a11,a12,a13,a14] t (0,0))):
  (W.setCell ⟨g,9,none⟩ u).heap[g]?=some (.cells #[a0,a1,a2,a3,a4,a5,a6,a7,a8,u,a10,a11,a12,a13,a14] t (0,0)):=Hz _ g 9 _ _ u hg
theorem yt {c:Nat}{p:Pg}{L:Nat}{f0 f1 f2 f3 f4 f5 f6:Value}{y:Ty}{sA:Option Addr}{sC:Nat}{S:List Fd}{e:Ex}{g cp:Nat}(nm:ByteArray)(ln cl:Int)(w:H5)(h:Ck c p L f0 f1 f2 f3 f4 f5 f6 sA sC S w)(hy:DD p S e y)(hyt:y=(true,p.snm))(hno:jJ S nm=none)(hS1:S.length≤900000)(hg:Ci w g e):
  Calls prog 244 #[.pointer (some ⟨c,0,none⟩),.agg #[.int .i64 1,.bool y.1,.string y.2,.string nm,.slice (some ⟨g,0,none⟩) 1 cp,.slice none 0 0,.slice none 0 0,.int .i64 ln,.int .i64 cl]] w fun en w'=>en= .returned (.tuple #[])∧Cj c p L f0 f1 f2 f3 f4 f5 f6 (S++[⟨nm,y.1,y.2,0,0⟩]) w w':=by
 obtain⟨N,hN⟩:=zE w.heap.size;obtain⟨W1,hW1⟩:=zE (w.alloc (.cells #[.int .i64 1,.bool y.1,.string y.2,.string nm,.slice (some ⟨g,0,none⟩) 1 cp,.slice none 0 0,.slice none 0 0,.int .i64 ln,.int .i64 cl] 282));have hb1:=gZ hW1 hN;have hr1:W1.heap[N]?=some (.cells #[.int .i64 1,.bool y.1,.string y.2,.string nm,.slice (some ⟨g,0,none⟩) 1 cp,.slice none 0 0,.slice none 0 0,.int .i64 ln,.int .i64 cl] 282 (0,0)):=by rw[←hW1,←hN];exact alloc_at _ _
 have hN1:=ae hr1;have h1:=h.grow (by rw[hN];exact hb1);have hg1:=hg.grow (by rw[hN];exact hb1);have hgl:=hg1.1;have hcN:c<N:=by rw[←hN];exact ae h.row
 have HBD:=zH (dz W1 h1);have hst:∀(w:H5)(c:Array Value),c.size=2→(storeCells ⟨w.heap.size,0,none⟩ [.bool y.1,.string y.2] 0).run prog (w.alloc (.cells c 32))= .ok () (w.alloc (.cells #[.bool y.1,.string y.2] 32)):=fun w c hc=>
  run_storeCells_new (P:=prog) w 32 c #[.bool y.1,.string y.2] (by show _=some 2;kernel_rfl) hc (by simp[Value.oneCell'])
 have hst0:∀(w:H5)(c:Array Value),c.size=2→(storeCells ⟨w.heap.size,0,none⟩ [.bool false,.string ⟨#[]⟩] 0).run prog (w.alloc (.cells c 32))= .ok () (w.alloc (.cells #[.bool false,.string ⟨#[]⟩] 32)):=fun w c hc=>
  run_storeCells_new (P:=prog) w 32 c #[.bool false,.string ⟨#[]⟩] (by show _=some 2;kernel_rfl) hc (by simp[Value.oneCell'])
 have HST:=zH hst;have HST0:=zH hst0;have HKN:Ia (∀q:BW W1,zP 213 #[.pointer (some ⟨c,0,none⟩),.agg #[.bool y.1,.string y.2]] q.w (.bool true)):=fun q=>by
  rw[hyt];exact o8 p.snm q.w (h1.grow q.h) rfl
 have HA1:Ia (∀q:BW W1,zP 176 #[.pointer (some ⟨c,0,none⟩),.bool true,.int .i64 5,.agg #[.int .i64 ln,.int .i64 cl]] q.w (.bool true)):=fun q=>bQ 5 ln cl q.w (h1.grow q.h);have hEX:∀W,H9 W1.heap.size W1 W→Calls prog 265 #[.pointer (some ⟨c,0,none⟩),.agg e.cells] W fun en w'=>en= .returned (.agg #[.bool y.1,.string y.2])∧H9 W.heap.size W w':=fun W hW=>nk W (h1.grow hW) hy;unfold Ex.cells at hEX;have HEX:=zH hEX;have HLK:Ia (∀W,H9 W1.heap.size W1 W→zP 214 #[.pointer (some ⟨c,0,none⟩),.string nm] W (.tuple #[.agg #[.bool false,.string ⟨#[]⟩],.bool false])):=fun W hW=>by
  have:=jW nm W (h1.grow hW);unfold oz at this;rw[hno] at this;exact this
 have HAK:Ia (∀f a b W,H9 W1.heap.size W1 W→zP 176 #[.pointer (some ⟨c,0,none⟩),.bool true,.int .i64 f,.agg #[.int .i64 a,.int .i64 b]] W (.bool true)):=fun f a b W hW=>bQ f a b W (h1.grow hW);obtain⟨⟨a0,a1,a2,a3,a4,a5,a6,a7,a8⟩,_,hN1'⟩:=fq hr1;have H1:=zH h1;have HG1:=zH hg1;have HW1:=zH hW1;have HB1:=zH hb1;have HR1:=zH hr1;have hLc:=h.hc;obtain⟨i0,hi0,hi1,hi2,hi3⟩:=info_parts BG;clear h hy hyt hno hg hW1 hb1 hr1 h1 hg1 hst hst0 hEX;go_enter func244,ntmps244
 go_upto_region 1 with(fail)
 rw[HW1.out]
 go_upto_region 5 with(go_at_call 178;refine HBD.out.mono ?_;rintro e W1 ⟨rfl,rfl⟩)
 clear a0 a1 a2 a3 a4 a5 a6 a7 a8;have x1:∀q:BW W1,q.w.cell? ⟨N,1,none⟩=some (.bool y.1):=fun q=>(rowAt ((q.h.block N hN1).trans HR1.out) 1 rfl).1;have x2:∀q:BW W1,q.w.cell? ⟨N,2,none⟩=some (.string y.2):=fun q=>(rowAt ((q.h.block N hN1).trans HR1.out) 2 rfl).1;have x7:∀q:BW W1,q.w.cell? ⟨N,7,none⟩=some (.int .i64 ln):=fun q=>(rowAt ((q.h.block N hN1).trans HR1.out) 7 rfl).1;have x8:∀q:BW W1,q.w.cell? ⟨N,8,none⟩=some (.int .i64 cl):=fun q=>(rowAt ((q.h.block N hN1).trans HR1.out) 8 rfl).1
 go_cut [3] (fun s wc=>s= .pointer (some ⟨N,0,none⟩)∧H9 W1.heap.size W1 wc)
 case first=>
  refine zQ ?_
  repeat (go_big_quiet_step (first
   |(go_at_call 213;exact bg (HKN.out _))
   |(go_at_call 176;exact bg (HA1.out _))))
  refine wpQuiet_nil ?_;rintro _ ⟨q,rfl⟩;have hq:=q.h;go_wp2
  go_meet
  case rel=>exact⟨rfl,hq⟩
 case rest=>
  obtain⟨rfl,hbc⟩:=hcut;clear x1 x2 x7 x8;have hgc:=HG1.out.grow hbc;have hrNc:=(hbc.block N hN1).trans HR1.out;obtain⟨⟨a0,a1,a2,a3,a4,a5,a6,a7,a8⟩,_,hNc⟩:=fq hrNc;have e0:=hgc.2 0 _ rfl;have e1:=hgc.2 1 _ rfl;have e2:=hgc.2 2 _ rfl;have e3:=hgc.2 3 _ rfl;have e4:=hgc.2 4 _ rfl;have e5:=hgc.2 5 _ rfl;have e6:=hgc.2 6 _ rfl;have hglc:=hgc.1;have HEXC:=zH (HEX.out wc hbc);have HBC:=zH hbc;clear hgc hrNc hbc
  go_upto_region 7 with(go_at_call 265;refine HEXC.out.mono ?_;rintro en w5 ⟨rfl,hb5⟩;have HB5:=zH (HBC.out.trans (hb5.mono HBC.out.size));have hst5:=HST.out w5;clear hb5)
  clear hst5;obtain⟨T,hT⟩:=zE w5.heap.size;obtain⟨W6,hW6⟩:=zE (w5.alloc (.cells #[.bool y.1,.string y.2] 32));rw[hT,hW6];have hb6:=zD hW6 HB5;have hrT:W6.heap[T]?=some (.cells #[.bool y.1,.string y.2] 32 (0,0)):=by rw[←hW6,←hT];exact alloc_at _ _
  have hTl:=ae hrT;have hg6:=HG1.out.grow hb6;have hrN6:=(hb6.block N hN1).trans HR1.out;have hN6:=ae hrN6;have t0:∀q:BW W6,q.w.cell? ⟨T,0,none⟩=some (.bool y.1):=fun q=>(rowAt ((q.h.block T hTl).trans hrT) 0 rfl).1;have t1:∀q:BW W6,q.w.cell? ⟨T,1,none⟩=some (.string y.2):=fun q=>(rowAt ((q.h.block T hTl).trans hrT) 1 rfl).1;have x1:∀q:BW W6,q.w.cell? ⟨N,1,none⟩=some (.bool y.1):=fun q=>(rowAt ((q.h.block N hN6).trans hrN6) 1 rfl).1;have x2:∀q:BW W6,q.w.cell? ⟨N,2,none⟩=some (.string y.2):=fun q=>(rowAt ((q.h.block N hN6).trans hrN6) 2 rfl).1;have x4:∀q:BW W6,q.w.cell? ⟨N,4,none⟩=some (.slice (some ⟨g,0,none⟩) 1 cp):=fun q=>(rowAt ((q.h.block N hN6).trans hrN6) 4 rfl).1;have g5:∀q:BW W6,q.w.cell? ⟨g,5,none⟩=some (.int .i64 e.ln):=fun q=>(hg6.grow q.h).2 5 _ rfl;have g6:∀q:BW W6,q.w.cell? ⟨g,6,none⟩=some (.int .i64 e.cl):=fun q=>(hg6.grow q.h).2 6 _ rfl;have HA6:Ia (∀q:BW W6,zP 176 #[.pointer (some ⟨c,0,none⟩),.bool true,.int .i64 7,.agg #[.int .i64 e.ln,.int .i64 e.cl]] q.w (.bool true)):=fun q=>HAK.out 7 e.ln e.cl q.w (hb6.trans (q.h.mono hb6.size));have HB6:=zH hb6;have HRN6:=zH hrN6;clear hT hW6 hb6 hrT hg6 hrN6 a0 a1 a2 a3 a4 a5 a6 a7 a8 e0 e1 e2 e3 e4 e5 e6
  go_cut [3] (fun s wd=>s= .pointer (some ⟨N,0,none⟩)∧H9 W6.heap.size W6 wd)
  case first=>
   refine zQ ?_
   repeat (go_big_quiet_step (first
    |(go_at_call 266;exact bg (o7 _ _ _))
    |(go_at_call 176;exact bg (HA6.out _))))
   refine wpQuiet_nil ?_;rintro _ ⟨q,rfl⟩;have hq:=q.h;clear t0 t1 x1 x2 x4 g5 g6;go_wp2
   go_meet
   case rel=>exact⟨rfl,hq⟩
  case rest=>
   clear t0 t1 x1 x2 x4 g5 g6;obtain⟨rfl,hbd⟩:=hcut;have hb1d:=HB6.out.trans (hbd.mono HB6.out.size);have hrNd:=(hbd.block N hN6).trans HRN6.out;obtain⟨⟨a0,a1,a2,a3,a4,a5,a6,a7,a8⟩,_,hNd⟩:=fq hrNd;have HLKD:=zH (HLK.out _ hb1d);have HB1D:=zH hb1d;have HRND:=zH hrNd;clear hbd hb1d hrNd
   go_upto_region 9 with(go_at_call 214;refine HLKD.out.mono ?_;rintro en w7 ⟨rfl,hb7⟩;have HB7:=zH (HB1D.out.trans (hb7.mono HB1D.out.size));have hst7:=HST0.out w7;clear hb7)
   clear hst7;obtain⟨W8,hW8⟩:=zE (w7.alloc (.cells #[.bool false,.string ⟨#[]⟩] 32));rw[hW8];have hb8:=zD hW8 HB7;have hrN8:=(hb8.block N hN1).trans HR1.out;obtain⟨⟨a0,a1,a2,a3,a4,a5,a6,a7,a8⟩,_,hN8⟩:=fq hrN8;have HA8:=zH (HAK.out 6 ln cl W8 hb8);have HB8:=zH hb8;clear hW8 hb8 hrN8
   go_upto_region 10 with(go_at_call 176;refine HA8.out.mono ?_;rintro en wD ⟨rfl,hb9⟩;have HB9:=zH (HB8.out.trans (hb9.mono HB8.out.size));clear hb9)
   have hD:=H1.out.grow HB9.out;have hrND:=(HB9.out.block N hN1).trans HR1.out;obtain⟨B,hB⟩:=zE wD.heap.size;have hNB:N<B:=by rw[←hB];exact ae hrND
   have hcB:c<B:=by omega
   obtain⟨ST,hST⟩:=zE ((fun w'=>H9 B wD w'):H5→Prop);have hSB:∀w,ST w↔H9 B wD w:=fun w=>by rw[←hST]
   have HSB:=zH hSB;have HDR:=zH hD.row;have HNR:=zH hrND;have HSEEN:=zH hD.seen;have hSS:∀w,ST w→w.cell? ⟨c,9,none⟩=some (.slice sA S.length sC)∧w.cell? ⟨N,3,none⟩=some (.string nm)∧w.cell? ⟨N,1,none⟩=some (.bool y.1)∧w.cell? ⟨N,2,none⟩=some (.string y.2)∧c<w.heap.size∧w.frozen? ⟨c,9,none⟩=false:=fun w hw=>by
    have hb:=(hSB w).1 hw;have r1:=(hb.block c hcB).trans HDR.out;have r2:=(hb.block N hNB).trans HNR.out;exact⟨(rowAt r1 9 rfl).1,(rowAt r2 3 rfl).1,(rowAt r2 1 rfl).1,(rowAt r2 2 rfl).1,ae r1,(rowAt r1 9 rfl).2⟩
   have HSS:=zH hSS;obtain⟨wE,hwE⟩:=zE wD.drew;have hS0:ST wE:=(hSB _).2 (by rw[←hwE,←hB];exact(Hw _ _).drew);have HD:=zH hD;have HBE:=zH hB;clear hST hSB hSS hD hrND hB a0 a1 a2 a3 a4 a5 a6 a7 a8;have HSNEW:Ia (∀w,ST w→(sA=none→S.length=0)∧∀ad,sA=some ad→∀j u,(S.flatMap sj)[j]?=some u→w.cell? (ad.add j)=some u):=fun w hw=>by
    have hb:=(HSB.out w).1 hw;constructor
    ·intro hsa
     rcases Nat.eq_zero_or_pos S.length with h|h
     ·exact h
     ·obtain⟨b,off,h1,_⟩:=HSEEN.out (List.length_pos_iff.1 h)
      rw[hsa] at h1;cases h1
    ·intro ad hsa j u hu
     have hne:S≠[]:=by intro e;rw[e] at hu;simp at hu
     obtain⟨b,off,h1,h2,h3⟩:=HSEEN.out hne;rw[hsa] at h1;obtain rfl:=Hl h1;obtain⟨k,q,x,hx,hq,rfl⟩:=qK (f:=sj) (m:=5) (by decide) (fun _=>rfl) S j u hu;rw[Addr.add_lit,hb.cell (p:=⟨b,off+(k*5+q),none⟩) (by show b<B;rw[←HBE.out];exact h2),←Nat.add_assoc];exact h3 k x hx q u hq
   refine aj 16 ST (by kernel_rfl) ?_;rw[hwE];clear hwE;refine zT 0 rfl HSS.out ?_
   try go_simp
   refine zT 2 rfl HSS.out ?_
   try go_simp
   refine zT 3 rfl HSS.out ?_
   try go_simp
   refine zT 4 rfl HSS.out ?_
   try go_simp
   refine zT 5 rfl HSS.out ?_
   try go_simp
   refine zT 7 rfl HSS.out ?_
   try go_simp
   refine zT 8 rfl HSS.out ?_
   try go_simp
   refine zT 9 rfl HSS.out ?_
   try go_simp
   refine zT 10 rfl HSS.out ?_
   try go_simp
   refine zT 11 rfl HSS.out ?_
   try go_simp
   have hBe_wE:H9 B wD wE:=(HSB.out _).1 hS0;refine kM (i:=1) (j:=12) (by kernel_rfl) (by decide) (by decide) rfl rfl (fun K' hK=> ?_) (fun K' hK=> ?_)
   ·rw[if_pos (by rfl)]
    go_simp;obtain⟨Wa,hWa⟩:=zE (wE.alloc (.cells #[] 92));obtain⟨ba,hba⟩:=zE wE.heap.size;have hBeWa:H9 B wD Wa:=by rw[←hWa];exact hBe_wE.alloc (by have:=hBe_wE.size;rw[HBE.out] at this;exact this) _
    have hBe_Wa:=hBeWa;have hSWa:ST Wa:=(HSB.out _).2 hBeWa;have hbaB:B≤ba:=by rw[←hba];have:=hBe_wE.size;rw[HBE.out] at this;exact this
    have hsWa:Ia (Wa.heap.size=ba+1):=by unfold Ia;rw[←hWa];simp[hba]
    have hoWa:Wa.ownsRow B 92 5 (.slice (some ⟨ba,0,none⟩) 0 0) 0 []:=by rw[←hWa,←hba];exact jB _ _ _ _ (by rw[hba];exact hbaB)
    try rw[hWa]
    try rw[hba]
    refine hK _ _ hSWa ?_;clear hK
    try go_simp
    refine kM (i:=6) (j:=12) (by kernel_rfl) (by decide) (by decide) rfl rfl (fun K' hK=> ?_) (fun K' hK=> ?_)
    ·rw[if_pos (by rfl)]
     refine aF (.tmp 64) (.tmp 68) 88 rfl B 92 i0 _ 5 56 underlying88 hi0 hi1 hi2 hi3 rfl (by decide) (.slice (some ⟨ba,0,none⟩) 0 0) 0 [] rfl hoWa sA S.length sC (S.flatMap sj) rfl (lu (f:=sj) (fun _=>rfl) S) (HSNEW.out _ hSWa).1 (HSNEW.out _ hSWa).2 (Av S) (by unfold maxLen;omega) (by omega) (by have:=hBe_Wa.size;rw[HBE.out] at this;exact this) ?_;intro vb Wb hownWb hgrWb hatWb;have hBeWb:H9 B wD Wb:=hBe_Wa.trans ((Ext.of_grown (M:=fun q=>some ba=some q) hgrWb (fun q hq=> .inl hq)).below (by have:=hBe_Wa.size;rw[HBE.out] at this;exact this) (fun q hq=>by have:=Hl hq;omega));have hBe_Wb:=hBeWb;have hSWb:ST Wb:=(HSB.out _).2 hBeWb;rw[Hf,List.nil_append] at hownWb;refine hK _ _ hSWb ?_;clear hK
     try go_simp
     refine zO 12 rfl fun K' hK=> ?_;go_simp;obtain⟨Wc,hWc⟩:=zE (Wb.alloc (.cells #[.string nm,.bool y.1,.string y.2,.int .i64 0,.int .i64 0] 92));obtain⟨bc,hbc⟩:=zE Wb.heap.size;have hBeWc:H9 B wD Wc:=by rw[←hWc];exact hBe_Wb.alloc (by have:=hBe_Wb.size;rw[HBE.out] at this;exact this) _
     have hBe_Wc:=hBeWc;have hSWc:ST Wc:=(HSB.out _).2 hBeWc;have hsWc:Ia (Wc.heap.size=bc+1):=by unfold Ia;rw[←hWc];simp[hbc]
     have hcWc:Wc.heap[bc]?=some (.cells #[.string nm,.bool y.1,.string y.2,.int .i64 0,.int .i64 0] 92 (0,0)):=by rw[←hWc,←hbc];exact alloc_at _ _
     try rw[hWc]
     try rw[hbc]
     refine hK _ _ hSWc ?_;clear hK
     try go_simp
     have hownWc:Wc.ownsRow B 92 5 vb S.length (S.flatMap sj):=by rw[←hWc];exact ownsRow_below hownWb ((Hw _ _).alloc (He _) _)
     refine zO 13 rfl fun K' hK=> ?_;refine aF (.tmp 69) (.tmp 75) 88 rfl B 92 i0 _ 5 56 underlying88 hi0 hi1 hi2 hi3 rfl (by decide) vb S.length (S.flatMap sj) rfl hownWc (some ⟨bc,0,none⟩) 1 1 [.string nm,.bool y.1,.string y.2,.int .i64 0,.int .i64 0] rfl rfl (fun h=>by cases h) (fun ad had jj uu hu=>by
      obtain rfl:(⟨bc,0,none⟩:Addr)=ad:=by simpa using had
      rw[Addr.add_lit,Hf,cell_of_row _ _ _ _ _ _ hcWc];simpa using hu) (by simp[Value.oneCell']) (by unfold maxLen;omega) (by omega) (by have:=hBe_Wc.size;rw[HBE.out] at this;exact this) ?_
     intro vz wz hownz hgrz hatz;obtain⟨gz,cz,hvz,hgz,hgzl⟩:=fu hownz;subst hvz;have hBez:H9 B wD wz:=hBe_Wc.trans ((Ext.of_grown (M:=fun q=>vb.ownBlock=some q) hgrz (fun q hq=> .inl hq)).below (by have:=hBe_Wc.size;rw[HBE.out] at this;exact this) (fun q hq=>(ai hownWc hq).1));have hSz:ST wz:=(HSB.out _).2 hBez;refine hK _ _ hSz ?_;clear hK
     try go_simp
     refine zT 14 rfl HSS.out ?_
     try go_simp
     refine zT 15 rfl HSS.out ?_
     try go_simp
     obtain⟨s1,s2,s3,s4,s5,s6⟩:=HSS.out wz hSz;refine zK rfl fun K' hK=> ?_;go_simp;refine hK _ _ ?_;clear hK;refine⟨by kernel_rfl, ?_⟩;have hrz:=(hBez.block c hcB).trans HDR.out;have hFIN:Cj c p L f0 f1 f2 f3 f4 f5 f6 (S++[⟨nm,y.1,y.2,0,0⟩]) w (wz.setCell ⟨c,9,none⟩ (.slice (some ⟨gz,0,none⟩) (S.length+1) cz)):=by
      have hxc:Ext (·=c) wz (wz.setCell ⟨c,9,none⟩ (.slice (some ⟨gz,0,none⟩) (S.length+1) cz)):=Ext.set1 wz c 9 _;have hln:(S++[(⟨nm,y.1,y.2,0,0⟩:Fd)]).length=S.length+1:=by rw[GU];rfl
      have hpg:=(HD.out.pg.ext (Ext.of_below_size (M:=fun _=>False) (show H9 wD.heap.size wD wz by rw[HBE.out];exact hBez)) (fun _ _ h=>h)).ext hxc (fun k hk e=>by omega);have hof:wz.ownsRow B 92 5 (.slice (some ⟨gz,0,none⟩) (S.length+1) cz) (S.length+1) ((S++[(⟨nm,y.1,y.2,0,0⟩:Fd)]).flatMap sj):=by rw[List.flatMap_append];exact hownz
      have hof2:=ah hof hxc (fun q hq e=>by have:=(ai hof hq).1;omega);refine⟨some ⟨gz,0,none⟩,cz,⟨?_,hpg,hLc, ?_,by rw[hln];omega, ?_⟩, ?_⟩
      ·rw[hln];exact lw hrz
      ·exact eO (cells:=Fd.cells) (m:=5) (fun _=>rfl) hof2 hln.symm
      ·intro a _ ha e
       obtain rfl:=Hl ha;have:gz=c:=e;omega
      ·exact((Ext.of_below_size (M:=(·=c)) (show H9 w.heap.size w W1 by rw[hN];exact HB1.out)).trans (Ext.of_below_size (M:=(·=c)) (HB9.out.trans ((show H9 wD.heap.size wD wz by rw[HBE.out];exact hBez).mono HB9.out.size))) (fun k hk=> .inl hk)).trans hxc (fun k hk=> .inl hk)
     have HFIN:=zH hFIN;clear hFIN;go_wp2
     go_end0
     exact⟨rfl,HFIN.out⟩
    ·rw[if_pos (by rfl)]
     go_simp;obtain⟨Wc,hWc⟩:=zE (Wa.alloc (.cells #[.string nm,.bool y.1,.string y.2,.int .i64 0,.int .i64 0] 92));obtain⟨bc,hbc⟩:=zE Wa.heap.size;have hBeWc:H9 B wD Wc:=by rw[←hWc];exact hBe_Wa.alloc (by have:=hBe_Wa.size;rw[HBE.out] at this;exact this) _
     have hBe_Wc:=hBeWc;have hSWc:ST Wc:=(HSB.out _).2 hBeWc;have hsWc:Ia (Wc.heap.size=bc+1):=by unfold Ia;rw[←hWc];simp[hbc]
     have hcWc:Wc.heap[bc]?=some (.cells #[.string nm,.bool y.1,.string y.2,.int .i64 0,.int .i64 0] 92 (0,0)):=by rw[←hWc,←hbc];exact alloc_at _ _
     try rw[hWc]
     try rw[hbc]
     refine hK _ _ hSWc ?_;clear hK
     try go_simp
     have hoWc:Wc.ownsRow B 92 5 (.slice (some ⟨ba,0,none⟩) 0 0) 0 []:=by rw[←hWc];exact ownsRow_below hoWa ((Hw _ _).alloc (He _) _)
     refine zO 6 rfl fun K' hK=> ?_;refine aF (.tmp 64) (.tmp 68) 88 rfl B 92 i0 _ 5 56 underlying88 hi0 hi1 hi2 hi3 rfl (by decide) (.slice (some ⟨ba,0,none⟩) 0 0) 0 [] rfl hoWc sA S.length sC (S.flatMap sj) rfl (lu (f:=sj) (fun _=>rfl) S) (HSNEW.out _ hSWc).1 (HSNEW.out _ hSWc).2 (Av S) (by unfold maxLen;omega) (by omega) (by have:=hBe_Wc.size;rw[HBE.out] at this;exact this) ?_;intro vb Wb hownWb hgrWb hatWb;have hBeWb:H9 B wD Wb:=hBe_Wc.trans ((Ext.of_grown (M:=fun q=>some ba=some q) hgrWb (fun q hq=> .inl hq)).below (by have:=hBe_Wc.size;rw[HBE.out] at this;exact this) (fun q hq=>by have:=Hl hq;omega));have hBe_Wb:=hBeWb;have hSWb:ST Wb:=(HSB.out _).2 hBeWb;rw[Hf,List.nil_append] at hownWb;refine hK _ _ hSWb ?_;clear hK
     try go_simp
     have hcWb:Wb.heap[bc]?=some (.cells #[.string nm,.bool y.1,.string y.2,.int .i64 0,.int .i64 0] 92 (0,0)):=(Ext.of_grown (M:=fun q=>some ba=some q) hgrWb (fun q hq=> .inl hq)).heap hcWc (by intro h;have:=Hl h;have:=hsWa.out;have:=hsWc.out;omega);refine zO 13 rfl fun K' hK=> ?_;refine aF (.tmp 69) (.tmp 75) 88 rfl B 92 i0 _ 5 56 underlying88 hi0 hi1 hi2 hi3 rfl (by decide) vb S.length (S.flatMap sj) rfl hownWb (some ⟨bc,0,none⟩) 1 1 [.string nm,.bool y.1,.string y.2,.int .i64 0,.int .i64 0] rfl rfl (fun h=>by cases h) (fun ad had jj uu hu=>by
      obtain rfl:(⟨bc,0,none⟩:Addr)=ad:=by simpa using had
      rw[Addr.add_lit,Hf,cell_of_row _ _ _ _ _ _ hcWb];simpa using hu) (by simp[Value.oneCell']) (by unfold maxLen;omega) (by omega) (by have:=hBe_Wb.size;rw[HBE.out] at this;exact this) ?_
     intro vz wz hownz hgrz hatz;obtain⟨gz,cz,hvz,hgz,hgzl⟩:=fu hownz;subst hvz;have hBez:H9 B wD wz:=hBe_Wb.trans ((Ext.of_grown (M:=fun q=>vb.ownBlock=some q) hgrz (fun q hq=> .inl hq)).below (by have:=hBe_Wb.size;rw[HBE.out] at this;exact this) (fun q hq=>(ai hownWb hq).1));have hSz:ST wz:=(HSB.out _).2 hBez;refine hK _ _ hSz ?_;clear hK
     try go_simp
     refine zT 14 rfl HSS.out ?_
     try go_simp
     refine zT 15 rfl HSS.out ?_
     try go_simp
     obtain⟨s1,s2,s3,s4,s5,s6⟩:=HSS.out wz hSz;refine zK rfl fun K' hK=> ?_;go_simp;refine hK _ _ ?_;clear hK;refine⟨by kernel_rfl, ?_⟩;have hrz:=(hBez.block c hcB).trans HDR.out;have hFIN:Cj c p L f0 f1 f2 f3 f4 f5 f6 (S++[⟨nm,y.1,y.2,0,0⟩]) w (wz.setCell ⟨c,9,none⟩ (.slice (some ⟨gz,0,none⟩) (S.length+1) cz)):=by
      have hxc:Ext (·=c) wz (wz.setCell ⟨c,9,none⟩ (.slice (some ⟨gz,0,none⟩) (S.length+1) cz)):=Ext.set1 wz c 9 _;have hln:(S++[(⟨nm,y.1,y.2,0,0⟩:Fd)]).length=S.length+1:=by rw[GU];rfl
      have hpg:=(HD.out.pg.ext (Ext.of_below_size (M:=fun _=>False) (show H9 wD.heap.size wD wz by rw[HBE.out];exact hBez)) (fun _ _ h=>h)).ext hxc (fun k hk e=>by omega);have hof:wz.ownsRow B 92 5 (.slice (some ⟨gz,0,none⟩) (S.length+1) cz) (S.length+1) ((S++[(⟨nm,y.1,y.2,0,0⟩:Fd)]).flatMap sj):=by rw[List.flatMap_append];exact hownz
      have hof2:=ah hof hxc (fun q hq e=>by have:=(ai hof hq).1;omega);refine⟨some ⟨gz,0,none⟩,cz,⟨?_,hpg,hLc, ?_,by rw[hln];omega, ?_⟩, ?_⟩
      ·rw[hln];exact lw hrz
      ·exact eO (cells:=Fd.cells) (m:=5) (fun _=>rfl) hof2 hln.symm
      ·intro a _ ha e
       obtain rfl:=Hl ha;have:gz=c:=e;omega
      ·exact((Ext.of_below_size (M:=(·=c)) (show H9 w.heap.size w W1 by rw[hN];exact HB1.out)).trans (Ext.of_below_size (M:=(·=c)) (HB9.out.trans ((show H9 wD.heap.size wD wz by rw[HBE.out];exact hBez).mono HB9.out.size))) (fun k hk=> .inl hk)).trans hxc (fun k hk=> .inl hk)
     have HFIN:=zH hFIN;clear hFIN;go_wp2
     go_end0
     exact⟨rfl,HFIN.out⟩
   ·rw[if_pos (by rfl)]
    go_simp;obtain⟨Wc,hWc⟩:=zE (wE.alloc (.cells #[.string nm,.bool y.1,.string y.2,.int .i64 0,.int .i64 0] 92));obtain⟨bc,hbc⟩:=zE wE.heap.size;have hBeWc:H9 B wD Wc:=by rw[←hWc];exact hBe_wE.alloc (by have:=hBe_wE.size;rw[HBE.out] at this;exact this) _
    have hBe_Wc:=hBeWc;have hSWc:ST Wc:=(HSB.out _).2 hBeWc;have hsWc:Ia (Wc.heap.size=bc+1):=by unfold Ia;rw[←hWc];simp[hbc]
    have hcWc:Wc.heap[bc]?=some (.cells #[.string nm,.bool y.1,.string y.2,.int .i64 0,.int .i64 0] 92 (0,0)):=by rw[←hWc,←hbc];exact alloc_at _ _
    try rw[hWc]
    try rw[hbc]
    refine hK _ _ hSWc ?_;clear hK
    try go_simp
    refine zO 1 rfl fun K' hK=> ?_;go_simp;obtain⟨Wa,hWa⟩:=zE (Wc.alloc (.cells #[] 92));obtain⟨ba,hba⟩:=zE Wc.heap.size;have hBeWa:H9 B wD Wa:=by rw[←hWa];exact hBe_Wc.alloc (by have:=hBe_Wc.size;rw[HBE.out] at this;exact this) _
    have hBe_Wa:=hBeWa;have hSWa:ST Wa:=(HSB.out _).2 hBeWa;have hbaB:B≤ba:=by rw[←hba];have:=hBe_Wc.size;rw[HBE.out] at this;exact this
    have hsWa:Ia (Wa.heap.size=ba+1):=by unfold Ia;rw[←hWa];simp[hba]
    have hoWa:Wa.ownsRow B 92 5 (.slice (some ⟨ba,0,none⟩) 0 0) 0 []:=by rw[←hWa,←hba];exact jB _ _ _ _ (by rw[hba];exact hbaB)
    try rw[hWa]
    try rw[hba]
    refine hK _ _ hSWa ?_;clear hK
    try go_simp
    have hcWa:Wa.heap[bc]?=some (.cells #[.string nm,.bool y.1,.string y.2,.int .i64 0,.int .i64 0] 92 (0,0)):=by rw[←hWa];exact(Hy _ _ bc (by have:=hsWc.out;omega)).trans hcWc
    refine zO 6 rfl fun K' hK=> ?_;refine aF (.tmp 64) (.tmp 68) 88 rfl B 92 i0 _ 5 56 underlying88 hi0 hi1 hi2 hi3 rfl (by decide) (.slice (some ⟨ba,0,none⟩) 0 0) 0 [] rfl hoWa sA S.length sC (S.flatMap sj) rfl (lu (f:=sj) (fun _=>rfl) S) (HSNEW.out _ hSWa).1 (HSNEW.out _ hSWa).2 (Av S) (by unfold maxLen;omega) (by omega) (by have:=hBe_Wa.size;rw[HBE.out] at this;exact this) ?_;intro vb Wb hownWb hgrWb hatWb;have hBeWb:H9 B wD Wb:=hBe_Wa.trans ((Ext.of_grown (M:=fun q=>some ba=some q) hgrWb (fun q hq=> .inl hq)).below (by have:=hBe_Wa.size;rw[HBE.out] at this;exact this) (fun q hq=>by have:=Hl hq;omega));have hBe_Wb:=hBeWb;have hSWb:ST Wb:=(HSB.out _).2 hBeWb;rw[Hf,List.nil_append] at hownWb;refine hK _ _ hSWb ?_;clear hK
    try go_simp
    have hcWb:Wb.heap[bc]?=some (.cells #[.string nm,.bool y.1,.string y.2,.int .i64 0,.int .i64 0] 92 (0,0)):=(Ext.of_grown (M:=fun q=>some ba=some q) hgrWb (fun q hq=> .inl hq)).heap hcWa (by intro h;have:=Hl h;have:=hsWa.out;have:=hsWc.out;omega);refine zO 13 rfl fun K' hK=> ?_;refine aF (.tmp 69) (.tmp 75) 88 rfl B 92 i0 _ 5 56 underlying88 hi0 hi1 hi2 hi3 rfl (by decide) vb S.length (S.flatMap sj) rfl hownWb (some ⟨bc,0,none⟩) 1 1 [.string nm,.bool y.1,.string y.2,.int .i64 0,.int .i64 0] rfl rfl (fun h=>by cases h) (fun ad had jj uu hu=>by
     obtain rfl:(⟨bc,0,none⟩:Addr)=ad:=by simpa using had
     rw[Addr.add_lit,Hf,cell_of_row _ _ _ _ _ _ hcWb];simpa using hu) (by simp[Value.oneCell']) (by unfold maxLen;omega) (by omega) (by have:=hBe_Wb.size;rw[HBE.out] at this;exact this) ?_
    intro vz wz hownz hgrz hatz;obtain⟨gz,cz,hvz,hgz,hgzl⟩:=fu hownz;subst hvz;have hBez:H9 B wD wz:=hBe_Wb.trans ((Ext.of_grown (M:=fun q=>vb.ownBlock=some q) hgrz (fun q hq=> .inl hq)).below (by have:=hBe_Wb.size;rw[HBE.out] at this;exact this) (fun q hq=>(ai hownWb hq).1));have hSz:ST wz:=(HSB.out _).2 hBez;refine hK _ _ hSz ?_;clear hK
    try go_simp
    refine zT 14 rfl HSS.out ?_
    try go_simp
    refine zT 15 rfl HSS.out ?_
    try go_simp
    obtain⟨s1,s2,s3,s4,s5,s6⟩:=HSS.out wz hSz;refine zK rfl fun K' hK=> ?_;go_simp;refine hK _ _ ?_;clear hK;refine⟨by kernel_rfl, ?_⟩;have hrz:=(hBez.block c hcB).trans HDR.out;have hFIN:Cj c p L f0 f1 f2 f3 f4 f5 f6 (S++[⟨nm,y.1,y.2,0,0⟩]) w (wz.setCell ⟨c,9,none⟩ (.slice (some ⟨gz,0,none⟩) (S.length+1) cz)):=by
     have hxc:Ext (·=c) wz (wz.setCell ⟨c,9,none⟩ (.slice (some ⟨gz,0,none⟩) (S.length+1) cz)):=Ext.set1 wz c 9 _;have hln:(S++[(⟨nm,y.1,y.2,0,0⟩:Fd)]).length=S.length+1:=by rw[GU];rfl
     have hpg:=(HD.out.pg.ext (Ext.of_below_size (M:=fun _=>False) (show H9 wD.heap.size wD wz by rw[HBE.out];exact hBez)) (fun _ _ h=>h)).ext hxc (fun k hk e=>by omega);have hof:wz.ownsRow B 92 5 (.slice (some ⟨gz,0,none⟩) (S.length+1) cz) (S.length+1) ((S++[(⟨nm,y.1,y.2,0,0⟩:Fd)]).flatMap sj):=by rw[List.flatMap_append];exact hownz
     have hof2:=ah hof hxc (fun q hq e=>by have:=(ai hof hq).1;omega);refine⟨some ⟨gz,0,none⟩,cz,⟨?_,hpg,hLc, ?_,by rw[hln];omega, ?_⟩, ?_⟩
     ·rw[hln];exact lw hrz
     ·exact eO (cells:=Fd.cells) (m:=5) (fun _=>rfl) hof2 hln.symm
     ·intro a _ ha e
      obtain rfl:=Hl ha;have:gz=c:=e;omega
     ·exact((Ext.of_below_size (M:=(·=c)) (show H9 w.heap.size w W1 by rw[hN];exact HB1.out)).trans (Ext.of_below_size (M:=(·=c)) (HB9.out.trans ((show H9 wD.heap.size wD wz by rw[HBE.out];exact hBez).mono HB9.out.size))) (fun k hk=> .inl hk)).trans hxc (fun k hk=> .inl hk)
    have HFIN:=zH hFIN;clear hFIN;go_wp2
    go_end0
    exact⟨rfl,HFIN.out⟩
def oC (p:Pg)(y:Ty)(S:List Fd)(s:Sm)(S1:List Fd):Prop:=
 (s.kind=8∧∃e,s.es=[e]∧DD p S e y∧S1=S)∨(s.kind=9∧∃fd,jJ S s.nm=some fd∧fd.ty.1=true∧S1=S)∨
 (s.kind=1∧∃e,s.es=[e]∧DD p S e s.ty∧s.ty=(true,p.snm)∧jJ S s.nm=none∧S1=S++[⟨s.nm,s.ty.1,s.ty.2,0,0⟩])
theorem Ck.mv {c:Nat}{p:Pg}{L:Nat}{f0 f1 f2 f3 f4 f5 f6:Value}{sA:Option Addr}{sC:Nat}{S:List Fd}{w w':H5}(h:Ck c p L f0 f1 f2 f3 f4 f5 f6 sA sC S w)(hb:H9 w.heap.size w w'):Cj c p L f0 f1 f2 f3 f4 f5 f6 S w w':=
 ⟨sA,sC,h.grow hb,Ext.of_below_size hb⟩
theorem jh.sm {p:Pg}{L:Nat}{w:H5}(h:jh p L w){s:Sm}(hs:s∈p.ss):(∃ao n cp,s.E= .slice ao n cp)∧∀e,s.es=[e]→∃g cp,s.E= .slice (some ⟨g,0,none⟩) 1 cp∧Ci w g e:=by
 rcases h.ex s hs with⟨h1,h2⟩|⟨g,cap,h1,h2,h3⟩
 ·exact⟨⟨_,_,_,h2⟩,fun e he=>by rw[he] at h1;cases h1⟩
 ·refine⟨⟨_,_,_,h1⟩,fun e he=>⟨g,cap,by rw[h1,he];rfl,Hd h2 h.lo,fun j u hu=> ?_⟩⟩
  have:=h3 0 e (by rw[he];rfl) j u hu;simpa using this
theorem wJ {c:Nat}{p:Pg}{L:Nat}{f0 f1 f4 f5 f6:Value}{y:Ty}{sA:Option Addr}{sC:Nat}{S S1:List Fd}{s:Sm}(w:H5)(h:Ck c p L f0 f1 (.bool y.1) (.string y.2) f4 f5 f6 sA sC S w)(hs:s∈p.ss)(hk:oC p y S s S1)(hS1:S.length≤900000):
  Calls prog 244 #[.pointer (some ⟨c,0,none⟩),.agg s.cells] w fun en w'=>en= .returned (.tuple #[])∧Cj c p L f0 f1 (.bool y.1) (.string y.2) f4 f5 f6 S1 w w':=by
 obtain⟨⟨ao,n,cp,hE⟩,hex⟩:=h.pg.sm hs;rcases hk with⟨h1,e,h2,h3,rfl⟩|⟨h1,fd,h2,h3,rfl⟩|⟨h1,e,h2,h3,h4,h5,rfl⟩
 ·obtain⟨g,cp,hE2,hin⟩:=hex e h2
  unfold Sm.cells;rw[h1,hE2];refine(nu 8 (.inl rfl) s.ty.1 s.ty.2 s.nm (some ⟨g,0,none⟩) 1 cp s.ln s.cl w h (fun W hW=>yo s.ty.1 s.ty.2 s.nm s.ln s.cl W (h.grow hW) h3 (hin.grow hW))).mono ?_;rintro en w' ⟨h6,h7⟩;exact⟨h6,h.mv h7⟩
 ·unfold Sm.cells
  rw[h1,hE];refine(nu 9 (.inr rfl) s.ty.1 s.ty.2 s.nm ao n cp s.ln s.cl w h (fun W hW=>wI s.ty.1 s.ty.2 s.nm ao n cp s.ln s.cl W (h.grow hW) h2 h3)).mono ?_;rintro en w' ⟨h6,h7⟩;exact⟨h6,h.mv h7⟩
 ·obtain⟨g,cp,hE2,hin⟩:=hex e h2
  unfold Sm.cells;rw[h1,hE2];exact yt s.nm s.ln s.cl w h h3 h4 h5 hS1 hin
inductive iF (p:Pg) (y:Ty):List Fd→List Sm→Prop
 |nil (S:List Fd):iF p y S []
 |cons (S S1:List Fd) (s:Sm) (l:List Sm):oC p y S s S1→iF p y S1 l→iF p y S (s::l)
theorem oC.kind {p:Pg}{y:Ty}{S S1:List Fd}{s:Sm}(h:oC p y S s S1):s.plainK:=by
 rcases h with h|h|h
 ·exact .inr (.inr (.inl h.1))
 ·exact .inr (.inr (.inr h.1))
 ·exact .inl h.1
theorem iF.kinds {p:Pg}{y:Ty}{S:List Fd}{l:List Sm}(h:iF p y S l):∀s∈l,s.plainK:=by
 induction h with
 |nil=>simp
 |cons S S1 s l h1 _ ih=>intro x hx;rcases List.mem_cons.1 hx with rfl|hx;exact h1.kind;exact ih x hx
theorem oC.len {p:Pg}{y:Ty}{S S1:List Fd}{s:Sm}(h:oC p y S s S1):S1.length≤S.length+1:=by
 rcases h with⟨_,_,_,_,rfl⟩|⟨_,_,_,_,rfl⟩|⟨_,_,_,_,_,_,rfl⟩
 ·omega
 ·omega
 ·rw[GU];simp
def Gq (c:Nat)(p:Pg)(L:Nat)(f0 f1 f4 f5 f6:Value)(y:Ty)(w:H5)(k:Value)(wr:H5):Prop:=
 ∃(j:Nat) (S:List Fd) (sA:Option Addr) (sC:Nat),k= .int .i64 (j:Int)∧j≤p.ss.length∧S.length≤j∧iF p y S (p.ss.drop j)∧Ck c p L f0 f1 (.bool y.1) (.string y.2) f4 f5 f6 sA sC S wr∧Ext (·=c) w wr
theorem sS {c:Nat}{p:Pg}{L:Nat}{f0 f1 f4 f5 f6:Value}{y:Ty}(w:H5)(h:Ck c p L f0 f1 (.bool y.1) (.string y.2) f4 f5 f6 none 0 [] w)(hk:iF p y [] p.ss)(hss:p.ss.length≤1000)(hen:∀j,j<p.ss.length→(p.ss.take j).any gT=false)(hne:p.ss≠[]):
  Calls prog 215 #[.pointer (some ⟨c,0,none⟩),.slice p.bA p.ss.length p.bC] w fun en w'=>en= .returned (.tuple #[])∧Ck c p L f0 f1 (.bool y.1) (.string y.2) f4 f5 f6 none 0 [] w'∧Ext (·=c) w w':=by
 obtain⟨b,off,hA,hbL,_⟩:=h.pg.st hne;have hLc:=h.hc;have hcw:=ae h.row;have c9:w.cell? ⟨c,9,none⟩=some (.slice none 0 0):=(rowAt h.row 9 rfl).1;have H:=zH h;have HA:=zH hA;have HEN:=zH hen;have HK:=zH hk;have hcr:c<w.heap.size:=hcw;rw[hA];have HBD:Ia (∀sA sC S W,Ck c p L f0 f1 (.bool y.1) (.string y.2) f4 f5 f6 sA sC S W→zS 178 #[.pointer (some ⟨c,0,none⟩)] W (.bool false)):=fun sA sC S W hW=>dz W hW;have HKINDS:Ia (∀s∈p.ss,s.plainK):=hk.kinds;clear h hA hk hen hne;go_enter func215,ntmps215
 go_upto_region 2 with(fail)
 clear c9
 go_loopw [5] (fun k wr=>Gq c p L f0 f1 f4 f5 f6 y w k wr) (fun k _=>p.ss.length-(intOf k).toNat)
 case atStart=>exact⟨0,[],none,0,rfl,Hg _,He _,HK.out,H.out,Ext.refl _ _⟩
 case round=>
  obtain⟨j,S,sA,sC,rfl,hj,hSj,hok,hck,hx⟩:=hrel;have HCK:=zH hck;have HX:=zH hx;have HBDJ:=zH (HBD.out sA sC S wr hck)
  by_cases hjl:j<p.ss.length
  ·have hjI:(j:Int)<(p.ss.length:Int):=by omega
   obtain⟨s,hs⟩:∃s,p.ss[j]?=some s:=⟨_,GN hjl⟩
   have hdrop:p.ss.drop j=s::p.ss.drop (j+1):=by
    rw[List.drop_eq_getElem_cons hjl];have:p.ss[j]=s:=by rw[GN hjl] at hs;exact Hl hs
    rw[this]
   rw[hdrop] at hok;cases hok with
   |cons _ S1 _ _ hst hrest=>
    have hsm:=GV hs;obtain⟨⟨ao,n,cp,hE⟩,_⟩:=hck.pg.sm hsm;have hrowc:∀W,H9 wr.heap.size wr W→(∀(i:Nat)(x:Sm),p.ss[i]?=some x→∀(k:Nat)(u:Value),x.cells.toList[k]?=some u→W.cell? ⟨b,off+i*9+k,none⟩=some u)∧b<W.heap.size:=fun W hW=>by
     have hpg:=(hck.grow hW).pg;obtain⟨b',off',h1,h2,h3⟩:=hpg.st (by intro e;rw[e] at hjl;simp at hjl);rw[HA.out] at h1;simp only[Option.some.injEq,Addr.mk.injEq,and_true] at h1;rw[←h1.1] at h2 h3;rw[←h1.2] at h3;exact⟨h3,Hd h2 hpg.lo⟩
    have hlt:(p.ss.take j).length=j:=by rw[Ht];omega
    have HENDS:Ia (∀q:BW wr,zP 216 #[.slice (some ⟨b,off,none⟩) j p.bC] q.w (.bool false)):=fun q=>by
     have:=lZ b off p.bC (p.ss.take j) (by rw[hlt];omega) (fun x hx=>⟨HKINDS.out x (List.mem_of_mem_take hx),(hck.pg.sm (List.mem_of_mem_take hx)).1⟩) q.w (fun _=>(hrowc q.w q.h).2) (fun i x hx k u hu=>(hrowc q.w q.h).1 i x (by
      have h1:=GQ.1 hx;rw[List.getElem?_take] at hx
      split at hx
      ·exact hx
      ·cases hx) k u hu)
     rw[hlt,HEN.out j hjl] at this;exact this
    have HAK:Ia (∀q:BW wr,zP 176 #[.pointer (some ⟨c,0,none⟩),.bool true,.int .i64 3,.agg #[.int .i64 s.ln,.int .i64 s.cl]] q.w (.bool true)):=fun q=>bQ 3 s.ln s.cl q.w (hck.grow q.h);have HROW:=zH hrowc;have HS:=zH hs;have HST:=zH hst;have HREST:=zH hrest;have HSM:=zH hsm;have HE:=zH hE;have hbl:b<wr.heap.size:=(hrowc wr (Hw _ _)).2;have hjc:j≤p.bC:=by have:=hck.pg.cb;omega
    have hjcI:(j:Int)≤(p.bC:Int):=by omega
    clear hck hx hs hdrop hst hrest hsm hE hrowc hlt
    go_upto_region 4 with(go_at_call 178;refine HBDJ.out.mono ?_;rintro e wr ⟨rfl,rfl⟩)
    have s7:∀q:BW wr,q.w.cell? ⟨b,off+j*9+7,none⟩=some (.int .i64 s.ln):=fun q=>(HROW.out q.w q.h).1 j s HS.out 7 _ rfl;have s8:∀q:BW wr,q.w.cell? ⟨b,off+j*9+8,none⟩=some (.int .i64 s.cl):=fun q=>(HROW.out q.w q.h).1 j s HS.out 8 _ rfl
    go_cut [5] (fun s wc=>s= .int .i64 (j:Int)∧H9 wr.heap.size wr wc)
    case first=>
     refine zQ ?_
     repeat (go_big_quiet_step (first
      |(go_at_call 216;exact bg (HENDS.out _))
      |(go_at_call 176;exact bg (HAK.out _))))
     refine wpQuiet_nil ?_;rintro _ ⟨q,rfl⟩;have hq:=q.h;clear s7 s8;go_wp2
     go_meet
     case rel=>exact⟨rfl,hq⟩
    case rest=>
     obtain⟨rfl,hbc⟩:=hcut;clear s7 s8;have hckc:=HCK.out.grow hbc;have HSTM:=zH (wJ wc hckc HSM.out HST.out (by omega));have k0:=(HROW.out wc hbc).1 j s HS.out 0 _ rfl;have k1:=(HROW.out wc hbc).1 j s HS.out 1 _ rfl;have k2:=(HROW.out wc hbc).1 j s HS.out 2 _ rfl;have k3:=(HROW.out wc hbc).1 j s HS.out 3 _ rfl;have k4:=(HROW.out wc hbc).1 j s HS.out 4 _ rfl;have k5:=(HROW.out wc hbc).1 j s HS.out 5 _ rfl;have k6:=(HROW.out wc hbc).1 j s HS.out 6 _ rfl;have k7:=(HROW.out wc hbc).1 j s HS.out 7 _ rfl;have k8:=(HROW.out wc hbc).1 j s HS.out 8 _ rfl;rw[Nat.add_zero] at k0;have hE:=HE.out;rw[hE] at k4;unfold Sm.cells at HSTM;rw[hE] at HSTM;have hblc:b<wc.heap.size:=(HROW.out wc hbc).2;have HBC:=zH hbc;clear hckc hbc hE
     go_wp2_with (go_at_call 244;refine HSTM.out.mono ?_;rintro en w5 ⟨rfl,sA5,sC5,hck5,hx5⟩;have HCK5:=zH hck5;have HX5:=zH hx5;clear hck5 hx5)
     go_roundw
     case rel=>
      have hl1:=HST.out.len;exact⟨j+1,S1,sA5,sC5,by go_num,hjl,by omega,HREST.out,HCK5.out,(HX.out.trans (Ext.of_below_size (M:=fun _=>False) HBC.out) (fun q h=>h.elim)).trans HX5.out (fun q h=> .inl h)⟩
     case measure=>simp[intOf];omega
  ·have hje:j=p.ss.length:=by omega
   have hrc:=hck.row;have hcl:=ae hrc;have f9:wr.frozen? ⟨c,9,none⟩=false:=(rowAt hrc 9 rfl).2;have c9:wr.cell? ⟨c,9,none⟩=some (.slice sA S.length sC):=(rowAt hrc 9 rfl).1;clear hck hx hok hrc;go_wp2
   go_end0
   have hxc:Ext (·=c) wr (wr.setCell ⟨c,9,none⟩ (.slice none 0 0)):=Ext.set1 wr c 9 _;exact⟨rfl,⟨lw HCK.out.row,HCK.out.pg.ext hxc (fun k hk e=>by omega),hLc,fun h=>absurd rfl h,by simp,fun a h=>absurd rfl h⟩,HX.out.trans hxc (fun q h=> .inl h)⟩
theorem Aw (ao:Option Addr)(cp:Nat)(w:H5):zP 211 #[.slice ao 1 cp] w (.agg #[.int .i64 0,.int .i64 0]):=by
 obtain⟨N,hN⟩:=zE w.heap.size;obtain⟨W1,hW1⟩:=zE (w.alloc (.cells #[.int .i64 0,.int .i64 0] 40));have hb1:=gZ hW1 hN;have hr1:W1.heap[N]?=some (.cells #[.int .i64 0,.int .i64 0] 40 (0,0)):=by rw[←hW1,←hN];exact alloc_at _ _
 obtain⟨⟨c0,c1⟩,⟨f0,f1⟩,hlt⟩:=bZ hr1;have HW1:=zH hW1;have HB1:=zH hb1;have HR1:=zH hr1;clear hW1 hb1 hr1;go_enter func211,ntmps211
 go_upto_region 1 with(fail)
 rw[HW1.out];go_wp2;(try simp only[Exit.inBlock,Exit.then]);refine bodyPost_ret (results_cell_row (P:=prog) rfl _ _ N 40 _ (0,0) _ rfl (bf HR1.out) underlying40 rfl (by kernel_rfl)) rfl ?_;(try rw[hN]);exact⟨rfl,(HB1.out.setCell (by show N≤N;omega) _).setCell (by show N≤N;omega) _⟩
theorem pU {c:Nat}{p:Pg}{L:Nat}{f0 f1 f2 f3 f4 f5 f6:Value}{sA:Option Addr}{sC:Nat}{S:List Fd}{fd:Fd}(w:H5)(h:Ck c p L f0 f1 f2 f3 f4 f5 f6 sA sC S w)(hf:p.fs=[fd])(hft:fd.ty=(true,p.snm)):
  Calls prog 175 #[.pointer (some ⟨c,0,none⟩)] w fun en w'=>en= .returned (.tuple #[])∧H9 w.heap.size w w':=by
 have hpA:p.pA<w.heap.size:=Hd h.pg.pA h.pg.lo;have c0:w.cell? ⟨c,0,none⟩=some (.slice (some ⟨p.pA,0,none⟩) 1 p.pC):=(rowAt h.row 0 rfl).1;have hcl:=ae h.row;obtain⟨fb,fo,hfA,hfb,hfc⟩:=h.pg.fd (by rw[hf];simp);have hfbw:fb<w.heap.size:=Hd hfb h.pg.lo;have hfl:p.fs.length=1:=by rw[hf];rfl
 have hfields:∀W,H9 w.heap.size w W→(W.cell? ⟨fb,fo,none⟩=some (.string fd.nm)∧W.cell? ⟨fb,fo+1,none⟩=some (.bool true)∧W.cell? ⟨fb,fo+2,none⟩=some (.string p.snm)∧W.cell? ⟨fb,fo+3,none⟩=some (.int .i64 fd.ln)∧W.cell? ⟨fb,fo+4,none⟩=some (.int .i64 fd.cl)):=fun W hW=>by
  have hq:∀k u,fd.cells.toList[k]?=some u→W.cell? ⟨fb,fo+k,none⟩=some u:=fun k u hu=>by
   rw[hW.cell (p:=⟨fb,fo+k,none⟩) hfbw];have:=hfc 0 fd (by rw[hf];rfl) k u hu;simpa using this
  have e1:fd.ptr=true:=congrArg Prod.fst hft;have e2:fd.tgt=p.snm:=congrArg Prod.snd hft;refine⟨hq 0 _ rfl, ?_, ?_,hq 3 _ rfl,hq 4 _ rfl⟩
  ·rw[←e1];exact hq 1 _ rfl
  ·rw[←e2];exact hq 2 _ rfl
 have hstc:∀W,H9 w.heap.size w W→(W.cell? ⟨p.pA,0,none⟩=some (.string p.snm)∧W.cell? ⟨p.pA,1,none⟩=some (.slice (some ⟨fb,fo,none⟩) 1 p.fC)∧W.cell? ⟨p.pA,2,none⟩=some (.int .i64 p.sl)∧W.cell? ⟨p.pA,3,none⟩=some (.int .i64 p.sc)):=fun W hW=>by
  have hq:=(h.pg.grow hW).s;refine⟨hq 0 _ rfl, ?_,hq 2 _ rfl,hq 3 _ rfl⟩;have hq1:=hq 1 _ rfl;rw[hfA,hfl] at hq1;exact hq1
 have HF:=zH hfields;have HSTC:=zH hstc;have H:=zH h;have HAK:Ia (∀(f a b:Int) W,H9 w.heap.size w W→zP 176 #[.pointer (some ⟨c,0,none⟩),.bool true,.int .i64 f,.agg #[.int .i64 a,.int .i64 b]] W (.bool true)):=fun f a b W hW=>bQ f a b W (h.grow hW);have HBD:Ia (∀W,H9 w.heap.size w W→zS 178 #[.pointer (some ⟨c,0,none⟩)] W (.bool false)):=fun W hW=>dz W (h.grow hW);have hSX:∀W,H9 w.heap.size w W→zP 212 #[.agg p.cells,.string p.snm] W (.int .i64 0):=fun W hW=>by
  have:=fU p.snm W (h.grow hW).pg;unfold mZ at this;rw[beq_self_eq_true] at this;exact this
 unfold Pg.cells at hSX;have HSX:=zH hSX;have HKN:Ia (∀W,H9 w.heap.size w W→zP 213 #[.pointer (some ⟨c,0,none⟩),.agg #[.bool true,.string p.snm]] W (.bool true)):=fun W hW=>o8 p.snm W (h.grow hW) rfl;have hst:∀(w:H5)(c:Array Value),c.size=5→(storeCells ⟨w.heap.size,0,none⟩ [.string fd.nm,.bool true,.string p.snm,.int .i64 fd.ln,.int .i64 fd.cl] 0).run prog (w.alloc (.cells c 92))= .ok () (w.alloc (.cells #[.string fd.nm,.bool true,.string p.snm,.int .i64 fd.ln,.int .i64 fd.cl] 92)):=fun w c hc=>
  run_storeCells_new (P:=prog) w 92 c #[.string fd.nm,.bool true,.string p.snm,.int .i64 fd.ln,.int .i64 fd.cl] (by show _=some 5;kernel_rfl) hc (by simp[Value.oneCell'])
 have HST:=zH hst;clear h hf hft hfb hfc hfields hstc hSX hfA hfl hst;go_enter func175,ntmps175
 go_upto_region 3 with(first
  |(go_at_call 211;refine(Aw _ _ _).mono ?_;rintro e w2 ⟨rfl,hb2⟩;have HB2:=zH hb2;clear hb2)
  |(go_at_call 176;refine(HAK.out _ _ _ w2 HB2.out).mono ?_;rintro e w3 ⟨rfl,hb3⟩;have HB3:=zH (HB2.out.trans (hb3.mono HB2.out.size));clear hb3))
 clear c0
 go_loopw [3] (fun i wr=>(i= .int .i64 0∨i= .int .i64 1)∧H9 w.heap.size w wr) (fun i _=>1-(intOf i).toNat)
 case atStart=>exact⟨.inl rfl,HB3.out⟩
 case round=>
  obtain⟨hi,hbr⟩:=hrel;have HBR:=zH hbr;have HBDR:=zH (HBD.out wr hbr);rcases hi with rfl|rfl
  rotate_left
  ·clear hbr
   go_wp2
   go_end0
   exact⟨rfl,HBR.out⟩
  have b0:∀q:BW wr,q.w.cell? ⟨c,0,none⟩=some (.slice (some ⟨p.pA,0,none⟩) 1 p.pC):=fun q=>(rowAt (H.out.grow (hbr.trans (q.h.mono hbr.size))).row 0 rfl).1;have b1:∀q:BW wr,q.w.cell? ⟨c,1,none⟩=some (.slice (some ⟨p.qA,0,none⟩) 1 p.qC):=fun q=>(rowAt (H.out.grow (hbr.trans (q.h.mono hbr.size))).row 1 rfl).1;have s0:∀q:BW wr,q.w.cell? ⟨p.pA,0,none⟩=some (.string p.snm):=fun q=>(HSTC.out q.w (hbr.trans (q.h.mono hbr.size))).1;have s2:∀q:BW wr,q.w.cell? ⟨p.pA,2,none⟩=some (.int .i64 p.sl):=fun q=>(HSTC.out q.w (hbr.trans (q.h.mono hbr.size))).2.2.1;have s3:∀q:BW wr,q.w.cell? ⟨p.pA,3,none⟩=some (.int .i64 p.sc):=fun q=>(HSTC.out q.w (hbr.trans (q.h.mono hbr.size))).2.2.2;have HAK1:Ia (∀q:BW wr,zP 176 #[.pointer (some ⟨c,0,none⟩),.bool true,.int .i64 6,.agg #[.int .i64 p.sl,.int .i64 p.sc]] q.w (.bool true)):=fun q=>HAK.out 6 p.sl p.sc q.w (hbr.trans (q.h.mono hbr.size));have HSX1:=zH (fun q:BW wr=>HSX.out q.w (hbr.trans (q.h.mono hbr.size)));have hpr:p.pA<wr.heap.size:=Hd hpA hbr.size;have hcr:c<wr.heap.size:=Hd hcl hbr.size;clear hbr
  go_upto_region 5 with(go_at_call 178;refine HBDR.out.mono ?_;rintro e wr ⟨rfl,rfl⟩)
  go_cut [3] (fun s wc=>s= .int .i64 0∧H9 wr.heap.size wr wc)
  case first=>
   refine zQ ?_
   repeat (go_big_quiet_step (first
    |(go_at_call 212;exact bg (HSX1.out _))
    |(go_at_call 176;exact bg (HAK1.out _))))
   refine wpQuiet_nil ?_;rintro _ ⟨q,rfl⟩;have hq:=q.h;clear b0 b1 s0 s2 s3;go_wp2
   go_meet
   case rel=>exact⟨rfl,hq⟩
  case rest=>
   obtain⟨rfl,hbc⟩:=hcut;clear b0 b1 s0 s2 s3;have hb0c:=HBR.out.trans (hbc.mono HBR.out.size);have HB0C:=zH hb0c;clear hbc hb0c
   go_upto_region 7 with(fail)
   go_loopw [4] (fun k wq=>(k= .int .i64 0∨k= .int .i64 1)∧H9 w.heap.size w wq) (fun k _=>1-(intOf k).toNat)
   case atStart=>exact⟨.inl rfl,HB0C.out⟩
   case round=>
    obtain⟨hk,hbq⟩:=hrel;have HBQ:=zH hbq;obtain⟨s0,s1,s2,s3⟩:=HSTC.out wr hbq;have hpr2:p.pA<wr.heap.size:=Hd hpA hbq.size;rcases hk with rfl|rfl
    rotate_left
    ·clear hbq
     go_wp2;go_roundw
     case rel=>exact⟨.inr rfl,HBQ.out⟩
     case measure=>simp[intOf]
    obtain⟨k0,k1,k2,k3,k4⟩:=HF.out wr hbq;have hst5:=HST.out wr;have hfr:fb<wr.heap.size:=Hd hfbw hbq.size;clear hbq
    go_upto_region 11 with(fail)
    clear hst5;obtain⟨G,hG⟩:=zE wr.heap.size;obtain⟨W5,hW5⟩:=zE (wr.alloc (.cells #[.string fd.nm,.bool true,.string p.snm,.int .i64 fd.ln,.int .i64 fd.cl] 92));rw[hG,hW5];have hb5:=zD hW5 HBQ;have hrG:W5.heap[G]?=some (.cells #[.string fd.nm,.bool true,.string p.snm,.int .i64 fd.ln,.int .i64 fd.cl] 92 (0,0)):=by rw[←hW5,←hG];exact alloc_at _ _
    have hGl:=ae hrG;have HB5:=zH hb5;have HRG:=zH hrG;clear hG hW5 hb5 hrG s0 s1 s2 s3 k0 k1 k2 k3 k4
    go_loopw [6] (fun j wq=>j= .int .i64 0∧wq=W5) (fun _ _=>0)
    case atStart=>exact⟨rfl,rfl⟩
    case round=>
     obtain⟨rfl,rfl⟩:=hrel;have x1:∀q:BW wr,q.w.cell? ⟨G,1,none⟩=some (.bool true):=fun q=>(rowAt ((q.h.block G hGl).trans HRG.out) 1 rfl).1;have x2:∀q:BW wr,q.w.cell? ⟨G,2,none⟩=some (.string p.snm):=fun q=>(rowAt ((q.h.block G hGl).trans HRG.out) 2 rfl).1;have x3:∀q:BW wr,q.w.cell? ⟨G,3,none⟩=some (.int .i64 fd.ln):=fun q=>(rowAt ((q.h.block G hGl).trans HRG.out) 3 rfl).1;have x4:∀q:BW wr,q.w.cell? ⟨G,4,none⟩=some (.int .i64 fd.cl):=fun q=>(rowAt ((q.h.block G hGl).trans HRG.out) 4 rfl).1;have HAK2:Ia (∀q:BW wr,zP 176 #[.pointer (some ⟨c,0,none⟩),.bool true,.int .i64 5,.agg #[.int .i64 fd.ln,.int .i64 fd.cl]] q.w (.bool true)):=fun q=>HAK.out 5 fd.ln fd.cl q.w (HB5.out.trans (q.h.mono HB5.out.size));have HKN2:=zH (fun q:BW wr=>HKN.out q.w (HB5.out.trans (q.h.mono HB5.out.size)))
     go_upto_region 14 with(fail)
     refine zQ ?_
     repeat (go_big_quiet_step (first
      |(go_at_call 213;exact bg (HKN2.out _))
      |(go_at_call 176;exact bg (HAK2.out _))))
     refine wpQuiet_nil ?_;rintro _ ⟨q,rfl⟩;have HQ:Ia (H9 w.heap.size w q.w):=HB5.out.trans (q.h.mono HB5.out.size);clear x1 x2 x3 x4;go_wp2;go_roundw
     case rel=>exact⟨.inr rfl,HQ.out⟩
     case measure=>simp[intOf]
def Pg.fnV (p:Pg):Array Value:=#[.string p.nm,.slice none 0 0,.bool p.ret.1,.string p.ret.2,.slice p.bA p.ss.length p.bC,.int .i64 p.gl,.int .i64 p.gc]
theorem oD {c:Nat}{p:Pg}{L:Nat}{f0 f1 f2 f3 f4 f5 f6:Value}{sA:Option Addr}{sC:Nat}{S:List Fd}(w:H5)(h:Ck c p L f0 f1 f2 f3 f4 f5 f6 sA sC S w)(hret:p.ret.1=false)(hk:iF p p.ret [] p.ss)(hss:p.ss.length≤1000)(hen:∀j,j<p.ss.length→(p.ss.take j).any gT=false)(hne:p.ss≠[])(hend:p.ss.any gT=true):
  Calls prog 179 #[.pointer (some ⟨c,0,none⟩),.agg p.fnV] w fun en w'=>en= .returned (.tuple #[])∧
   Ck c p L (.string p.nm) (.slice none 0 0) (.bool p.ret.1) (.string p.ret.2) (.slice p.bA p.ss.length p.bC) (.int .i64 p.gl) (.int .i64 p.gc) none 0 [] w'∧Ext (·=c) w w':=by
 obtain⟨N,hN⟩:=zE w.heap.size;unfold Pg.fnV;obtain⟨W1,hW1⟩:=zE (w.alloc (.cells #[.string p.nm,.slice none 0 0,.bool p.ret.1,.string p.ret.2,.slice p.bA p.ss.length p.bC,.int .i64 p.gl,.int .i64 p.gc] 233));have hb1:=gZ hW1 hN;have hr1:W1.heap[N]?=some (.cells #[.string p.nm,.slice none 0 0,.bool p.ret.1,.string p.ret.2,.slice p.bA p.ss.length p.bC,.int .i64 p.gl,.int .i64 p.gc] 233 (0,0)):=by rw[←hW1,←hN];exact alloc_at _ _
 have hN1:=ae hr1;have h1:=h.grow (by rw[hN];exact hb1);have hcN:c<N:=by rw[←hN];exact ae h.row
 have hrc:=h1.row;have hcl:=ae hrc;have r2:=(rowAt hrc 2 rfl)
 have r3:=(rowAt hrc 3 rfl)
 have r4:=(rowAt hrc 4 rfl)
 have r5:=(rowAt hrc 5 rfl)
 have r6:=(rowAt hrc 6 rfl)
 have r7:=(rowAt hrc 7 rfl)
 have r8:=(rowAt hrc 8 rfl)
 have r9:=(rowAt hrc 9 rfl)
 obtain⟨u2,v2⟩:=r2;obtain⟨u3,v3⟩:=r3;obtain⟨u4,v4⟩:=r4;obtain⟨u5,v5⟩:=r5;obtain⟨u6,v6⟩:=r6;obtain⟨u7,v7⟩:=r7;obtain⟨u8,v8⟩:=r8;obtain⟨u9,v9⟩:=r9;obtain⟨⟨a0,a1,a2,a3,a4,a5,a6⟩,_,hN1'⟩:=ed hr1;have H1:=zH h1;have HRC:=zH hrc;have HW1:=zH hW1;have HB1:=zH hb1;have HR1:=zH hr1;have hLc:=h.hc;have HRET:=zH hret;have HK:=zH hk;have HEN:=zH hen;have HEND:=zH hend;clear h hret hk hen hend hW1 hb1 hr1 h1 hrc;go_enter func179,ntmps179
 go_upto_region 1 with(fail)
 rw[HW1.out]
 go_upto_region 4 with(fail)
 obtain⟨W2,hW2⟩:=zE ((((((((W1.setCell ⟨c,2,none⟩ (.string p.nm)).setCell ⟨c,3,none⟩ (.slice none 0 0)).setCell ⟨c,4,none⟩ (.bool p.ret.1)).setCell ⟨c,5,none⟩ (.string p.ret.2)).setCell ⟨c,6,none⟩ (.slice p.bA p.ss.length p.bC)).setCell ⟨c,7,none⟩ (.int .i64 p.gl)).setCell ⟨c,8,none⟩ (.int .i64 p.gc)).setCell ⟨c,9,none⟩ (.slice none 0 0));rw[hW2];have hx2:Ext (·=c) W1 W2:=by rw[←hW2];exact aa (aa (aa (aa (aa (aa (aa (aa (Ext.refl _ _) _) _) _) _) _) _) _) _
 have hck2:Ck c p L (.string p.nm) (.slice none 0 0) (.bool p.ret.1) (.string p.ret.2) (.slice p.bA p.ss.length p.bC) (.int .i64 p.gl) (.int .i64 p.gc) none 0 [] W2:=by
  refine⟨?_,H1.out.pg.ext hx2 (fun k hk e=>by omega),hLc,fun h=>absurd rfl h,by simp,fun a h=>absurd rfl h⟩;rw[←hW2];exact Hz _ c 9 _ _ _ (Hz _ c 8 _ _ _ (Hz _ c 7 _ _ _ (Hz _ c 6 _ _ _ (Hz _ c 5 _ _ _ (Hz _ c 4 _ _ _ (Hz _ c 3 _ _ _ (Hz _ c 2 _ _ _ HRC.out)))))))
 have hr2:=hx2.heap HR1.out (by omega);have HX2:=zH hx2;have HCK2:=zH hck2;have HR2:=zH hr2;have hN2:=ae hr2;clear hW2 hx2 hck2 hr2 u2 u3 u4 u5 u6 u7 u8 u9 v2 v3 v4 v5 v6 v7 v8 v9 a0 a1 a2 a3 a4 a5 a6
 go_loopw [4] (fun k wq=>k= .int .i64 0∧wq=W2) (fun _ _=>0)
 case atStart=>exact⟨rfl,rfl⟩
 case round=>
  obtain⟨rfl,rfl⟩:=hrel;obtain⟨⟨a0,a1,a2,a3,a4,a5,a6⟩,_,_⟩:=ed HR2.out
  go_upto_region 10 with(fail)
  clear a0 a1 a2 a3 a4 a5 a6;have x2:∀q:BW wr,q.w.cell? ⟨N,2,none⟩=some (.bool p.ret.1):=fun q=>(rowAt ((q.h.block N hN2).trans HR2.out) 2 rfl).1;have x3:∀q:BW wr,q.w.cell? ⟨N,3,none⟩=some (.string p.ret.2):=fun q=>(rowAt ((q.h.block N hN2).trans HR2.out) 3 rfl).1;have x5:∀q:BW wr,q.w.cell? ⟨N,5,none⟩=some (.int .i64 p.gl):=fun q=>(rowAt ((q.h.block N hN2).trans HR2.out) 5 rfl).1;have x6:∀q:BW wr,q.w.cell? ⟨N,6,none⟩=some (.int .i64 p.gc):=fun q=>(rowAt ((q.h.block N hN2).trans HR2.out) 6 rfl).1;have HKN:Ia (∀q:BW wr,zP 213 #[.pointer (some ⟨c,0,none⟩),.agg #[.bool p.ret.1,.string p.ret.2]] q.w (.bool true)):=fun q=>by
   rw[HRET.out];exact yn p.ret.2 q.w (HCK2.out.grow q.h)
  have HAK:Ia (∀q:BW wr,zP 176 #[.pointer (some ⟨c,0,none⟩),.bool true,.int .i64 5,.agg #[.int .i64 p.gl,.int .i64 p.gc]] q.w (.bool true)):=fun q=>bQ 5 p.gl p.gc q.w (HCK2.out.grow q.h)
  go_cut [3] (fun s wc=>s= .pointer (some ⟨N,0,none⟩)∧H9 wr.heap.size wr wc)
  case first=>
   refine zQ ?_
   repeat (go_big_quiet_step (first
    |(go_at_call 213;exact bg (HKN.out _))
    |(go_at_call 176;exact bg (HAK.out _))))
   refine wpQuiet_nil ?_;rintro _ ⟨q,rfl⟩;have hq:=q.h;clear x2 x3 x5 x6;go_wp2
   go_meet
   case rel=>exact⟨rfl,hq⟩
  case rest=>
   obtain⟨rfl,hbc⟩:=hcut;clear x2 x3 x5 x6;have hckc:=HCK2.out.grow hbc;have HBL:=zH (sS wc hckc HK.out hss HEN.out hne);have hrc2:=(hbc.block N hN2).trans HR2.out;obtain⟨⟨a0,a1,a2,a3,a4,a5,a6⟩,_,hNc⟩:=ed hrc2;have HBC:=zH hbc;have HRC2:=zH hrc2;clear hckc hrc2 hbc
   go_upto_region 12 with(go_at_call 215;refine HBL.out.mono ?_;rintro en w5 ⟨rfl,hck5,hx5⟩;have HCK5:=zH hck5;have HX5:=zH hx5;have hr5:=hx5.heap HRC2.out (by omega);have HR5:=zH hr5;have hN5:=ae hr5;clear hck5 hx5 hr5)
   have y4:∀q:BW w5,q.w.cell? ⟨N,4,none⟩=some (.slice p.bA p.ss.length p.bC):=fun q=>(rowAt ((q.h.block N hN5).trans HR5.out) 4 rfl).1;have y5:∀q:BW w5,q.w.cell? ⟨N,5,none⟩=some (.int .i64 p.gl):=fun q=>(rowAt ((q.h.block N hN5).trans HR5.out) 5 rfl).1;have y6:∀q:BW w5,q.w.cell? ⟨N,6,none⟩=some (.int .i64 p.gc):=fun q=>(rowAt ((q.h.block N hN5).trans HR5.out) 6 rfl).1;have HAK5:Ia (∀q:BW w5,zP 176 #[.pointer (some ⟨c,0,none⟩),.bool true,.int .i64 8,.agg #[.int .i64 p.gl,.int .i64 p.gc]] q.w (.bool true)):=fun q=>bQ 8 p.gl p.gc q.w (HCK5.out.grow q.h);have HENDS:Ia (∀q:BW w5,zP 216 #[.slice p.bA p.ss.length p.bC] q.w (.bool true)):=fun q=>by
    have hpg:=(HCK5.out.grow q.h).pg;obtain⟨b,off,hA,hbL,hcell⟩:=hpg.st hne;rw[hA];have:=lZ b off p.bC p.ss (by omega) (fun x hx=>⟨HK.out.kinds x hx,(hpg.sm hx).1⟩) q.w (fun _=>Hd hbL hpg.lo) hcell;rw[HEND.out] at this;exact this
   clear a0 a1 a2 a3 a4 a5 a6;refine zQ ?_
   repeat (go_big_quiet_step (first
    |(go_at_call 216;exact bg (HENDS.out _))
    |(go_at_call 176;exact bg (HAK5.out _))))
   refine wpQuiet_nil ?_;rintro _ ⟨q,rfl⟩;clear y4 y5 y6;go_wp2
   go_end0
   refine⟨rfl,HCK5.out.grow q.h, ?_⟩;have e1:Ext (·=c) w W1:=Ext.of_below_size (by rw[hN];exact HB1.out);exact(((e1.trans HX2.out (fun q h=> .inl h)).trans (Ext.of_below_size (M:=fun _=>False) HBC.out) (fun q h=>h.elim)).trans HX5.out (fun q h=> .inl h)).trans (Ext.of_below_size (M:=fun _=>False) q.h) (fun q h=>h.elim)
def o9:ByteArray:=⟨#[109,97,105,110]⟩
structure EH (p:Pg):Prop where
 fs:∃fd,p.fs=[fd]∧fd.ty=(true,p.snm)
 nm:p.nm=o9
 ret:p.ret.1=false
 ok:iF p p.ret [] p.ss
 ss:p.ss.length≤1000
 en:∀j,j<p.ss.length→(p.ss.take j).any gT=false
 ne:p.ss≠[]
 fin:p.ss.any gT=true
def Gr (p:Pg):Array Value:=#[.slice (some ⟨p.pA,0,none⟩) 1 p.pC,.slice (some ⟨p.qA,0,none⟩) 1 p.qC,.string ⟨#[]⟩,.slice none 0 0,.bool false,.string ⟨#[]⟩,.slice none 0 0,.int .i64 0,.int .i64 0,.slice none 0 0,.int .i64 0,.int .i64 0,.int .i64 0,.int .i64 0,.int .i64 0]
def kC (c:Nat)(p:Pg)(L:Nat)(w:H5):Prop:=∃f0 f1 f2 f3 f4 f5 f6 sA sC S,Ck c p L f0 f1 f2 f3 f4 f5 f6 sA sC S w
theorem kC.grow {c:Nat}{p:Pg}{L:Nat}{w w':H5}(h:kC c p L w)(hb:H9 w.heap.size w w'):kC c p L w':=by
 obtain⟨f0,f1,f2,f3,f4,f5,f6,sA,sC,S,h⟩:=h;exact⟨f0,f1,f2,f3,f4,f5,f6,sA,sC,S,h.grow hb⟩
theorem kC.pg {c:Nat}{p:Pg}{L:Nat}{w:H5}(h:kC c p L w):jh p L w:=by
 obtain⟨f0,f1,f2,f3,f4,f5,f6,sA,sC,S,h⟩:=h;exact h.pg
theorem jX {c:Nat}{p:Pg}{L:Nat}(f a b:Int)(w:H5)(h:kC c p L w):
  zP 176 #[.pointer (some ⟨c,0,none⟩),.bool true,.int .i64 f,.agg #[.int .i64 a,.int .i64 b]] w (.bool true):=by
 obtain⟨f0,f1,f2,f3,f4,f5,f6,sA,sC,S,h⟩:=h;exact bQ f a b w h
theorem wK {c:Nat}{p:Pg}{L:Nat}(w:H5)(h:kC c p L w):zS 178 #[.pointer (some ⟨c,0,none⟩)] w (.bool false):=by
 obtain⟨f0,f1,f2,f3,f4,f5,f6,sA,sC,S,h⟩:=h;exact dz w h
theorem yu {c:Nat}{p:Pg}{L:Nat}(w:H5)(h:kC c p L w)(ho:EH p):Calls prog 179 #[.pointer (some ⟨c,0,none⟩),.agg p.fnV] w fun e w'=>e= .returned (.tuple #[])∧kC c p L w'∧Ext (·=c) w w':=by
 obtain⟨f0,f1,f2,f3,f4,f5,f6,sA,sC,S,h⟩:=h;refine(oD w h ho.ret ho.ok ho.ss ho.en ho.ne ho.fin).mono ?_;rintro e w' ⟨h1,h2,h3⟩;exact⟨h1,⟨_,_,_,_,_,_,_,_,_,_,h2⟩,h3⟩
theorem kC.d {c:Nat}{p:Pg}{L:Nat}{w:H5}(h:kC c p L w):w.cell? ⟨c,10,none⟩=some (.int .i64 0)∧w.cell? ⟨c,11,none⟩=some (.int .i64 0)∧w.cell? ⟨c,12,none⟩=some (.int .i64 0)∧w.cell? ⟨c,13,none⟩=some (.int .i64 0)∧c<w.heap.size:=by
 obtain⟨f0,f1,f2,f3,f4,f5,f6,sA,sC,S,h⟩:=h;exact⟨(rowAt h.row 10 rfl).1,(rowAt h.row 11 rfl).1,(rowAt h.row 12 rfl).1,(rowAt h.row 13 rfl).1,ae h.row⟩
structure DF (N:Nat)(p:Pg)(L:Nat)(w W:H5):Prop where
 ck:kC (N+2) p L W
 r0:W.heap[N]?=some (.cells #[.slice (some ⟨p.pA,0,none⟩) 1 p.pC,.slice (some ⟨p.qA,0,none⟩) 1 p.qC] 179 (0,0))
 r1:W.heap[N+1]?=some (.cells #[.int .i64 0,.int .i64 0,.int .i64 0,.int .i64 0] 113 (0,0))
 low:H9 N w W
theorem DF.grow {N:Nat}{p:Pg}{L:Nat}{w W W':H5}(h:DF N p L w W)(hb:H9 W.heap.size W W'):DF N p L w W':=
 ⟨h.ck.grow hb,(hb.block N (ae h.r0)).trans h.r0,(hb.block (N+1) (ae h.r1)).trans h.r1,h.low.trans (hb.mono (Nat.le_of_lt (ae h.r0)))⟩
theorem DF.fn {N:Nat}{p:Pg}{L:Nat}{w W:H5}(h:DF N p L w W):(W.cell? ⟨p.qA,0,none⟩=some (.string p.nm)∧W.cell? ⟨p.qA,1,none⟩=some (.slice none 0 0)∧W.cell? ⟨p.qA,2,none⟩=some (.bool p.ret.1)∧W.cell? ⟨p.qA,3,none⟩=some (.string p.ret.2)∧W.cell? ⟨p.qA,4,none⟩=some (.slice p.bA p.ss.length p.bC)∧W.cell? ⟨p.qA,5,none⟩=some (.int .i64 p.gl)∧W.cell? ⟨p.qA,6,none⟩=some (.int .i64 p.gc))∧p.qA<W.heap.size:=by
 have hf:=h.ck.pg.f;exact⟨⟨hf 0 _ rfl,hf 1 _ rfl,hf 2 _ rfl,hf 3 _ rfl,hf 4 _ rfl,hf 5 _ rfl,hf 6 _ rfl⟩,Hd h.ck.pg.qA h.ck.pg.lo⟩
theorem sU {p:Pg}{L:Nat}(w:H5)(h:jh p L w)(ho:EH p):
  zP 130 #[.agg p.cells] w (.agg #[.int .i64 0,.int .i64 0,.int .i64 0,.int .i64 0]):=by
 obtain⟨N,hN⟩:=zE w.heap.size;obtain⟨fd,hfs,hft⟩:=ho.fs;obtain⟨W2,hW2⟩:=zE ((w.alloc (.cells #[.slice (some ⟨p.pA,0,none⟩) 1 p.pC,.slice (some ⟨p.qA,0,none⟩) 1 p.qC] 179)).alloc (.cells #[.int .i64 0,.int .i64 0,.int .i64 0,.int .i64 0] 113));obtain⟨W3,hW3⟩:=zE (W2.alloc (.cells (Gr p) 275));have hb2:=uG hW2 hN;have hs2:W2.heap.size=N+2:=by rw[←hW2];simp[hN]
 have hb3:H9 N w W3:=by rw[←hW3];exact hb2.alloc (by omega) _
 have hr0:W3.heap[N]?=some (.cells #[.slice (some ⟨p.pA,0,none⟩) 1 p.pC,.slice (some ⟨p.qA,0,none⟩) 1 p.qC] 179 (0,0)):=by
  rw[←hW3];refine(Hy _ _ N (by omega)).trans ?_;rw[←hW2,←hN];exact heap_alloc2_old _ _ _
 have hr1:W3.heap[N+1]?=some (.cells #[.int .i64 0,.int .i64 0,.int .i64 0,.int .i64 0] 113 (0,0)):=by
  rw[←hW3];refine(Hy _ _ (N+1) (by omega)).trans ?_;rw[←hW2,←hN];exact heap_alloc2_new _ _ _
 have hrc:W3.heap[N+2]?=some (.cells (Gr p) 275 (0,0)):=by rw[←hW3,←hs2];exact alloc_at _ _
 have hpg3:=h.grow (show H9 w.heap.size w W3 by rw[hN];exact hb3);have hck:Ck (N+2) p L (.string ⟨#[]⟩) (.slice none 0 0) (.bool false) (.string ⟨#[]⟩) (.slice none 0 0) (.int .i64 0) (.int .i64 0) none 0 [] W3:=
  ⟨hrc,hpg3,by have:=h.lo;omega,fun h=>absurd rfl h,by simp,fun a h=>absurd rfl h⟩
 have HSTR:=zH (pU W3 hck hfs hft);have HS3:Ia (DF N p L w W3):=⟨⟨_,_,_,_,_,_,_,_,_,_,hck⟩,hr0,hr1,hb3⟩
 have HO:=zH ho;have hW3':=hW3;unfold Gr at hW3';have HW3:=zH hW3';have HW2:=zH hW2;obtain⟨⟨a0,a1⟩,_,_⟩:=bZ ((show W2.heap[N]?=some (.cells #[.slice (some ⟨p.pA,0,none⟩) 1 p.pC,.slice (some ⟨p.qA,0,none⟩) 1 p.qC] 179 (0,0)) by rw[←hW2,←hN];exact heap_alloc2_old _ _ _));have hN2:N<W2.heap.size:=by omega
 unfold Pg.cells;clear h ho hfs hft hW2 hW3 hW3' hb2 hb3 hr0 hr1 hrc hpg3 hck;go_enter func130,ntmps130
 go_upto_region 1 with(fail)
 rw[HW2.out]
 go_upto_region 2 with(fail)
 rw[HW3.out];(try simp only[hs2]);clear a0 a1
 go_upto_region 4 with(go_at_call 175;refine HSTR.out.mono ?_;rintro en w4 ⟨rfl,hb4⟩;have HS4:=zH (HS3.out.grow hb4);clear hb4)
 go_loopw [4] (fun i wr=>(i= .int .i64 0∨i= .int .i64 1)∧DF N p L w wr) (fun i _=>1-(intOf i).toNat)
 case atStart=>exact⟨.inl rfl,HS4.out⟩
 case round=>
  obtain⟨hi,hsr⟩:=hrel;obtain⟨⟨q0,q1,q2,q3,q4,q5,q6⟩,hql⟩:=hsr.fn;obtain⟨⟨a0,a1⟩,_,hNr⟩:=bZ hsr.r0;have HSR:=zH hsr;have HAK:=zH (jX 2 p.gl p.gc wr hsr.ck);clear hsr;rcases hi with rfl|rfl
  ·go_wp2_with (go_at_call 176;refine HAK.out.mono ?_;rintro en w5 ⟨rfl,hb5⟩;have HS5:=zH (HSR.out.grow hb5);clear hb5)
   go_roundw
   case rel=>exact⟨.inr rfl,HS5.out⟩
   case measure=>simp[intOf]
  clear HAK
  go_upto_region 8 with(fail)
  clear q0 q1 q2 q3 q4 q5 q6 a0 a1
  go_loopw [5] (fun i wr=>(i= .int .i64 0∨i= .int .i64 1)∧DF N p L w wr) (fun i _=>1-(intOf i).toNat)
  case atStart=>exact⟨.inl rfl,HSR.out⟩
  case round=>
   obtain⟨hi,hsr⟩:=hrel;obtain⟨⟨a0,a1⟩,_,hNr2⟩:=bZ hsr.r0;have HSR2:=zH hsr;have hql2:=hsr.fn.2;clear hsr;rcases hi with rfl|rfl
   ·go_upto_region 10 with(fail)
    clear a0 a1;have x0:∀q:BW wr,q.w.cell? ⟨N,0,none⟩=some (.slice (some ⟨p.pA,0,none⟩) 1 p.pC):=fun q=>(rowAt (HSR2.out.grow q.h).r0 0 rfl).1;have x1:∀q:BW wr,q.w.cell? ⟨N,1,none⟩=some (.slice (some ⟨p.qA,0,none⟩) 1 p.qC):=fun q=>(rowAt (HSR2.out.grow q.h).r0 1 rfl).1;have y0:∀q:BW wr,q.w.cell? ⟨p.qA,0,none⟩=some (.string p.nm):=fun q=>(HSR2.out.grow q.h).fn.1.1;have y5:∀q:BW wr,q.w.cell? ⟨p.qA,5,none⟩=some (.int .i64 p.gl):=fun q=>(HSR2.out.grow q.h).fn.1.2.2.2.2.2.1;have y6:∀q:BW wr,q.w.cell? ⟨p.qA,6,none⟩=some (.int .i64 p.gc):=fun q=>(HSR2.out.grow q.h).fn.1.2.2.2.2.2.2;have hFC:∀q:BW wr,zP 177 #[.agg p.cells,.string p.nm] q.w (.int .i64 0):=fun q=>by
     have:=ng p.nm q.w (HSR2.out.grow q.h).ck.pg;unfold Dy at this;rw[beq_self_eq_true] at this;exact this
    unfold Pg.cells at hFC;have HFC:=zH hFC;have HAK:=zH (fun q:BW wr=>jX 6 p.gl p.gc q.w (HSR2.out.grow q.h).ck);clear hFC;refine zQ ?_
    repeat (go_big_quiet_step (first
     |(go_at_call 177;exact bg (HFC.out _))
     |(go_at_call 176;exact bg (HAK.out _))))
    refine wpQuiet_nil ?_;rintro _ ⟨q,rfl⟩;have HQ:=zH (HSR2.out.grow q.h);clear x0 x1 y0 y5 y6;go_wp2;go_roundw
    case rel=>exact⟨.inr rfl,HQ.out⟩
    case measure=>simp[intOf]
   go_upto_region 12 with(fail)
   clear a0 a1
   go_loopw [6] (fun i wr=>(i= .int .i64 0∨i= .int .i64 1)∧DF N p L w wr) (fun i _=>1-(intOf i).toNat)
   case atStart=>exact⟨.inl rfl,HSR2.out⟩
   case round=>
    obtain⟨hi,hsr⟩:=hrel;obtain⟨⟨a0,a1⟩,_,hNr3⟩:=bZ hsr.r0;obtain⟨⟨q0,q1,q2,q3,q4,q5,q6⟩,hql3⟩:=hsr.fn;have HSR3:=zH hsr;have HBD:=zH (wK wr hsr.ck);have hFN:=yu wr hsr.ck HO.out;unfold Pg.fnV at hFN;have HFN:=zH hFN;clear hsr hFN;rcases hi with rfl|rfl
    ·go_wp2_with (first
      |(go_at_call 178;refine HBD.out.mono ?_;rintro e wr ⟨rfl,rfl⟩)
      |(go_at_call 179;refine HFN.out.mono ?_;rintro en w5 ⟨rfl,hck5,hx5⟩;have HS5:Ia (DF N p L w w5):=(⟨hck5,hx5.heap HSR3.out.r0 (by omega),hx5.heap HSR3.out.r1 (by omega),HSR3.out.low.trans (hx5.below (by omega) (fun q hq=>by omega))⟩:DF N p L w w5);clear hck5 hx5))
     go_roundw
     case rel=>exact⟨.inr rfl,HS5.out⟩
     case measure=>simp[intOf]
    have hmn:p.nm=o9:=HO.out.nm;have hFM:zP 177 #[.agg p.cells,.string o9] wr (.int .i64 0):=by
     have:=ng o9 wr HSR3.out.ck.pg;unfold Dy at this;rw[hmn,beq_self_eq_true] at this;exact this
    unfold Pg.cells o9 at hFM;have HFM:=zH hFM;clear hmn hFM HFN HBD
    go_upto_region 16 with(go_at_call 177;refine HFM.out.mono ?_;rintro en w6 ⟨rfl,hb6⟩;have HS6:=zH (HSR3.out.grow hb6);clear hb6)
    clear a0 a1 q0 q1 q2 q3 q4 q5 q6;obtain⟨⟨a0,a1⟩,_,hN6⟩:=bZ HS6.out.r0;obtain⟨⟨q0,q1,q2,q3,q4,q5,q6⟩,hql6⟩:=HS6.out.fn;have hret:=HO.out.ret;rw[hret] at q2;have HAK6:=zH (jX 9 1 1 w6 HS6.out.ck);clear hret
    go_upto_region 17 with(go_at_call 176;refine HAK6.out.mono ?_;rintro en w7 ⟨rfl,hb7⟩;have HS7:=zH (HS6.out.grow hb7);clear hb7)
    clear a0 a1 q0 q1 q2 q3 q4 q5 q6;obtain⟨d0,d1,d2,d3,hcl⟩:=HS7.out.ck.d;obtain⟨⟨e0,e1,e2,e3⟩,⟨f0,f1,f2,f3⟩,hN17⟩:=lJ HS7.out.r1;go_wp2;(try simp only[Exit.inBlock,Exit.then]);refine bodyPost_ret (results_cell_row (P:=prog) rfl _ _ (N+1) 113 _ (0,0) _ rfl (iX HS7.out.r1) underlying113 rfl (by kernel_rfl)) rfl ?_;(try rw[hN]);exact⟨rfl,qB HS7.out.low (by omega) _ _ _ _⟩
end Go.Proofs.YtjomgckjhcfbgaaGreat
