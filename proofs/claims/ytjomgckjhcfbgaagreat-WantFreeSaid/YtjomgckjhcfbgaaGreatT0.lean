/- Walks. -/
import Derived.Test.YtjomgckjhcfbgaaGreatS0
import Derived.Test.YtjomgckjhcfbgaaGreatS21
import Derived.Test.YtjomgckjhcfbgaaGreatS18
import Derived.Test.YtjomgckjhcfbgaaGreatS15
import Derived.Test.YtjomgckjhcfbgaaGreatRows
import Derived.ProofKit
import Derived.ChangeSame
set_option maxRecDepth 100000
set_option maxHeartbeats 64000000
set_option linter.all false
namespace Go.Proofs.YtjomgckjhcfbgaaGreat
open Go.RowKit
open _root_.List renaming getElem?_eq_getElem→GN,getElem?_eq_some_iff→GQ,length_append→GU,mem_of_getElem?→GV,eq_nil_of_length_eq_zero→Hm,mem_singleton→Hq
open _root_.Nat renaming le_refl→He,zero_add→Hf,zero_le→Hg
open _root_.Option renaming some.inj→Hl
open Go.RowKit.Below renaming refl→Hw
open Go renaming heap_setCell_same→Hz,World→H5
open Go.RowKit renaming Below→H9,Hid→Ia
open Go.Proofs.Tryz
theorem BV {α β:Type}{f:α→β}{cells:β→Array Value}{stride:Nat}{w:H5}{B:Nat}{ao:Option Addr}{xs:List α}(h:aG (fun a=>cells (f a)) stride w B ao xs):aG cells stride w B ao (xs.map f):=by
 intro hne;obtain⟨b,off,h1,h2,h3⟩:=h (fun e=>hne (by rw[e];rfl));refine⟨b,off,h1,h2,fun i y hy k u hu=> ?_⟩;rw[List.getElem?_map] at hy;obtain⟨x,hx,rfl⟩:=Option.map_eq_some_iff.1 hy;exact h3 i x hx k u hu
def Mo.lightW (m:Mo):Prop:=Ad (m.ss.map St.s) (m.fs.map Fn.c)
def Mo.shortW (m:Mo):Prop:=m.fs.length≤12∧m.lightW
theorem xP (w:H5)(m:Mo)(hm:m.inn w):Calls prog 70 #[.agg m.cells] w (qw w w.heap.size m.lightW):=by
 have h:=vL w m.sA m.fA m.sC m.fC (m.ss.map St.s) (m.fs.map Fn.c) (BV hm.srow) (BV hm.frow) (by
  intro c hc;obtain⟨f,hf,rfl⟩:=List.mem_map.1 hc;exact(hm.fin f hf).code.row) (by
  intro c hc x hx;obtain⟨f,hf,rfl⟩:=List.mem_map.1 hc;exact((hm.fin f hf).code.args x hx).1) (by have:=hm.ns;unfold maxLen at this;simpa using this) (by have:=hm.nf;unfold maxLen at this;simpa using this)
 simp only[List.length_map] at h;exact h
theorem uq (w:H5)(m:Mo)(hm:m.inn w):Calls prog 27 #[.agg m.cells] w (qw w w.heap.size m.shortW):=by
 obtain⟨M,hM⟩:=zE m;have HM:=zH hM;have HIN:=zH hm;have hnf:=hm.nf;have HFR:=zH hm.frow;clear hm hM;obtain⟨sA,sC,fA,fC,ss,fs⟩:=m;simp only at hnf HFR;simp only[Mo.cells];obtain⟨N,hN⟩:=zE w.heap.size;obtain⟨W1,hW1⟩:=zE (w.alloc (.cells #[.slice sA ss.length sC,.slice fA fs.length fC] 25));have q1:W1.heap[N]?=some (.cells #[.slice sA ss.length sC,.slice fA fs.length fC] 25 (0,0)):=by rw[←hW1,←hN];exact alloc_at _ _
 have c1:W1.cell? ⟨N,0,none⟩=some (.slice sA ss.length sC):=(cell_of_row _ _ _ _ _ _ q1).trans rfl;have c2:W1.cell? ⟨N,1,none⟩=some (.slice fA fs.length fC):=(cell_of_row _ _ _ _ _ _ q1).trans rfl;have hb1:=gK hW1;have HLI:=zH (xP W1 M (by rw[←HM.out];exact HIN.out.below hb1));rw[←HM.out] at HLI;simp only[Mo.cells] at HLI;have HB1:=zH hb1;have HW1:=zH hW1;have hNl:=ae q1;clear q1 hb1 hW1;unfold maxLen at hnf;go_enter func27,ntmps27
 go_upto_region 1 with(fail)
 rw[HW1.out]
 go_upto_region 3 with(fail)
 go_loopw [3,4] (fun z c wr=>wr=W1∧∃(j:Nat) (x:Int),j≤fs.length∧j≤20∧c= .int .i64 (j:Int)∧z= .int .i64 x) (fun _ c _=>20-(intOf c).toNat)
 case atStart=>exact⟨rfl,0,0,Hg _,by omega,rfl,rfl⟩
 case round=>
  obtain⟨rfl,j,x,hj,hj20,rfl,rfl⟩:=hrel;have hend:12<fs.length→∀b:Bool,b=false→qw w w.heap.size (Mo.shortW ⟨sA,sC,fA,fC,ss,fs⟩) (.returned (.bool b)) wr:=fun _ b hb=>⟨b,rfl,fun h=>by rw[hb] at h;exact absurd h (by decide),HB1.out⟩
  by_cases hjl:j<fs.length
  ·have hjI:(j:Int)<(fs.length:Int):=by omega
   by_cases hj2:j<20
   ·have hj2I:(j:Int)<20:=by omega
    obtain⟨f,hf⟩:∃f,fs[j]?=some f:=⟨_,GN hjl⟩
    obtain⟨b,off,rfl,hb,hcell⟩:=HFR.out (by intro e;rw[e] at hjl;simp at hjl);have q7:wr.cell? ⟨b,off+j*8+7,none⟩=some (.slice f.c.insA f.c.ins.length f.c.insC):=by rw[HB1.out.cell (p:=⟨b,_,none⟩) hb];exact hcell j f hf 7 _ rfl
    clear hcell hf hend;go_wp2;go_roundw
    case rel=>exact⟨trivial,j+1,_,by omega,by omega,by go_num,rfl⟩
    case measure=>simp[intOf];omega
   ·have h12:decide (fs.length≤12)=false:=decide_eq_false (by omega)
    have h20:decide ((j:Int)<20)=false:=decide_eq_false (by omega);have h12I:decide ((fs.length:Int)≤12)=false:=decide_eq_false (by omega);go_wp2;go_ret;have:=hend (by omega) _ rfl
    first|exact this|(rw[←hN];exact this)
  ·have hjI:decide ((j:Int)<(fs.length:Int))=false:=decide_eq_false (by omega)
   by_cases h12:fs.length≤12
   ·by_cases h4:x≤400
    ·clear hend
     have h12I:(fs.length:Int)≤12:=by omega
     go_wp2_with (go_at_call 70;refine HLI.out.mono ?_;rintro e w2 ⟨b,rfl,hb,hb2⟩;have HBB:=zH hb;have HB2:=zH hb2;clear hb hb2)
     go_ret;exact⟨b,by cases b<;>rfl,fun hb=>⟨h12,HBB.out hb⟩,by first|exact HB1.out.trans (HB2.out.mono HB1.out.size)|rw[←hN];exact HB1.out.trans (HB2.out.mono HB1.out.size)⟩
    ·have h4':decide (x≤400)=false:=decide_eq_false h4
     have h12I:(fs.length:Int)≤12:=by omega
     clear hend;go_wp2;go_ret;exact⟨false,rfl,fun h=>absurd h (by decide),by first|exact HB1.out|rw[←hN];exact HB1.out⟩
   ·have h12':decide (fs.length≤12)=false:=decide_eq_false h12
    have h12I:decide ((fs.length:Int)≤12)=false:=decide_eq_false (by omega);go_wp2;go_ret;have:=hend (by omega) _ rfl
    first|exact this|(rw[←hN];exact this)
theorem ut (w:H5)(m:Mo)(hm:m.inn w):Calls prog 12 #[.agg m.cells] w (qw w w.heap.size m.shortW):=by
 obtain⟨M,hM⟩:=zE m;have HM:=zH hM;have HIN:=zH hm;have hnf:=hm.nf;have HFR:=zH hm.frow;clear hm hM;obtain⟨sA,sC,fA,fC,ss,fs⟩:=m;simp only at hnf HFR;simp only[Mo.cells];obtain⟨N,hN⟩:=zE w.heap.size;obtain⟨W1,hW1⟩:=zE (w.alloc (.cells #[.slice sA ss.length sC,.slice fA fs.length fC] 25));have q1:W1.heap[N]?=some (.cells #[.slice sA ss.length sC,.slice fA fs.length fC] 25 (0,0)):=by rw[←hW1,←hN];exact alloc_at _ _
 have c1:W1.cell? ⟨N,0,none⟩=some (.slice sA ss.length sC):=(cell_of_row _ _ _ _ _ _ q1).trans rfl;have c2:W1.cell? ⟨N,1,none⟩=some (.slice fA fs.length fC):=(cell_of_row _ _ _ _ _ _ q1).trans rfl;have hb1:=gK hW1;have HLI:=zH (uq W1 M (by rw[←HM.out];exact HIN.out.below hb1));rw[←HM.out] at HLI;simp only[Mo.cells] at HLI;have HB1:=zH hb1;have HW1:=zH hW1;have hNl:=ae q1;clear q1 hb1 hW1;unfold maxLen at hnf;go_enter func12,ntmps12
 go_upto_region 1 with(fail)
 rw[HW1.out]
 go_upto_region 3 with(fail)
 go_loopw [3,4] (fun z c wr=>wr=W1∧∃(j:Nat) (x:Int),j≤fs.length∧j≤20∧c= .int .i64 (j:Int)∧z= .int .i64 x) (fun _ c _=>20-(intOf c).toNat)
 case atStart=>exact⟨rfl,0,0,Hg _,by omega,rfl,rfl⟩
 case round=>
  obtain⟨rfl,j,x,hj,hj20,rfl,rfl⟩:=hrel
  by_cases hjl:j<fs.length∧j<20
  ·have hjI:(j:Int)<(fs.length:Int):=by omega
   have hj2I:(j:Int)<20:=by omega
   obtain⟨f,hf⟩:∃f,fs[j]?=some f:=⟨_,GN hjl.1⟩
   obtain⟨b,off,rfl,hb,hcell⟩:=HFR.out (by intro e;rw[e] at hjl;simp at hjl);have q2:wr.cell? ⟨b,off+j*8+2,none⟩=some (.slice f.c.varsA f.c.nvars f.c.varsC):=by rw[HB1.out.cell (p:=⟨b,_,none⟩) hb];exact hcell j f hf 2 _ rfl
   clear hcell hf;go_wp2;go_roundw
   case rel=>exact⟨trivial,j+1,_,by omega,by omega,by go_num,rfl⟩
   case measure=>simp[intOf];omega
  ·by_cases hjf:j<fs.length
   ·have hjI:(j:Int)<(fs.length:Int):=by omega
    have h20:decide ((j:Int)<20)=false:=decide_eq_false (by omega)
    by_cases h4:x≤200
    ·go_wp2_with (go_at_call 27;refine HLI.out.mono ?_;rintro e w2 ⟨b,rfl,hb,hb2⟩;have HBB:=zH hb;have HB2:=zH hb2;clear hb hb2)
     go_ret;exact⟨b,by cases b<;>rfl,HBB.out,by first|exact HB1.out.trans (HB2.out.mono HB1.out.size)|rw[←hN];exact HB1.out.trans (HB2.out.mono HB1.out.size)⟩
    ·have h4':decide (x≤200)=false:=decide_eq_false h4
     go_wp2;go_ret;exact⟨false,rfl,fun h=>absurd h (by decide),by first|exact HB1.out|rw[←hN];exact HB1.out⟩
   ·have hjI:decide ((j:Int)<(fs.length:Int))=false:=decide_eq_false (by omega)
    by_cases h4:x≤200
    ·go_wp2_with (go_at_call 27;refine HLI.out.mono ?_;rintro e w2 ⟨b,rfl,hb,hb2⟩;have HBB:=zH hb;have HB2:=zH hb2;clear hb hb2)
     go_ret;exact⟨b,by cases b<;>rfl,HBB.out,by first|exact HB1.out.trans (HB2.out.mono HB1.out.size)|rw[←hN];exact HB1.out.trans (HB2.out.mono HB1.out.size)⟩
    ·have h4':decide (x≤200)=false:=decide_eq_false h4
     go_wp2;go_ret;exact⟨false,rfl,fun h=>absurd h (by decide),by first|exact HB1.out|rw[←hN];exact HB1.out⟩
theorem rZ {w:H5}:∀(fs:List Fn)(k:Nat),(∀f∈fs,f.inn w)→(bU k fs).length+bJ fs≤dI (fs.map Fn.c)+fs.length
 |[],_,_=>by simp[bU,bJ]
 |x::r,k,h=>by
  have h1:=rZ r (k+1) (fun f hf=>h f (by simp[hf]));have h2:(cO (k:Int) x).length≤x.vs.length+1:=Bu;have h3:=(h x (by simp)).nvars
  show(cO (k:Int) x++bU (k+1) r).length+(x.c.ins.length+bJ r)≤x.c.ins.length+x.c.nvars+dI (r.map Fn.c)+(r.length+1)
  rw[GU];omega
theorem Df {w:H5}{m:Mo}(hm:m.inn w)(hs:m.shortW)(hwf:∀g∈m.fs,∀i∈g.c.ins,bG i.d∧bG i.a∧bG i.b∧bG i.f):rU w m:=by
 obtain⟨h12,hss,hcs,hsl,hcl,ht⟩:=hs;rw[List.length_map] at hss hcs;have ht2:=rZ m.fs 0 hm.fin;have hfl:∀f∈m.fs,f.c.light:=fun f hf=>hcl f.c (List.mem_map.2 ⟨f,hf,rfl⟩);have hp:m.ptrs.length+bJ m.fs≤1212:=by
  show(bU 0 m.fs).length+_≤_
  omega
 refine⟨⟨hm,by omega,by omega,fun s hs=> ?_,fun f hf=> ?_,fun f hf i hi=> ?_⟩,hwf,fun f hf=> ?_,fun f hf=>(hfl f hf).1,by omega,by omega, ?_⟩
 ·have h1:=(hsl s.s (List.mem_map.2 ⟨s,hs,rfl⟩)).1
  rw[(hm.sin s hs).nf] at h1;omega
 ·have h1:=(hfl f hf).2.1
  rw[(hm.fin f hf).nvars] at h1;omega
 ·exact((hfl f hf).2.2.2.2 i hi).1
 ·have h1:=(hfl f hf).2.1
  rw[(hm.fin f hf).nvars] at h1;exact h1
 ·have h1:m.ptrs.length*m.fs.length≤1212*12:=Nat.mul_le_mul (by omega) h12
  omega
section
open Go.RowKit Go.ChangeShapes Go.WideShapes Go.Deep
section
variable {H:Type}{enc:TypeId×Value→H}{w:H5}{base:Nat}{spare:Nat→Bool}{held:Bool}
def Ins.mode_in (w:H5)(i:Ins):Prop:=∃(l:List Int) (ao:Option Addr) (cap:Nat),i.modeV= .slice ao l.length cap∧dY w ao l
theorem Dh {n:Nat}{cs:List Value}{x:DataW H×List MemPlace}(h:DataW.trod enc prog w base spare held n 42 cs=some x):∃i:Ins,i.cells.toList=cs∧i.args_in w∧i.mode_in w:=by
 obtain⟨i,h1,h2⟩:=Dn h;refine⟨i,h1,h2, ?_⟩;obtain⟨xs,m,_,_,hlen,hxl,hf⟩:=DataW.trod_struct underlying42 h;have hxl':xs.length=12:=hxl;have g8:=(hf 8 _ rfl).trans (GN (show 8<xs.length by omega));obtain⟨A,L,C,r8,_,hR,_⟩:=jm g8;refine⟨L,A,C, ?_,hR⟩;rw[←h1] at r8;simpa[Ins.cells,show prog.cellsOf 35=1 from by kernel_rfl] using r8
theorem Fs {n:Nat}{cs:List Value}{x:DataW H×List MemPlace}(h:DataW.trod enc prog w base spare held n 92 cs=some x):∃f:Fd,f.cells.toList=cs∧f.nm.size≤maxLen:=by
 obtain⟨xs,m,_,_,hlen,hxl,hf⟩:=DataW.trod_struct underlying92 h;have hc:prog.cellsOf 92=5:=by kernel_rfl
 have hxl':xs.length=3:=hxl;rw[hc] at hlen;obtain⟨c0,cs1,e0,hl1⟩:=zU hlen;obtain⟨c1,cs2,e1,hl2⟩:=zU hl1;obtain⟨c2,cs3,e2,hl3⟩:=zU hl2;obtain⟨c3,cs4,e3,hl4⟩:=zU hl3;obtain⟨c4,cs5,e4,hl5⟩:=zU hl4;obtain rfl:=Hm hl5;subst e4 e3 e2 e1 e0;have z1:prog.cellsOf 4=1:=by kernel_rfl
 have z2:prog.cellsOf 9=1:=by kernel_rfl
 have z3:prog.cellsOf 3=1:=by kernel_rfl
 have z4:prog.cellsOf 32=2:=by kernel_rfl
 have z5:prog.cellsOf 40=2:=by kernel_rfl
 have g0:=(hf 0 _ rfl).trans (GN (show 0<xs.length by omega));obtain⟨nm,r0,_,hsz⟩:=DataW.trod_string underlying9 g0;obtain rfl:c0= .string nm:=by simpa[z2] using r0
 have g1:=(hf 1 _ rfl).trans (GN (show 1<xs.length by omega));obtain⟨ys,m',_,_,_,hyl,hf'⟩:=DataW.trod_struct underlying32 g1;have hyl':ys.length=2:=hyl;have p0:=(hf' 0 _ rfl).trans (GN (show 0<ys.length by omega));have p1:=(hf' 1 _ rfl).trans (GN (show 1<ys.length by omega));obtain⟨rp,s0,_⟩:=DataW.trod_bool underlying4 p0;obtain⟨rto,s1,_,_⟩:=DataW.trod_string underlying9 p1;obtain rfl:c1= .bool rp:=by simpa[z1,z4] using s0
 obtain rfl:c2= .string rto:=by simpa[z2,z4] using s1
 have g2:=(hf 2 _ rfl).trans (GN (show 2<xs.length by omega));obtain⟨us,m'',_,_,_,hul,hf''⟩:=DataW.trod_struct underlying40 g2;have hul':us.length=2:=hul;have u0:=(hf'' 0 _ rfl).trans (GN (show 0<us.length by omega));have u1:=(hf'' 1 _ rfl).trans (GN (show 1<us.length by omega));obtain⟨ln,v0,_,_⟩:=DataW.trod_int underlying3 u0;obtain⟨cl,v1,_,_⟩:=DataW.trod_int underlying3 u1;obtain rfl:c3= .int .i64 ln:=by simpa[z3,z5] using v0
 obtain rfl:c4= .int .i64 cl:=by simpa[z3,z5] using v1
 exact⟨⟨nm,rp,rto,ln,cl⟩,rfl,hsz⟩
theorem Fu {n:Nat}{cs:List Value}{x:DataW H×List MemPlace}(h:DataW.trod enc prog w base spare held n 90 cs=some x):∃s:St,s.cells.toList=cs∧s.inn w:=by
 obtain⟨xs,m,_,_,hlen,hxl,hf⟩:=DataW.trod_struct underlying90 h;have hc:prog.cellsOf 90=4:=by kernel_rfl
 have hxl':xs.length=3:=hxl;rw[hc] at hlen;obtain⟨c0,cs1,e0,hl1⟩:=zU hlen;obtain⟨c1,cs2,e1,hl2⟩:=zU hl1;obtain⟨c2,cs3,e2,hl3⟩:=zU hl2;obtain⟨c3,cs4,e3,hl4⟩:=zU hl3;obtain rfl:=Hm hl4;subst e3 e2 e1 e0;have z2:prog.cellsOf 9=1:=by kernel_rfl
 have z3:prog.cellsOf 3=1:=by kernel_rfl
 have z5:prog.cellsOf 40=2:=by kernel_rfl
 have z6:prog.cellsOf 88=1:=by kernel_rfl
 have g0:=(hf 0 _ rfl).trans (GN (show 0<xs.length by omega));obtain⟨nm,r0,_,hsz⟩:=DataW.trod_string underlying9 g0;obtain rfl:c0= .string nm:=by simpa[z2] using r0
 have g1:=(hf 1 _ rfl).trans (GN (show 1<xs.length by omega));obtain⟨fA,fs,fC,r1,hfl,hfr,hfq⟩:=open_row Fd.cells (fun f:Fd=>f.nm.size≤maxLen) 5 (by decide) underlying88 (by kernel_rfl) (fun n cs x hx=>Fs hx) g1;obtain rfl:c1= .slice fA fs.length fC:=by simpa[z6] using r1
 have g2:=(hf 2 _ rfl).trans (GN (show 2<xs.length by omega));obtain⟨us,m'',_,_,_,hul,hf''⟩:=DataW.trod_struct underlying40 g2;have hul':us.length=2:=hul;have u0:=(hf'' 0 _ rfl).trans (GN (show 0<us.length by omega));have u1:=(hf'' 1 _ rfl).trans (GN (show 1<us.length by omega));obtain⟨ln,v0,_,_⟩:=DataW.trod_int underlying3 u0;obtain⟨cl,v1,_,_⟩:=DataW.trod_int underlying3 u1;obtain rfl:c2= .int .i64 ln:=by simpa[z3,z5] using v0
 obtain rfl:c3= .int .i64 cl:=by simpa[z3,z5] using v1
 exact⟨⟨⟨nm,fA,fs.length,fC,ln,cl⟩,fs⟩,rfl,rfl,hfr,hfl,hsz,hfq⟩
end
end
section
open Go.RowKit Go.ChangeShapes Go.WideShapes Go.Deep
theorem xQ {x:Int}(h:(Lit.int .i64 x).wf=true):bG x:=by
 simp only[Lit.wf,Bool.and_eq_true,decide_eq_true_eq] at h;exact h
def Ins.wfs (i:Ins):Prop:=bG i.d∧bG i.a∧bG i.b∧bG i.f
section
variable {H:Type}{enc:TypeId×Value→H}{w:H5}{base:Nat}{spare:Nat→Bool}{held:Bool}
theorem Di {n:Nat}{cs:List Value}{x:DataW H×List MemPlace}(h:DataW.trod enc prog w base spare held n 42 cs=some x):∃i:Ins,i.cells.toList=cs∧(i.args_in w∧i.wfs)∧i.mode_in w:=by
 obtain⟨i,h1,h2,h3⟩:=Dh h;refine⟨i,h1,⟨h2, ?_⟩,h3⟩;obtain⟨xs,m,_,_,hlen,hxl,hf⟩:=DataW.trod_struct underlying42 h;have hxl':xs.length=12:=hxl;have z:prog.cellsOf 3=1:=by kernel_rfl
 have g1:=(hf 1 _ rfl).trans (GN (show 1<xs.length by omega));have g2:=(hf 2 _ rfl).trans (GN (show 2<xs.length by omega));have g3:=(hf 3 _ rfl).trans (GN (show 3<xs.length by omega));have g4:=(hf 4 _ rfl).trans (GN (show 4<xs.length by omega));obtain⟨d,r1,_,w1⟩:=DataW.trod_int underlying3 g1;obtain⟨a,r2,_,w2⟩:=DataW.trod_int underlying3 g2;obtain⟨b,r3,_,w3⟩:=DataW.trod_int underlying3 g3;obtain⟨f,r4,_,w4⟩:=DataW.trod_int underlying3 g4;rw[←h1] at r1 r2 r3 r4;have e1:i.d=d:=by simpa[Ins.cells,z] using r1
 have e2:i.a=a:=by simpa[Ins.cells,z] using r2
 have e3:i.b=b:=by simpa[Ins.cells,z] using r3
 have e4:i.f=f:=by simpa[Ins.cells,z] using r4
 unfold Ins.wfs;rw[e1,e2,e3,e4];exact⟨xQ w1,xQ w2,xQ w3,xQ w4⟩
theorem Ew {n:Nat}{cs:List Value}{x:DataW H×List MemPlace}(h:DataW.trod enc prog w base spare held n 38 cs=some x):∃f:Fn,f.cells.toList=cs∧f.inn w∧∀i∈f.c.ins,i.wfs:=by
 obtain⟨xs,m,_,_,hlen,hxl,hf⟩:=DataW.trod_struct underlying38 h;have hc:prog.cellsOf 38=8:=by kernel_rfl
 have hxl':xs.length=6:=hxl;rw[hc] at hlen;obtain⟨c0,cs1,e0,hl1⟩:=zU hlen;obtain⟨c1,cs2,e1,hl2⟩:=zU hl1;obtain⟨c2,cs3,e2,hl3⟩:=zU hl2;obtain⟨c3,cs4,e3,hl4⟩:=zU hl3;obtain⟨c4,cs5,e4,hl5⟩:=zU hl4;obtain⟨c5,cs6,e5,hl6⟩:=zU hl5;obtain⟨c6,cs7,e6,hl7⟩:=zU hl6;obtain⟨c7,cs8,e7,hl8⟩:=zU hl7;obtain rfl:=Hm hl8;subst e7 e6 e5 e4 e3 e2 e1 e0;have g0:=(hf 0 _ rfl).trans (GN (show 0<xs.length by omega));obtain⟨nm,r0,_,hsz⟩:=DataW.trod_string underlying9 g0;obtain rfl:c0= .string nm:=by simpa[show prog.cellsOf 9=1 from by kernel_rfl] using r0
 have g1:=(hf 1 _ rfl).trans (GN (show 1<xs.length by omega));obtain⟨par,r1,_,_⟩:=DataW.trod_int underlying3 g1;obtain rfl:c1= .int .i64 par:=by simpa[show prog.cellsOf 3=1 from by kernel_rfl] using r1
 have g2:=(hf 2 _ rfl).trans (GN (show 2<xs.length by omega));obtain⟨varsA,vs,varsC,r2,hvl,hvr,_⟩:=open_row Vr.cells (fun _=>True) 3 (by decide) underlying30 (by kernel_rfl) (fun n cs x hx=>BB hx) g2;obtain rfl:c2= .slice varsA vs.length varsC:=by simpa[show prog.cellsOf 30=1 from by kernel_rfl] using r2
 have g3:=(hf 3 _ rfl).trans (GN (show 3<xs.length by omega));obtain⟨v,hv,_⟩:=BB g3;have z4:prog.cellsOf 34=3:=by kernel_rfl
 simp[Vr.cells,z4] at hv;obtain⟨rfl,rfl,rfl⟩:=hv;have g4:=(hf 4 _ rfl).trans (GN (show 4<xs.length by omega));obtain⟨frmA,frmL,frmC,r4,hfl,frmR,_⟩:=jm g4;obtain rfl:c6= .slice frmA frmL.length frmC:=by simpa[show prog.cellsOf 35=1 from by kernel_rfl] using r4
 have g5:=(hf 5 _ rfl).trans (GN (show 5<xs.length by omega));obtain⟨insA,ins,insC,r5,hil,hir,hia⟩:=open_row Ins.cells (fun i=>(i.args_in w∧i.wfs)∧i.mode_in w) 13 (by decide) underlying36 (by kernel_rfl) (fun n cs x hx=>Di hx) g5;obtain rfl:c7= .slice insA ins.length insC:=by simpa[show prog.cellsOf 36=1 from by kernel_rfl] using r5
 obtain⟨mds,hml,hmp⟩:=kG (fun k (l:List Int)=>∀i,ins[k]?=some i→∃ao cap,i.modeV= .slice ao l.length cap∧dY w ao l) ins.length (fun k hk=>by
  obtain⟨i,hi⟩:∃i,ins[k]?=some i:=⟨_,GN hk⟩
  obtain⟨l,ao,cap,h1,h2⟩:=(hia i (GV hi)).2;exact⟨l,fun j hj=>by rw[hi] at hj;obtain rfl:=Hl hj;exact⟨ao,cap,h1,h2⟩⟩)
 exact⟨⟨⟨nm,par,varsA,vs.length,varsC,v.ptr,v.tgt,v.cls,frmA,frmL.length,frmC,insA,insC,ins⟩,vs,frmL,mds⟩,rfl,⟨⟨hir,fun x hx=>(hia x hx).1.1,hil,⟨vs,rfl,hvr⟩,hvl,hfl,⟨frmL,rfl,frmR⟩⟩,hsz,rfl,hvr,rfl,frmR,hml,fun k i l h1 h2=>hmp k l h2 i h1⟩,fun x hx=>(hia x hx).1.2⟩
theorem open_moW {r:Reach}{b0:Nat}{v:Value}{d:DataW H}{p:List MemPlace}(hv:Value.okWide prog w r b0 25 v)(h:DataW.Trod enc prog w base spare held 25 v d p):
  ∃m:Mo,v= .agg m.cells∧m.inn w∧∀g∈m.fs,∀i∈g.c.ins,i.wfs:=by
 obtain⟨cs,fuel,hv',hfu⟩:=FJ underlying25 hv h;obtain⟨xs,m,_,_,hlen,hxl,hf⟩:=DataW.trod_struct underlying25 hfu;have hc:prog.cellsOf 25=2:=by kernel_rfl
 have hxl':xs.length=2:=hxl;rw[hc] at hlen;obtain⟨c0,cs1,e0⟩:=List.exists_cons_of_length_eq_add_one (show cs.toList.length=1+1 from by rw[hlen]);have hl1:cs1.length=1:=by rw[e0] at hlen;simpa using hlen
 obtain⟨c1,cs2,e1,hl2⟩:=zU hl1;obtain rfl:=Hm hl2;subst e1;have g0:=(hf 0 _ rfl).trans (GN (show 0<xs.length by omega));have g1:=(hf 1 _ rfl).trans (GN (show 1<xs.length by omega));obtain⟨sA,ss,sC,r0,hsl,hsr,hsq⟩:=open_row St.cells (fun s=>s.inn w) 4 (by decide) underlying22 (by kernel_rfl) (fun n cs x hx=>Fu hx) g0;obtain⟨fA,fs,fC,r1,hfl,hfr,hfq⟩:=open_row Fn.cells (fun f=>f.inn w∧∀i∈f.c.ins,i.wfs) 8 (by decide) underlying23 (by kernel_rfl) (fun n cs x hx=>Ew hx) g1;rw[e0] at r0 r1;obtain rfl:c0= .slice sA ss.length sC:=by simpa[show prog.cellsOf 22=1 from by kernel_rfl] using r0
 obtain rfl:c1= .slice fA fs.length fC:=by simpa[show prog.cellsOf 22=1 from by kernel_rfl,show prog.cellsOf 23=1 from by kernel_rfl] using r1
 have e:cs=(⟨sA,sC,fA,fC,ss,fs⟩:Mo).cells:=Array.ext' e0;exact⟨⟨sA,sC,fA,fC,ss,fs⟩,by rw[hv',e],⟨hsr,hfr,hsq,fun f hf=>(hfq f hf).1,hsl,hfl⟩,fun f hf=>(hfq f hf).2⟩
end
end
theorem IE {x:Int×Int}:∀{P:List (Int×Int)}{k:Nat},x∈P→∃i,i<P.length∧aM k P x=2*((k+i:Nat):Int)+1
 |[],k,h=>absurd h (by simp)
 |p::r,k,h=>by
  unfold aM
  by_cases e:p=x
  ·rw[if_pos e];exact⟨0,by simp,by simp⟩
  ·rw[if_neg e]
   obtain⟨i,h1,h2⟩:=IE (k:=k+1) (List.mem_of_ne_of_mem (fun e2=>e e2.symm) h);exact⟨i+1,by simp;omega,by rw[h2];congr 3;omega⟩
def Ib (n:Nat):List Bool:=(List.range (2*n)).map fun k=>decide (k%2=1)
theorem Ii {n:Nat}:(Ib n).length=2*n:=by simp[Ib]
theorem Ih {n k:Nat}(h:k<2*n):(Ib n)[k]?=some (decide (k%2=1)):=by
 unfold Ib;rw[List.getElem?_map,GN (by simpa using h)];simp
theorem Iu {n i:Nat}(h:i<n):xO (Ib n) (-(2*(i:Int)+1))=true:=by
 unfold xO;have e:(max (-(2*(i:Int)+1)) (- -(2*(i:Int)+1))-1).toNat=2*i:=by omega
 rw[e,List.getD_eq_getElem?_getD,Ih (by omega),Option.getD_some,decide_eq_false (by omega:¬2*i%2=1),decide_eq_false (by omega)];rfl
theorem II {n i:Nat}(h:i<n):xO (Ib n) (2*(i:Int)+1+1)=true:=by
 unfold xO;have e:(max (2*(i:Int)+1+1) (-(2*(i:Int)+1+1))-1).toNat=2*i+1:=by omega
 rw[e,List.getD_eq_getElem?_getD,Ih (by omega),Option.getD_some,decide_eq_true (by omega:(2*i+1)%2=1),decide_eq_true (by omega)];rfl
theorem Ic {P:List (Int×Int)}{x:Int×Int}(h:x∈P):xO (Ib P.length) (-(aM 0 P x))=true∧xO (Ib P.length) (aM 0 P x+1)=true:=by
 obtain⟨i,h1,h2⟩:=IE (k:=0) h;rw[h2,Hf];exact⟨Iu h1,II h1⟩
def Mo.free (m:Mo):Prop:=∀g∈m.fs,∀i∈g.c.ins,i.op≠12∧i.op≠13∧i.op≠11∧i.op≠15
theorem IA {m:Mo}{f:Nat}{g:Fn}{i:Ins}{beh:Int→Bool}(hr:gF m=0)(hf:m.free)(hg:m.fs[f]?=some g)(hi:i∈g.c.ins):∀c∈gB m.ptrs (f:Int) beh i,c.any (xO (Ib m.ptrs.length))=true:=by
 obtain⟨_,_,_,_,h5,_⟩:=gX hr;have hin:=(ku (h5 g (GV hg))).2.2.2.2.2 i hi;obtain⟨_,_,q3,q4,q5⟩:=jy hin;obtain⟨p12,p13,p9,p10,p8,p11,p18⟩:=zy hin;obtain⟨e12,e13,e11,e15⟩:=hf g (GV hg) i hi;have va:sZ i.op=true→isVar g.vs.length i.a=true:=fun h=>q3 i.a (by
  unfold readsOf;rw[if_neg e15];simp[h])
 intro c hc;unfold gB at hc;simp only at hc;rw[if_neg e12,if_neg e13] at hc
 by_cases e9:i.op=9
 ·rw[if_pos e9,List.mem_append,List.mem_append,Hq,Hq] at hc
  obtain⟨a1,a2⟩:=Ic (eF hg (va (by rw[e9];rfl)) (p9 e9).1);obtain⟨d1,d2⟩:=Ic (eF hg (q4 (by rw[e9];rfl)) (p9 e9).2);rcases hc with(rfl|hc)|rfl
  ·simp[d1]
  ·by_cases hb:i.a≠i.d∧beh i.a=true
   ·rw[if_pos hb,Hq] at hc;rw[hc];simp[d1]
   ·rw[if_neg hb] at hc;exact absurd hc (by simp)
  ·simp[a2]
 rw[if_neg e9] at hc
 by_cases e10:i.op=10
 ·rw[if_pos e10] at hc
  obtain⟨a1,a2⟩:=Ic (eF hg (va (by rw[e10];rfl)) (p10 e10).1);rcases List.mem_cons.1 hc with rfl|hc
  ·simp[a2]
  ·rw[Hq] at hc;rw[hc];simp[a2]
 rw[if_neg e10] at hc
 by_cases e8:i.op=8
 ·rw[if_pos e8,Hq] at hc
  obtain⟨a1,a2⟩:=Ic (eF hg (va (by rw[e8];rfl)) (p8 e8));rw[hc];simp[a2]
 rw[if_neg e8,if_neg e11,if_neg e15] at hc
 by_cases e18:i.op=18
 ·rw[if_pos e18] at hc
  by_cases hz:aM 0 m.ptrs ((f:Int),(-1:Int))=0
  ·rw[if_pos hz] at hc;exact absurd hc (by simp)
  ·rw[if_neg hz] at hc
   have hrm:=nT hz;obtain⟨r1,r2⟩:=Ic hrm;obtain⟨k,g',k1,k2,k3⟩:=qj hrm;have hk:f=k:=by omega
   subst hk;rw[hg] at k1;obtain rfl:=Hl k1;have hrt:g.ret.1=true:=by
    rcases k3 with⟨_,k3⟩|⟨k3,_⟩
    ·exact k3
    ·have:=(bO.1 k3).1;omega
   obtain⟨a1,a2⟩:=Ic (eF hg (va (by rw[e18];rfl)) (by rw[p18 e18];exact hrt));simp only[List.mem_cons,List.not_mem_nil,or_false] at hc;rcases hc with rfl|rfl|rfl
   ·simp[r1]
   ·simp[a1]
   ·simp[a2]
 rw[if_neg e18] at hc;exact absurd hc (by simp)
theorem IB {m:Mo}{beh:Nat→Nat→Int→Bool}(hr:gF m=0)(hf:m.free):mr (Ib m.ptrs.length) ((m.wants beh).map Prod.fst)=true:=by
 unfold mr;rw[List.all_eq_true];intro c hc;obtain⟨x,hx,rfl⟩:=List.mem_map.1 hc;obtain⟨f,g,hg,h⟩:=vv hx;rw[Hf] at h;rcases h with h|h
 ·obtain⟨j,p,h1,_,h3⟩:=vk h
  have hj:=(GQ.1 h1).1;have:=Iu hj;rw[h3,Hf];simp[this]
 ·obtain⟨j,i,h1,h2,h3⟩:=vg h
  exact IA hr hf hg (GV h1) _ h2
theorem IG {w:H5}{m:Mo}(hm:m.inn w)(hs:m.shortW):m.ptrs.length*m.fs.length+124*bJ m.fs≤200000:=by
 obtain⟨h12,_,_,_,_,ht⟩:=hs;have ht2:=rZ m.fs 0 hm.fin;have hp:m.ptrs.length+bJ m.fs≤1212:=by
  show(bU 0 m.fs).length+_≤_
  omega
 have h1:m.ptrs.length*m.fs.length≤1212*12:=Nat.mul_le_mul (by omega) h12;omega
theorem IC:(prog.info? 4).map (fun i=>(i.zero,i.size,i.bytes))=some (some (.bool false),1,1):=by kernel_rfl
def IL (P q:Nat):Array Value:=((List.range (2*P)).map fun k=>Value.bool (decide (k%2=1∧k<2*q))).toArray
theorem Ig {P q k:Nat}(h:k<2*P):(IL P q)[k]?=some (Value.bool (decide (k%2=1∧k<2*q))):=by
 unfold IL;rw[List.getElem?_toArray,List.getElem?_map,GN (by simpa using h)];simp
theorem Ie {P q:Nat}:(IL P q).size=2*P:=by simp[IL]
theorem IJ {P:Nat}:Array.replicate (2*P) (Value.bool false)=IL P 0:=by
 apply Array.ext (by simp[Ie]);intro k h1 h2;have e:=Ig (q:=0) (show k<2*P by simpa[Ie] using h2);rw[Array.getElem?_eq_getElem h2] at e;rw[Array.getElem_replicate,Hl e];congr 1;exact(decide_eq_false (by omega)).symm
theorem IK {P q:Nat}(h:q<P):(IL P q).setIfInBounds (2*q+1) (.bool true)=IL P (q+1):=by
 apply Array.ext (by simp[Ie]);intro k h1 h2;have hk:k<2*P:=by simpa[Ie] using h2
 have e1:=Ig (q:=q) hk;have e2:=Ig (q:=q+1) hk;rw[Array.getElem?_eq_getElem h2] at e2;rw[Array.getElem?_eq_getElem (by simpa[Ie] using hk)] at e1;rw[Array.getElem_setIfInBounds (by simpa[Ie] using hk),Hl e2]
 by_cases e:2*q+1=k
 ·rw[if_pos e]
  congr 1;rw[decide_eq_true];omega
 ·rw[if_neg e,Hl e1]
  congr 1;apply decide_eq_decide.2;omega
def IM (W7:H5)(MB P q:Nat)(wr:H5):Prop:=Ext (·=MB) W7 wr∧wr.heap[MB]?=some (.cells (IL P q) 4 (0,0))
theorem wantFree_calls (m:Mo)(w:H5)(hm:m.inn w)(hwf:∀g∈m.fs,∀i∈g.c.ins,i.wfs):
  zP 3 #[.agg m.cells] w (.bool true):=by
 obtain⟨N,hN⟩:=zE w.heap.size;obtain⟨W1,hW1⟩:=zE (w.alloc (.cells m.cells 25));have hb1:=gZ hW1 hN;have hs1:W1.heap.size=N+1:=by rw[←hW1];simp[hN]
 have q1:W1.heap[N]?=some (.cells m.cells 25 (0,0)):=by rw[←hW1,←hN];exact alloc_at _ _
 have HK:Ia (∀W,H9 W1.heap.size W1 W→W.cell? ⟨N,0,none⟩=some (.slice m.sA m.ss.length m.sC)∧W.cell? ⟨N,1,none⟩=some (.slice m.fA m.fs.length m.fC)∧m.inn W∧H9 N w W∧W.heap[N]?=some (.cells m.cells 25 (0,0))):=fun W hW=>by
  have h1:=(hW.block N (by omega)).trans q1;have h3:=hb1.trans (hW.mono (by omega));exact⟨zR h1 0 _,zR h1 1 _,hm.below (by rw[hN];exact h3),h3,h1⟩
 obtain⟨c0,c1,hm1,_⟩:=HK.out W1 (Hw _ _);have HLI:=zH (ut W1 m hm1);have HAL:=zH fun W=>uo W;have HWF:=zH hwf;have hW1':=hW1;simp only[Mo.cells] at hW1' HLI;have HW1:=zH hW1';unfold zP;rw[hN];simp only[Mo.cells];clear hm hm1 q1 hW1 hW1' hb1 hwf;go_enter func3,ntmps3
 go_upto_region 1 with(fail)
 rw[HW1.out];clear hN
 go_wp2_with fail
 go_at_call 12;refine HLI.out.mono ?_;rintro e w2 ⟨b,rfl,hb,hb2⟩;obtain⟨d0,d1,hm2,hbb2,_⟩:=HK.out w2 hb2;have HB2:=zH hb2;clear HW1 HLI;cases b with
 |false=>
  clear c0 c1 hb hb2 hm2 hbb2
  go_wp2_with (go_at_call 14;refine(HAL.out _).mono ?_;rintro e w3 ⟨rfl,hb3⟩;have HR:=zH (HK.out w3 (HB2.out.trans (hb3.mono HB2.out.size))).2.2.2.1;clear hb3)
  go_ret;exact⟨rfl,HR.out⟩
 |true=>
 have hlt:=hb rfl;have hwi:=Df hm2 hlt HWF.out;have HFEW:Ia ((m.wants (fM m)).length≤200000):=Nat.le_trans (vG m.fs 0 hwi.ri.al) (IG hm2 hlt);have HRR:=zH (qY m w2 hwi.ri);have HWI:Ia (∀W,H9 w2.heap.size w2 W→rU W m):=fun W hW=>⟨hwi.ri.below hW,hwi.wf,hwi.nv,hwi.ni,hwi.nf,hwi.np,hwi.nt⟩
 obtain⟨F,hF⟩:=zE (gF m);rw[hF] at HRR;simp only[Mo.cells] at HRR;clear c0 c1 hb hb2 hm2 hbb2 hwi hlt
 by_cases hF0:F=0
 rotate_left
 ·have e0:(F != 0)=true:=by rw[bne_iff_ne];exact hF0
  clear hF
  go_wp2_with (first
   |(go_at_call 13;refine HRR.out.mono ?_;rintro e w3 ⟨rfl,hb3⟩;have HB3:=zH (HB2.out.trans (hb3.mono HB2.out.size));clear hb3)
   |(go_at_call 14;refine(HAL.out _).mono ?_;rintro e w4 ⟨rfl,hb4⟩;have HR:=zH (HK.out w4 (HB3.out.trans (hb4.mono HB3.out.size))).2.2.2.1;clear hb4))
  go_ret;exact⟨rfl,HR.out⟩
 subst hF0;have e0:((0:Int) != 0)=false:=rfl;have HWO:Ia (∀W,H9 w2.heap.size w2 W→Calls prog 15 #[.agg #[.slice m.sA m.ss.length m.sC,.slice m.fA m.fs.length m.fC]] W fun e w'=>∃T Bb MB lv at_ tg s,e= .returned (.tuple #[.pointer (some ⟨T,0,none⟩),.int .i64 0])∧Wn T Bb MB lv m.ptrs (2*(m.ptrs.length:Int)) (aM 0 m.ptrs) ((m.wants (fM m)).map Prod.fst) ((m.wants (fM m)).map Prod.snd) at_ (W.heap.size+1) tg s w'∧H9 W.heap.size W w'):=fun W hW=>by
  refine(og m W (HWI.out W hW) hF).mono ?_;rintro e w' ⟨T,Bb,MB,lv,at_,he,tg,s,hwn,hb⟩;refine⟨T,Bb,MB,lv,at_,tg,s,he,hwn, ?_⟩;have hb0:H9 W.heap.size W (W.alloc (.cells m.cells 25)):=(Hw _ _).alloc (He _) _;exact hb0.trans (hb.mono (Nat.le_succ _))
 have HOK:Ia (∀x∈m.wants (fM m),xB (2*(m.ptrs.length:Int)) x.1):=fun x hx=>(Ej hF hx).1;have HFR:Ia (m.free→mr (Ib m.ptrs.length) ((m.wants (fM m)).map Prod.fst)=true):=fun h=>IB hF h;have HNP:Ia (m.ptrs.length≤20000):=(HWI.out w2 (Hw _ _)).np;have HNF:Ia (m.fs.length≤60∧∀g∈m.fs,g.c.ins.length≤400):=⟨(HWI.out w2 (Hw _ _)).nf,(HWI.out w2 (Hw _ _)).ni⟩
 clear hF
 go_upto_region 3 with(go_at_call 13;refine HRR.out.mono ?_;rintro e w3 ⟨rfl,hb3⟩;have HB3:=zH (HB2.out.trans (hb3.mono HB2.out.size));have HB23:=zH hb3;clear hb3)
 clear d0 d1 e0 HRR;have HK3:Ia (∀W,H9 w3.heap.size w3 W→H9 W1.heap.size W1 W):=fun W hW=>HB3.out.trans (hW.mono HB3.out.size);have HAR:Ia (∀W,H9 w3.heap.size w3 W→zP 14 #[] W (.bool true)):=fun W _=>HAL.out W
 go_wp2_with fail
 go_loopw [3] (fun c wr=>∃j:Nat,j≤m.fs.length∧c= .int .i64 (j:Int)∧H9 w3.heap.size w3 wr∧∀(q:Nat) g,q<j→m.fs[q]?=some g→∀i∈g.c.ins,i.op≠12∧i.op≠13∧i.op≠11∧i.op≠15) (fun c _=>m.fs.length-(intOf c).toNat)
 case atStart=>exact⟨0,Hg _,rfl,Hw _ _,fun q g h=>absurd h (Nat.not_lt_zero _)⟩
 case round=>
  rename H5=>wr;obtain⟨j,hj,rfl,hbr,hall⟩:=hrel;have HBR:=zH hbr;have HALL:=zH hall;obtain⟨d0,d1,hmi,_⟩:=HK.out wr (HK3.out wr hbr);have hnf:=HNF.out.1
  by_cases hjl:j<m.fs.length
  ·have hjI:(j:Int)<(m.fs.length:Int):=by omega
   obtain⟨g,hg⟩:∃g,m.fs[j]?=some g:=⟨_,GN hjl⟩
   have hgm:=GV hg;have HGI:=zH (hmi.fin g hgm).code.row;have hni:=HNF.out.2 g hgm;obtain⟨fb,fo,hfA,hfb,hfc⟩:=hmi.frow (by intro e;rw[e] at hjl;simp at hjl);have g7:wr.cell? ⟨fb,fo+j*8+7,none⟩=some (.slice g.c.insA g.c.ins.length g.c.insC):=hfc j g hg 7 _ rfl;have HG7:Ia (∀W,H9 wr.heap.size wr W→W.cell? ⟨fb,fo+j*8+7,none⟩=some (.slice g.c.insA g.c.ins.length g.c.insC)):=fun W hW=>by rw[hW.cell (p:=⟨fb,_,none⟩) hfb];exact g7
   have HFA:=zH hfA;have HG:=zH hg;have HRW:Ia (∀W,H9 wr.heap.size wr W→H9 w3.heap.size w3 W):=fun W hW=>HBR.out.trans (hW.mono HBR.out.size);clear hbr hall hmi hg hgm hfc g7;rw[hfA] at d1;clear hfA
   go_upto_region 6 with(fail)
   clear d0 d1
   go_wp2_with fail
   go_loopw [4] (fun c wq=>∃k:Nat,k≤g.c.ins.length∧c= .int .i64 (k:Int)∧H9 wr.heap.size wr wq∧∀(q:Nat) i,q<k→g.c.ins[q]?=some i→i.op≠12∧i.op≠13∧i.op≠11∧i.op≠15) (fun c _=>g.c.ins.length-(intOf c).toNat)
   case atStart=>exact⟨0,Hg _,rfl,Hw _ _,fun q g h=>absurd h (Nat.not_lt_zero _)⟩
   case round=>
    rename H5=>wq;obtain⟨k,hk,rfl,hbq,hal⟩:=hrel;have HBQ:=zH hbq;have HAQ:=zH hal;obtain⟨d0,d1,_⟩:=HK.out wq (HK3.out wq (HRW.out wq hbq));rw[HFA.out] at d1;have g7:=HG7.out wq hbq
    by_cases hkl:k<g.c.ins.length
    ·have hkI:(k:Int)<(g.c.ins.length:Int):=by omega
     obtain⟨i,hi⟩:∃i,g.c.ins[k]?=some i:=⟨_,GN hkl⟩
     obtain⟨ib,io,hiA,hib,hic⟩:=HGI.out (by intro e;rw[e] at hkl;simp at hkl);have i0:wq.cell? ⟨ib,io+k*13,none⟩=some (.int .i64 i.op):=by rw[hbq.cell (p:=⟨ib,_,none⟩) hib];exact hic k i hi 0 _ rfl
     rw[hiA] at g7;have HI:=zH hi;clear hbq hal hi hic hiA
     by_cases hop:i.op=12∨i.op=13∨i.op=11∨i.op=15
     ·have HAW:=zH (HAR.out wq (HRW.out wq HBQ.out))
      by_cases e12:i.op=12
      ·have b12:(i.op==12)=true:=by rw[e12];rfl
       go_wp2_with (go_at_call 14;refine HAW.out.mono ?_;rintro e w9 ⟨rfl,hb9⟩;have HR:=zH (HK.out w9 (HK3.out w9 (HRW.out w9 (HBQ.out.trans (hb9.mono HBQ.out.size))))).2.2.2.1;clear hb9)
       go_ret;exact⟨rfl,HR.out⟩
      have b12:(i.op==12)=false:=beq_false_of_ne e12
      by_cases e13:i.op=13
      ·have b13:(i.op==13)=true:=by rw[e13];rfl
       go_wp2_with (go_at_call 14;refine HAW.out.mono ?_;rintro e w9 ⟨rfl,hb9⟩;have HR:=zH (HK.out w9 (HK3.out w9 (HRW.out w9 (HBQ.out.trans (hb9.mono HBQ.out.size))))).2.2.2.1;clear hb9)
       go_ret;exact⟨rfl,HR.out⟩
      have b13:(i.op==13)=false:=beq_false_of_ne e13
      by_cases e11:i.op=11
      ·have b11:(i.op==11)=true:=by rw[e11];rfl
       go_wp2_with (go_at_call 14;refine HAW.out.mono ?_;rintro e w9 ⟨rfl,hb9⟩;have HR:=zH (HK.out w9 (HK3.out w9 (HRW.out w9 (HBQ.out.trans (hb9.mono HBQ.out.size))))).2.2.2.1;clear hb9)
       go_ret;exact⟨rfl,HR.out⟩
      have b11:(i.op==11)=false:=beq_false_of_ne e11;have b15:(i.op==15)=true:=by rw[show i.op=15 by omega];rfl
      go_wp2_with (go_at_call 14;refine HAW.out.mono ?_;rintro e w9 ⟨rfl,hb9⟩;have HR:=zH (HK.out w9 (HK3.out w9 (HRW.out w9 (HBQ.out.trans (hb9.mono HBQ.out.size))))).2.2.2.1;clear hb9)
      go_ret;exact⟨rfl,HR.out⟩
     ·have hn:i.op≠12∧i.op≠13∧i.op≠11∧i.op≠15:=by omega
      have b12:(i.op==12)=false:=beq_false_of_ne hn.1;have b13:(i.op==13)=false:=beq_false_of_ne hn.2.1;have b11:(i.op==11)=false:=beq_false_of_ne hn.2.2.1;have b15:(i.op==15)=false:=beq_false_of_ne hn.2.2.2;have HNN:=zH hn;clear hn hop;go_wp2;go_roundw
      case rel=>
       refine⟨k+1,by omega,by go_num,HBQ.out,fun q y hq hy=> ?_⟩
       by_cases e:q=k
       ·rw[e,HI.out] at hy;obtain rfl:=Hl hy;exact HNN.out
       ·exact HAQ.out q y (by omega) hy
      case measure=>simp[intOf];omega
    ·have hke:k=g.c.ins.length:=by omega
     subst hke;clear hbq hal;go_wp2;go_roundw
     case rel=>
      refine⟨j+1,by omega,by go_num,HRW.out wq HBQ.out,fun q y hq hy i hi=> ?_⟩
      by_cases e:q=j
      ·rw[e,HG.out] at hy
       obtain rfl:=Hl hy;obtain⟨n,hn⟩:=List.mem_iff_getElem?.1 hi;exact HAQ.out n i (GQ.1 hn).1 hn
      ·exact HALL.out q y (by omega) hy i hi
     case measure=>simp[intOf];omega
  ·have hje:j=m.fs.length:=by omega
   subst hje;have hfree:m.free:=fun g hg i hi=>by
    obtain⟨n,hn⟩:=List.mem_iff_getElem?.1 hg;exact hall n g (GQ.1 hn).1 hn i hi
   have HFE:=zH (HFR.out hfree);have HOF:=zH (HWO.out wr (HB23.out.trans (hbr.mono HB23.out.size)));clear hfree hall hmi hj hjl HFR HWO;have e0:((0:Int) != 0)=false:=rfl
   go_upto_region 13 with(go_at_call 15;refine HOF.out.mono ?_;rintro e w4 ⟨T,Bb,MB,lv,at_,tg,s,rfl,hwn,hb4⟩;have HWN:=zH hwn;have HB4:Ia (H9 W1.heap.size W1 w4):=zH ((HK3.out wr hbr).trans (hb4.mono (HK3.out wr hbr).size));clear hwn hb4)
   clear d0 d1 HOF hbr;obtain⟨P,hP⟩:=zE m.ptrs.length;obtain⟨L,hL⟩:∃L:Nat,L=2*P:=⟨_,rfl⟩
   obtain⟨CL,hCL⟩:=zE ((m.wants (fM m)).map Prod.fst);obtain⟨YL,hYL⟩:=zE ((m.wants (fM m)).map Prod.snd);have hLP:2*(P:Int)=(L:Int):=by omega
   have HC3:Ia (∀c∈CL,c.all (bH (L:Int))=true∧c.length≤80000):=fun c hc=>by
    rw[←hCL] at hc;obtain⟨x,hx,rfl⟩:=List.mem_map.1 hc;have h:=HOK.out x hx;rw[hP,hLP] at h;exact⟨List.all_eq_true.2 fun y hy=>Fg (h.2.2 y hy),by have:=h.2.1;omega⟩
   rw[hCL,hYL,hP,hLP] at HWN;rw[hP,hCL] at HFE;have HFEW:Ia (CL.length≤200000):=by unfold Ia;rw[←hCL,List.length_map];exact HFEW.out
   rw[hP] at HNP;have HF5:=zH (mq w4 HWN.out (fun c hc=>(HC3.out c hc).2));have HLE:=zH hL;have hL4:L≤40000:=by have:=HNP.out;omega
   obtain⟨i0,hi0,hz0,hz1,hz2⟩:=info_parts IC;clear hCL hYL hP HOK hLP hL
   go_upto_region 16 with(go_at_call 16;refine HF5.out.mono ?_;rintro e w5 ⟨fa,fc,rfl,hcl,hb5⟩;have hfs:=vJ (w:=w5) (N:=(L:Int)) (a:=fa) (n:=CL.length) (k:=fc);have HB5:=zH hb5;have HCL:=zH hcl;clear hb5 hcl)
   obtain⟨E,hE⟩:=zE w5.heap.size;obtain⟨W6,hW6⟩:=zE (w5.alloc (.cells #[.int .i64 (L:Int),.slice fa CL.length fc] 48));have hb56:=gK hW6;have hr6:W6.heap[E]?=some (.cells #[.int .i64 (L:Int),.slice fa CL.length fc] 48 (0,0)):=by rw[←hW6,←hE];exact alloc_at _ _
   rw[hW6,hE];have HC6:=zH (HCL.out.below hb56);have HB6:Ia (H9 W1.heap.size W1 W6):=HB4.out.trans ((HB5.out.trans (hb56.mono HB5.out.size)).mono HB4.out.size);have HR6:=zH hr6;have hmx:max (L:Int) 0=(L:Int):=by omega
   have e0':=(zR hr6 0 (.int .i64 (L:Int)))
   have hEl:=ae hr6;clear hfs hb56 hr6 hE hW6 HF5 HCL HWN HB5 e0
   go_upto_region 17 with(at_make;refine iT rfl (.tmp 74) (.tmp 74) 50 rfl 4 i0 (.bool false) underlying50 hi0 hz0 hz1 rfl .i64 .i64 _ _ L rfl rfl (by omega) (by omega) (by rw[hz2];omega) (by unfold maxLen;omega) ?_)
   obtain⟨MB,hMB⟩:=zE W6.heap.size;obtain⟨W7,hW7⟩:=zE (W6.alloc (.cells (Array.replicate L (.bool false)) 4));have hb67:=gK hW7;have hr7:W7.heap[MB]?=some (.cells (Array.replicate L (.bool false)) 4 (0,0)):=by rw[←hW7,←hMB];exact alloc_at _ _
   rw[hW7,hMB];have HB67:=zH hb67;have HMB:=zH hMB;have hI0:IM W7 MB P 0 W7:=⟨Ext.refl _ _,by rw[hr7,←IJ,←HLE.out]⟩
   clear hi0 hz0 hz1 hz2 hmx e0' hEl hb67 hr7 hW7 hMB
   go_wp2_with fail
   go_loopw [10] (fun c wr=>∃j q:Nat,j=2*q+1∧q≤P∧c= .int .i64 (j:Int)∧IM W7 MB P q wr) (fun c _=>L+1-(intOf c).toNat)
   case atStart=>exact⟨1,0,rfl,Hg _,rfl,hI0⟩
   case round=>
    rename H5=>wm;obtain⟨j,q,hj,hq,rfl,hfx,hfr⟩:=hrel
    by_cases hql:q<P
    ·have hjl:(j:Int)<(L:Int):=by have:=HLE.out;omega
     have hmb:=ae hfr;obtain⟨hcl,hfz⟩:=rowAt hfr j (Ig (q:=q) (show j<2*P by omega));have HFX:=zH hfx;have HFR2:=zH hfr;have HJ:=zH hj;clear hfx hfr hI0 hj;go_wp2;go_roundw
     case rel=>
      refine⟨j+2,q+1,by have:=HJ.out;omega,by omega,by go_num,HFX.out.trans (Ext.set1 wm MB j _) (fun _ h=> .inl h), ?_⟩;have h:=Hz wm MB j _ _ (.bool true) HFR2.out;rw[HJ.out,IK hql] at h;rw[HJ.out];exact h
     case measure=>simp[intOf];omega
    ·have hqe:q=P:=by omega
     subst hqe;have hjl:¬((j:Int)<(L:Int)):=by have:=HLE.out;omega
     have hxm:Ext (·=MB) W6 wm:=(Ext.of_below_size (M:=(·=MB)) HB67.out).trans hfx (fun k h=> .inl h);have hbm:H9 W6.heap.size W6 wm:=(hxm.mono (M':=(W6.heap.size≤·)) (fun k hk=>by rw[hk,HMB.out];exact He _)).below (He _) (fun k hk=>hk);have hcm:iw (w4.heap.size+1) wm fa CL:=HC6.out.ext hxm (fun k _ hk e=>by have:=HMB.out;omega);have hfl:(Ib q).length=L:=by rw[Ii,HLE.out]
     have HEV:Ia (zP 17 #[.agg #[.int .i64 (L:Int),.slice fa CL.length fc],.slice (some ⟨MB,0,none⟩) L L] wm (.bool true)):=by
      have hba:oh wm (some ⟨MB,0,none⟩) (Ib q):=fun k x hx=>by
       have hk:k<2*q:=by have h:=(GQ.1 hx).1;rwa [Ii] at h
       refine⟨MB,0,rfl,ae hfr, ?_⟩;rw[Ih hk] at hx;have h:=(rowAt hfr k (Ig (q:=q) hk)).1;rw[Hf,h,←Hl hx];congr 2;exact decide_eq_decide.2 ⟨fun h=>h.1,fun h=>⟨h,hk⟩⟩
      have h:=Bw (Ib q) _ fa _ CL fc L wm hcm hba (by omega) (fun c hc=>by rw[hfl];exact HC3.out c hc) HFEW.out;rw[hfl,HFE.out] at h;exact h
     have HBM:Ia (H9 W1.heap.size W1 wm):=HB6.out.trans (hbm.mono HB6.out.size);have hrE:=(hbm.block E (ae HR6.out)).trans HR6.out;have f0:=(zR hrE 0 (.int .i64 (L:Int)))
     have f1:=(zR hrE 1 (.slice fa CL.length fc))
     have hEl:=ae hrE;clear hfx hfr hxm hbm hcm hfl hrE hI0 hj hq hql
     go_upto_region 21 with(fail)
     go_wp2_with fail
     go_at_call 17;refine HEV.out.mono ?_;rintro e w8 ⟨rfl,hb8⟩;have HB8:Ia (H9 W1.heap.size W1 w8):=HBM.out.trans (hb8.mono HBM.out.size);clear hb8 f0 f1 hEl
     go_wp2_with (go_at_call 14;refine(HAL.out _).mono ?_;rintro e w9 ⟨rfl,hb9⟩;have HR:=zH (HK.out w9 (HB8.out.trans (hb9.mono HB8.out.size))).2.2.2.1;clear hb9)
     go_ret;exact⟨rfl,HR.out⟩
section
open Go.ChangeShapes Go.WideShapes Go.ChangeAt Go.RowKit
theorem own_:ownKnob prog.godebug=none:=by kernel_rfl
theorem laidOut_:laidOutB prog=true:=by kernel_rfl
theorem law_post {H:Type}{enc:TypeId×Value→H}{P:Program}{f:Func}{s:ChangeSpec}{W W':H5}{args:Array Value}{v:Value}{ds gs:List (DataW H)}{before pa pv:List MemPlace}
  (hW:DataW.Whole enc P f.params.toList s.vars false W args.toList ds gs before)
  (hres:∀(b:Nat)(sp:Nat→Bool)(hd:Bool),DataW.TrodAll enc P W' b sp hd f.resultTypes.toList (v.resultList f.resultTypes.size) (s.fn H (ds++gs)).results [])
  (hargs:DataW.TrodAll enc P W' 0 (fun b=>decide (b<W.heap.size)) true f.params.toList args.toList (s.fn H (ds++gs)).args pa)
  (hvars:DataW.TrodVars enc P W' (fun b=>decide (b<W.heap.size)) s.vars (s.fn H (ds++gs)).vars pv)
  (hps:before=pa++pv)(hb:H9 W.heap.size W W'):
  s.post enc P f false true false false W args v W':=by
 refine⟨ds,gs,before,[],pa,pv,hW,hres _ _ _,hargs,hvars,World.keptBut_mono (fun p hp=>⟨hp, ?_⟩) (hb.frame (·∈before)),fun h=> ?_⟩
 ·rw[hps,List.mem_append] at hp
  exact Or.inr hp
 ·exact absurd h (by decide)
theorem shut_true {H:Type}{enc:TypeId×Value→H}{W:H5}{base:Nat}{sp:Nat→Bool}{held:Bool}(b:Bool):DataW.Trod enc prog W base sp held 4 (.bool b) (.lit (.bool b)) []:=⟨1,by simp[DataW.trod,Value.cells,underlying4]⟩
end
theorem bq {a b:Bool}(h:a=true)(k:b=true):(a&&b)=true:=by rw[h,k];rfl
theorem Iw:(laidOutB Tryz.pinned.checked.prog)=true:=by kernel_rfl
theorem Iy:(mapsRowed Tryz.pinned.checked.prog)=true:=by kernel_rfl
theorem Iz:((Rows.wantFreeRow.inPlace==Tryz.pinned.checked.prog.inPlace 3))=true:=by kernel_rfl
theorem Ij:((Rows.wantFreeRow.unfollowed==Tryz.pinned.checked.prog.unfollowed 3))=true:=by kernel_rfl
theorem Ik:((Rows.wantFreeRow.recurses==Tryz.pinned.checked.prog.recurses 3))=true:=by kernel_rfl
theorem Il:((Rows.wantFreeRow.named==Tryz.pinned.checked.prog.varsNamed 3))=true:=by kernel_rfl
theorem Im:((Rows.wantFreeRow.loops==(Tryz.f3.params.toList++Rows.wantFreeSpec.plain.varTypes Tryz.pinned.checked.prog).any (Tryz.pinned.checked.prog.loopsFrom ·)))=true:=by kernel_rfl
theorem Io:(Tryz.pinned.checked.prog.stopsHeard)=true:=by kernel_rfl
theorem Ip:(Tryz.pinned.checked.prog.mayEnter)=true:=by kernel_rfl
theorem Iq:((Rows.wantFreeRow.lifted==Tryz.pinned.checked.prog.liftsFinal))=true:=by kernel_rfl
theorem Ir:((Tryz.pinned.checked.prog.make==some Rows.wantFreeRow.make))=true:=by kernel_rfl
theorem wantFree_closed:joinedFacts Tryz.pinned.checked.prog 3 Tryz.f3 Rows.wantFreeSpec Rows.wantFreeRow=true:=by
 unfold joinedFacts;exact bq (bq (bq (bq (bq (bq (bq (bq (bq (bq (bq (bq (bq (bq (bq (bq (bq (bq (bq (bq (bq (bq (bq (bq (bq (bq (bq (bq (bq (bq (bq (by kernel_rfl) Iw) Iy) (by kernel_rfl)) (by kernel_rfl)) (by kernel_rfl)) (by kernel_rfl)) (by kernel_rfl)) (by kernel_rfl)) Iz) Ij) Ik) Il) (by kernel_rfl)) (by kernel_rfl)) (by kernel_rfl)) Im) (by kernel_rfl)) (by kernel_rfl)) (by kernel_rfl)) (by kernel_rfl)) (by kernel_rfl)) (by kernel_rfl)) (by kernel_rfl)) Io) Ip) Iq) Ir) (by kernel_rfl)) (by kernel_rfl)) (by kernel_rfl)) (by kernel_rfl)
end Go.Proofs.YtjomgckjhcfbgaaGreat
