/- Walks. -/
import Derived.Test.YtjomgckjhcfbgaaGreatRows
import Derived.ProofKit
import Derived.ChangeSame
import Derived.Test.YtjomgckjhcfbgaaGreatS15
import Derived.Test.YtjomgckjhcfbgaaGreatS21
set_option maxRecDepth 100000
set_option maxHeartbeats 64000000
set_option linter.all false
namespace Go.Proofs.YtjomgckjhcfbgaaGreat
open Go.RowKit
open _root_.List renaming getElem?_eq_getElem→GN,getElem?_eq_some_iff→GQ,length_append→GU,mem_of_getElem?→GV,take_length→Ha,eq_nil_of_length_eq_zero→Hm,append_assoc→Hr,length_take→Ht
open _root_.Nat renaming le_refl→He,zero_add→Hf,zero_le→Hg
open _root_.Option renaming some.inj→Hl
open Go.World renaming size_alloc→Hu
open Go.RowKit.Below renaming refl→Hw
open Go renaming World→H5
open Go.RowKit renaming Below→H9,Hid→Ia
open Go.Proofs.Tryz
theorem BV {α β:Type}{f:α→β}{cells:β→Array Value}{stride:Nat}{w:H5}{B:Nat}{ao:Option Addr}{xs:List α}(h:aG (fun a=>cells (f a)) stride w B ao xs):aG cells stride w B ao (xs.map f):=by
 intro hne;obtain⟨b,off,h1,h2,h3⟩:=h (fun e=>hne (by rw[e];rfl));refine⟨b,off,h1,h2,fun i y hy k u hu=> ?_⟩;rw[List.getElem?_map] at hy;obtain⟨x,hx,rfl⟩:=Option.map_eq_some_iff.1 hy;exact h3 i x hx k u hu
def Mo.lightW (m:Mo):Prop:=Ad (m.ss.map St.s) (m.fs.map Fn.c)
def Mo.shortW (m:Mo):Prop:=m.fs.length≤12∧m.lightW
theorem xP (w:H5)(m:Mo)(hm:m.inn w):Calls prog 70 #[.agg m.cells] w (qw w w.heap.size m.lightW):=by
 have h:=vL w m.sA m.fA m.sC m.fC (m.ss.map St.s) (m.fs.map Fn.c) (BV hm.srow) (BV hm.frow) (by
  intro c hc;obtain⟨f,hf,rfl⟩:=List.mem_map.1 hc;exact(hm.fin f hf).code.row) (by
  intro c hc x hx;obtain⟨f,hf,rfl⟩:=List.mem_map.1 hc;exact((hm.fin f hf).code.args x hx).1) (by have:=hm.ns;unfold maxLen at this;simpa using this) (by have:=hm.nf;unfold maxLen at this;simpa using this)
 simp only[List.length_map] at h;exact h
theorem uq (w:H5)(m:Mo)(hm:m.inn w):Calls prog 27 #[.agg m.cells] w (qw w w.heap.size m.shortW):=by
 obtain⟨M,hM⟩:=zE m;have HM:=zH hM;have HIN:=zH hm;have hnf:=hm.nf;have HFR:=zH hm.frow;clear hm hM;obtain⟨sA,sC,fA,fC,ss,fs⟩:=m;simp only at hnf HFR;simp only[Mo.cells];obtain⟨N,hN⟩:=zE w.heap.size;obtain⟨W1,hW1⟩:=zE (w.alloc (.cells #[.slice sA ss.length sC,.slice fA fs.length fC] 25));have q1:W1.heap[N]?=some (.cells #[.slice sA ss.length sC,.slice fA fs.length fC] 25 (0,0)):=by rw[←hW1,←hN];exact alloc_at _ _
 have c1:W1.cell? ⟨N,0,none⟩=some (.slice sA ss.length sC):=(cell_of_row _ _ _ _ _ _ q1).trans rfl;have c2:W1.cell? ⟨N,1,none⟩=some (.slice fA fs.length fC):=(cell_of_row _ _ _ _ _ _ q1).trans rfl;have hb1:=gK hW1;have HLI:=zH (xP W1 M (by rw[←HM.out];exact HIN.out.below hb1));rw[←HM.out] at HLI;simp only[Mo.cells] at HLI;have HB1:=zH hb1;have HW1:=zH hW1;have hNl:=ae q1;clear q1 hb1 hW1;unfold maxLen at hnf;go_enter func27,ntmps27
 go_upto_region 1 with(fail)
 rw[HW1.out]
 go_upto_region 3 with(fail)
 go_loopw [3,4] (fun z c wr=>wr=W1∧∃(j:Nat) (x:Int),j≤fs.length∧j≤20∧c= .int .i64 (j:Int)∧z= .int .i64 x) (fun _ c _=>20-(intOf c).toNat)
 case atStart=>exact⟨rfl,0,0,Hg _,by omega,rfl,rfl⟩
 case round=>
  obtain⟨rfl,j,x,hj,hj20,rfl,rfl⟩:=hrel;have hend:12<fs.length→∀b:Bool,b=false→qw w w.heap.size (Mo.shortW ⟨sA,sC,fA,fC,ss,fs⟩) (.returned (.bool b)) wr:=fun _ b hb=>⟨b,rfl,fun h=>by rw[hb] at h;exact absurd h (by decide),HB1.out⟩
  by_cases hjl:j<fs.length
  ·have hjI:(j:Int)<(fs.length:Int):=by omega
   by_cases hj2:j<20
   ·have hj2I:(j:Int)<20:=by omega
    obtain⟨f,hf⟩:∃f,fs[j]?=some f:=⟨_,GN hjl⟩
    obtain⟨b,off,rfl,hb,hcell⟩:=HFR.out (by intro e;rw[e] at hjl;simp at hjl);have q7:wr.cell? ⟨b,off+j*8+7,none⟩=some (.slice f.c.insA f.c.ins.length f.c.insC):=by rw[HB1.out.cell (p:=⟨b,_,none⟩) hb];exact hcell j f hf 7 _ rfl
    clear hcell hf hend;go_wp2;go_roundw
    case rel=>exact⟨trivial,j+1,_,by omega,by omega,by go_num,rfl⟩
    case measure=>simp[intOf];omega
   ·have h12:decide (fs.length≤12)=false:=decide_eq_false (by omega)
    have h20:decide ((j:Int)<20)=false:=decide_eq_false (by omega);have h12I:decide ((fs.length:Int)≤12)=false:=decide_eq_false (by omega);go_wp2;go_ret;have:=hend (by omega) _ rfl
    first|exact this|(rw[←hN];exact this)
  ·have hjI:decide ((j:Int)<(fs.length:Int))=false:=decide_eq_false (by omega)
   by_cases h12:fs.length≤12
   ·by_cases h4:x≤400
    ·clear hend
     have h12I:(fs.length:Int)≤12:=by omega
     go_wp2_with (go_at_call 70;refine HLI.out.mono ?_;rintro e w2 ⟨b,rfl,hb,hb2⟩;have HBB:=zH hb;have HB2:=zH hb2;clear hb hb2)
     go_ret;exact⟨b,by cases b<;>rfl,fun hb=>⟨h12,HBB.out hb⟩,by first|exact HB1.out.trans (HB2.out.mono HB1.out.size)|rw[←hN];exact HB1.out.trans (HB2.out.mono HB1.out.size)⟩
    ·have h4':decide (x≤400)=false:=decide_eq_false h4
     have h12I:(fs.length:Int)≤12:=by omega
     clear hend;go_wp2;go_ret;exact⟨false,rfl,fun h=>absurd h (by decide),by first|exact HB1.out|rw[←hN];exact HB1.out⟩
   ·have h12':decide (fs.length≤12)=false:=decide_eq_false h12
    have h12I:decide ((fs.length:Int)≤12)=false:=decide_eq_false (by omega);go_wp2;go_ret;have:=hend (by omega) _ rfl
    first|exact this|(rw[←hN];exact this)
theorem ut (w:H5)(m:Mo)(hm:m.inn w):Calls prog 12 #[.agg m.cells] w (qw w w.heap.size m.shortW):=by
 obtain⟨M,hM⟩:=zE m;have HM:=zH hM;have HIN:=zH hm;have hnf:=hm.nf;have HFR:=zH hm.frow;clear hm hM;obtain⟨sA,sC,fA,fC,ss,fs⟩:=m;simp only at hnf HFR;simp only[Mo.cells];obtain⟨N,hN⟩:=zE w.heap.size;obtain⟨W1,hW1⟩:=zE (w.alloc (.cells #[.slice sA ss.length sC,.slice fA fs.length fC] 25));have q1:W1.heap[N]?=some (.cells #[.slice sA ss.length sC,.slice fA fs.length fC] 25 (0,0)):=by rw[←hW1,←hN];exact alloc_at _ _
 have c1:W1.cell? ⟨N,0,none⟩=some (.slice sA ss.length sC):=(cell_of_row _ _ _ _ _ _ q1).trans rfl;have c2:W1.cell? ⟨N,1,none⟩=some (.slice fA fs.length fC):=(cell_of_row _ _ _ _ _ _ q1).trans rfl;have hb1:=gK hW1;have HLI:=zH (uq W1 M (by rw[←HM.out];exact HIN.out.below hb1));rw[←HM.out] at HLI;simp only[Mo.cells] at HLI;have HB1:=zH hb1;have HW1:=zH hW1;have hNl:=ae q1;clear q1 hb1 hW1;unfold maxLen at hnf;go_enter func12,ntmps12
 go_upto_region 1 with(fail)
 rw[HW1.out]
 go_upto_region 3 with(fail)
 go_loopw [3,4] (fun z c wr=>wr=W1∧∃(j:Nat) (x:Int),j≤fs.length∧j≤20∧c= .int .i64 (j:Int)∧z= .int .i64 x) (fun _ c _=>20-(intOf c).toNat)
 case atStart=>exact⟨rfl,0,0,Hg _,by omega,rfl,rfl⟩
 case round=>
  obtain⟨rfl,j,x,hj,hj20,rfl,rfl⟩:=hrel
  by_cases hjl:j<fs.length∧j<20
  ·have hjI:(j:Int)<(fs.length:Int):=by omega
   have hj2I:(j:Int)<20:=by omega
   obtain⟨f,hf⟩:∃f,fs[j]?=some f:=⟨_,GN hjl.1⟩
   obtain⟨b,off,rfl,hb,hcell⟩:=HFR.out (by intro e;rw[e] at hjl;simp at hjl);have q2:wr.cell? ⟨b,off+j*8+2,none⟩=some (.slice f.c.varsA f.c.nvars f.c.varsC):=by rw[HB1.out.cell (p:=⟨b,_,none⟩) hb];exact hcell j f hf 2 _ rfl
   clear hcell hf;go_wp2;go_roundw
   case rel=>exact⟨trivial,j+1,_,by omega,by omega,by go_num,rfl⟩
   case measure=>simp[intOf];omega
  ·by_cases hjf:j<fs.length
   ·have hjI:(j:Int)<(fs.length:Int):=by omega
    have h20:decide ((j:Int)<20)=false:=decide_eq_false (by omega)
    by_cases h4:x≤200
    ·go_wp2_with (go_at_call 27;refine HLI.out.mono ?_;rintro e w2 ⟨b,rfl,hb,hb2⟩;have HBB:=zH hb;have HB2:=zH hb2;clear hb hb2)
     go_ret;exact⟨b,by cases b<;>rfl,HBB.out,by first|exact HB1.out.trans (HB2.out.mono HB1.out.size)|rw[←hN];exact HB1.out.trans (HB2.out.mono HB1.out.size)⟩
    ·have h4':decide (x≤200)=false:=decide_eq_false h4
     go_wp2;go_ret;exact⟨false,rfl,fun h=>absurd h (by decide),by first|exact HB1.out|rw[←hN];exact HB1.out⟩
   ·have hjI:decide ((j:Int)<(fs.length:Int))=false:=decide_eq_false (by omega)
    by_cases h4:x≤200
    ·go_wp2_with (go_at_call 27;refine HLI.out.mono ?_;rintro e w2 ⟨b,rfl,hb,hb2⟩;have HBB:=zH hb;have HB2:=zH hb2;clear hb hb2)
     go_ret;exact⟨b,by cases b<;>rfl,HBB.out,by first|exact HB1.out.trans (HB2.out.mono HB1.out.size)|rw[←hN];exact HB1.out.trans (HB2.out.mono HB1.out.size)⟩
    ·have h4':decide (x≤200)=false:=decide_eq_false h4
     go_wp2;go_ret;exact⟨false,rfl,fun h=>absurd h (by decide),by first|exact HB1.out|rw[←hN];exact HB1.out⟩
theorem rZ {w:H5}:∀(fs:List Fn)(k:Nat),(∀f∈fs,f.inn w)→(bU k fs).length+bJ fs≤dI (fs.map Fn.c)+fs.length
 |[],_,_=>by simp[bU,bJ]
 |x::r,k,h=>by
  have h1:=rZ r (k+1) (fun f hf=>h f (by simp[hf]));have h2:(cO (k:Int) x).length≤x.vs.length+1:=Bu;have h3:=(h x (by simp)).nvars
  show(cO (k:Int) x++bU (k+1) r).length+(x.c.ins.length+bJ r)≤x.c.ins.length+x.c.nvars+dI (r.map Fn.c)+(r.length+1)
  rw[GU];omega
theorem Df {w:H5}{m:Mo}(hm:m.inn w)(hs:m.shortW)(hwf:∀g∈m.fs,∀i∈g.c.ins,bG i.d∧bG i.a∧bG i.b∧bG i.f):rU w m:=by
 obtain⟨h12,hss,hcs,hsl,hcl,ht⟩:=hs;rw[List.length_map] at hss hcs;have ht2:=rZ m.fs 0 hm.fin;have hfl:∀f∈m.fs,f.c.light:=fun f hf=>hcl f.c (List.mem_map.2 ⟨f,hf,rfl⟩);have hp:m.ptrs.length+bJ m.fs≤1212:=by
  show(bU 0 m.fs).length+_≤_
  omega
 refine⟨⟨hm,by omega,by omega,fun s hs=> ?_,fun f hf=> ?_,fun f hf i hi=> ?_⟩,hwf,fun f hf=> ?_,fun f hf=>(hfl f hf).1,by omega,by omega, ?_⟩
 ·have h1:=(hsl s.s (List.mem_map.2 ⟨s,hs,rfl⟩)).1
  rw[(hm.sin s hs).nf] at h1;omega
 ·have h1:=(hfl f hf).2.1
  rw[(hm.fin f hf).nvars] at h1;omega
 ·exact((hfl f hf).2.2.2.2 i hi).1
 ·have h1:=(hfl f hf).2.1
  rw[(hm.fin f hf).nvars] at h1;exact h1
 ·have h1:m.ptrs.length*m.fs.length≤1212*12:=Nat.mul_le_mul (by omega) h12
  omega
section
open Go.RowKit Go.ChangeShapes Go.WideShapes Go.Deep
section
variable {H:Type}{enc:TypeId×Value→H}{w:H5}{base:Nat}{spare:Nat→Bool}{held:Bool}
def Ins.mode_in (w:H5)(i:Ins):Prop:=∃(l:List Int) (ao:Option Addr) (cap:Nat),i.modeV= .slice ao l.length cap∧dY w ao l
theorem Dh {n:Nat}{cs:List Value}{x:DataW H×List MemPlace}(h:DataW.trod enc prog w base spare held n 42 cs=some x):∃i:Ins,i.cells.toList=cs∧i.args_in w∧i.mode_in w:=by
 obtain⟨i,h1,h2⟩:=Dn h;refine⟨i,h1,h2, ?_⟩;obtain⟨xs,m,_,_,hlen,hxl,hf⟩:=DataW.trod_struct underlying42 h;have hxl':xs.length=12:=hxl;have g8:=(hf 8 _ rfl).trans (GN (show 8<xs.length by omega));obtain⟨A,L,C,r8,_,hR,_⟩:=jm g8;refine⟨L,A,C, ?_,hR⟩;rw[←h1] at r8;simpa[Ins.cells,show prog.cellsOf 35=1 from by kernel_rfl] using r8
theorem Fs {n:Nat}{cs:List Value}{x:DataW H×List MemPlace}(h:DataW.trod enc prog w base spare held n 92 cs=some x):∃f:Fd,f.cells.toList=cs∧f.nm.size≤maxLen:=by
 obtain⟨xs,m,_,_,hlen,hxl,hf⟩:=DataW.trod_struct underlying92 h;have hc:prog.cellsOf 92=5:=by kernel_rfl
 have hxl':xs.length=3:=hxl;rw[hc] at hlen;obtain⟨c0,cs1,e0,hl1⟩:=zU hlen;obtain⟨c1,cs2,e1,hl2⟩:=zU hl1;obtain⟨c2,cs3,e2,hl3⟩:=zU hl2;obtain⟨c3,cs4,e3,hl4⟩:=zU hl3;obtain⟨c4,cs5,e4,hl5⟩:=zU hl4;obtain rfl:=Hm hl5;subst e4 e3 e2 e1 e0;have z1:prog.cellsOf 4=1:=by kernel_rfl
 have z2:prog.cellsOf 9=1:=by kernel_rfl
 have z3:prog.cellsOf 3=1:=by kernel_rfl
 have z4:prog.cellsOf 32=2:=by kernel_rfl
 have z5:prog.cellsOf 40=2:=by kernel_rfl
 have g0:=(hf 0 _ rfl).trans (GN (show 0<xs.length by omega));obtain⟨nm,r0,_,hsz⟩:=DataW.trod_string underlying9 g0;obtain rfl:c0= .string nm:=by simpa[z2] using r0
 have g1:=(hf 1 _ rfl).trans (GN (show 1<xs.length by omega));obtain⟨ys,m',_,_,_,hyl,hf'⟩:=DataW.trod_struct underlying32 g1;have hyl':ys.length=2:=hyl;have p0:=(hf' 0 _ rfl).trans (GN (show 0<ys.length by omega));have p1:=(hf' 1 _ rfl).trans (GN (show 1<ys.length by omega));obtain⟨rp,s0,_⟩:=DataW.trod_bool underlying4 p0;obtain⟨rto,s1,_,_⟩:=DataW.trod_string underlying9 p1;obtain rfl:c1= .bool rp:=by simpa[z1,z4] using s0
 obtain rfl:c2= .string rto:=by simpa[z2,z4] using s1
 have g2:=(hf 2 _ rfl).trans (GN (show 2<xs.length by omega));obtain⟨us,m'',_,_,_,hul,hf''⟩:=DataW.trod_struct underlying40 g2;have hul':us.length=2:=hul;have u0:=(hf'' 0 _ rfl).trans (GN (show 0<us.length by omega));have u1:=(hf'' 1 _ rfl).trans (GN (show 1<us.length by omega));obtain⟨ln,v0,_,_⟩:=DataW.trod_int underlying3 u0;obtain⟨cl,v1,_,_⟩:=DataW.trod_int underlying3 u1;obtain rfl:c3= .int .i64 ln:=by simpa[z3,z5] using v0
 obtain rfl:c4= .int .i64 cl:=by simpa[z3,z5] using v1
 exact⟨⟨nm,rp,rto,ln,cl⟩,rfl,hsz⟩
theorem Fu {n:Nat}{cs:List Value}{x:DataW H×List MemPlace}(h:DataW.trod enc prog w base spare held n 90 cs=some x):∃s:St,s.cells.toList=cs∧s.inn w:=by
 obtain⟨xs,m,_,_,hlen,hxl,hf⟩:=DataW.trod_struct underlying90 h;have hc:prog.cellsOf 90=4:=by kernel_rfl
 have hxl':xs.length=3:=hxl;rw[hc] at hlen;obtain⟨c0,cs1,e0,hl1⟩:=zU hlen;obtain⟨c1,cs2,e1,hl2⟩:=zU hl1;obtain⟨c2,cs3,e2,hl3⟩:=zU hl2;obtain⟨c3,cs4,e3,hl4⟩:=zU hl3;obtain rfl:=Hm hl4;subst e3 e2 e1 e0;have z2:prog.cellsOf 9=1:=by kernel_rfl
 have z3:prog.cellsOf 3=1:=by kernel_rfl
 have z5:prog.cellsOf 40=2:=by kernel_rfl
 have z6:prog.cellsOf 88=1:=by kernel_rfl
 have g0:=(hf 0 _ rfl).trans (GN (show 0<xs.length by omega));obtain⟨nm,r0,_,hsz⟩:=DataW.trod_string underlying9 g0;obtain rfl:c0= .string nm:=by simpa[z2] using r0
 have g1:=(hf 1 _ rfl).trans (GN (show 1<xs.length by omega));obtain⟨fA,fs,fC,r1,hfl,hfr,hfq⟩:=open_row Fd.cells (fun f:Fd=>f.nm.size≤maxLen) 5 (by decide) underlying88 (by kernel_rfl) (fun n cs x hx=>Fs hx) g1;obtain rfl:c1= .slice fA fs.length fC:=by simpa[z6] using r1
 have g2:=(hf 2 _ rfl).trans (GN (show 2<xs.length by omega));obtain⟨us,m'',_,_,_,hul,hf''⟩:=DataW.trod_struct underlying40 g2;have hul':us.length=2:=hul;have u0:=(hf'' 0 _ rfl).trans (GN (show 0<us.length by omega));have u1:=(hf'' 1 _ rfl).trans (GN (show 1<us.length by omega));obtain⟨ln,v0,_,_⟩:=DataW.trod_int underlying3 u0;obtain⟨cl,v1,_,_⟩:=DataW.trod_int underlying3 u1;obtain rfl:c2= .int .i64 ln:=by simpa[z3,z5] using v0
 obtain rfl:c3= .int .i64 cl:=by simpa[z3,z5] using v1
 exact⟨⟨⟨nm,fA,fs.length,fC,ln,cl⟩,fs⟩,rfl,rfl,hfr,hfl,hsz,hfq⟩
end
end
section
open Go.RowKit Go.ChangeShapes Go.WideShapes Go.Deep
theorem xQ {x:Int}(h:(Lit.int .i64 x).wf=true):bG x:=by
 simp only[Lit.wf,Bool.and_eq_true,decide_eq_true_eq] at h;exact h
def Ins.wfs (i:Ins):Prop:=bG i.d∧bG i.a∧bG i.b∧bG i.f
section
variable {H:Type}{enc:TypeId×Value→H}{w:H5}{base:Nat}{spare:Nat→Bool}{held:Bool}
theorem Di {n:Nat}{cs:List Value}{x:DataW H×List MemPlace}(h:DataW.trod enc prog w base spare held n 42 cs=some x):∃i:Ins,i.cells.toList=cs∧(i.args_in w∧i.wfs)∧i.mode_in w:=by
 obtain⟨i,h1,h2,h3⟩:=Dh h;refine⟨i,h1,⟨h2, ?_⟩,h3⟩;obtain⟨xs,m,_,_,hlen,hxl,hf⟩:=DataW.trod_struct underlying42 h;have hxl':xs.length=12:=hxl;have z:prog.cellsOf 3=1:=by kernel_rfl
 have g1:=(hf 1 _ rfl).trans (GN (show 1<xs.length by omega));have g2:=(hf 2 _ rfl).trans (GN (show 2<xs.length by omega));have g3:=(hf 3 _ rfl).trans (GN (show 3<xs.length by omega));have g4:=(hf 4 _ rfl).trans (GN (show 4<xs.length by omega));obtain⟨d,r1,_,w1⟩:=DataW.trod_int underlying3 g1;obtain⟨a,r2,_,w2⟩:=DataW.trod_int underlying3 g2;obtain⟨b,r3,_,w3⟩:=DataW.trod_int underlying3 g3;obtain⟨f,r4,_,w4⟩:=DataW.trod_int underlying3 g4;rw[←h1] at r1 r2 r3 r4;have e1:i.d=d:=by simpa[Ins.cells,z] using r1
 have e2:i.a=a:=by simpa[Ins.cells,z] using r2
 have e3:i.b=b:=by simpa[Ins.cells,z] using r3
 have e4:i.f=f:=by simpa[Ins.cells,z] using r4
 unfold Ins.wfs;rw[e1,e2,e3,e4];exact⟨xQ w1,xQ w2,xQ w3,xQ w4⟩
theorem Ew {n:Nat}{cs:List Value}{x:DataW H×List MemPlace}(h:DataW.trod enc prog w base spare held n 38 cs=some x):∃f:Fn,f.cells.toList=cs∧f.inn w∧∀i∈f.c.ins,i.wfs:=by
 obtain⟨xs,m,_,_,hlen,hxl,hf⟩:=DataW.trod_struct underlying38 h;have hc:prog.cellsOf 38=8:=by kernel_rfl
 have hxl':xs.length=6:=hxl;rw[hc] at hlen;obtain⟨c0,cs1,e0,hl1⟩:=zU hlen;obtain⟨c1,cs2,e1,hl2⟩:=zU hl1;obtain⟨c2,cs3,e2,hl3⟩:=zU hl2;obtain⟨c3,cs4,e3,hl4⟩:=zU hl3;obtain⟨c4,cs5,e4,hl5⟩:=zU hl4;obtain⟨c5,cs6,e5,hl6⟩:=zU hl5;obtain⟨c6,cs7,e6,hl7⟩:=zU hl6;obtain⟨c7,cs8,e7,hl8⟩:=zU hl7;obtain rfl:=Hm hl8;subst e7 e6 e5 e4 e3 e2 e1 e0;have g0:=(hf 0 _ rfl).trans (GN (show 0<xs.length by omega));obtain⟨nm,r0,_,hsz⟩:=DataW.trod_string underlying9 g0;obtain rfl:c0= .string nm:=by simpa[show prog.cellsOf 9=1 from by kernel_rfl] using r0
 have g1:=(hf 1 _ rfl).trans (GN (show 1<xs.length by omega));obtain⟨par,r1,_,_⟩:=DataW.trod_int underlying3 g1;obtain rfl:c1= .int .i64 par:=by simpa[show prog.cellsOf 3=1 from by kernel_rfl] using r1
 have g2:=(hf 2 _ rfl).trans (GN (show 2<xs.length by omega));obtain⟨varsA,vs,varsC,r2,hvl,hvr,_⟩:=open_row Vr.cells (fun _=>True) 3 (by decide) underlying30 (by kernel_rfl) (fun n cs x hx=>BB hx) g2;obtain rfl:c2= .slice varsA vs.length varsC:=by simpa[show prog.cellsOf 30=1 from by kernel_rfl] using r2
 have g3:=(hf 3 _ rfl).trans (GN (show 3<xs.length by omega));obtain⟨v,hv,_⟩:=BB g3;have z4:prog.cellsOf 34=3:=by kernel_rfl
 simp[Vr.cells,z4] at hv;obtain⟨rfl,rfl,rfl⟩:=hv;have g4:=(hf 4 _ rfl).trans (GN (show 4<xs.length by omega));obtain⟨frmA,frmL,frmC,r4,hfl,frmR,_⟩:=jm g4;obtain rfl:c6= .slice frmA frmL.length frmC:=by simpa[show prog.cellsOf 35=1 from by kernel_rfl] using r4
 have g5:=(hf 5 _ rfl).trans (GN (show 5<xs.length by omega));obtain⟨insA,ins,insC,r5,hil,hir,hia⟩:=open_row Ins.cells (fun i=>(i.args_in w∧i.wfs)∧i.mode_in w) 13 (by decide) underlying36 (by kernel_rfl) (fun n cs x hx=>Di hx) g5;obtain rfl:c7= .slice insA ins.length insC:=by simpa[show prog.cellsOf 36=1 from by kernel_rfl] using r5
 obtain⟨mds,hml,hmp⟩:=kG (fun k (l:List Int)=>∀i,ins[k]?=some i→∃ao cap,i.modeV= .slice ao l.length cap∧dY w ao l) ins.length (fun k hk=>by
  obtain⟨i,hi⟩:∃i,ins[k]?=some i:=⟨_,GN hk⟩
  obtain⟨l,ao,cap,h1,h2⟩:=(hia i (GV hi)).2;exact⟨l,fun j hj=>by rw[hi] at hj;obtain rfl:=Hl hj;exact⟨ao,cap,h1,h2⟩⟩)
 exact⟨⟨⟨nm,par,varsA,vs.length,varsC,v.ptr,v.tgt,v.cls,frmA,frmL.length,frmC,insA,insC,ins⟩,vs,frmL,mds⟩,rfl,⟨⟨hir,fun x hx=>(hia x hx).1.1,hil,⟨vs,rfl,hvr⟩,hvl,hfl,⟨frmL,rfl,frmR⟩⟩,hsz,rfl,hvr,rfl,frmR,hml,fun k i l h1 h2=>hmp k l h2 i h1⟩,fun x hx=>(hia x hx).1.2⟩
theorem open_moW {r:Reach}{b0:Nat}{v:Value}{d:DataW H}{p:List MemPlace}(hv:Value.okWide prog w r b0 25 v)(h:DataW.Trod enc prog w base spare held 25 v d p):
  ∃m:Mo,v= .agg m.cells∧m.inn w∧∀g∈m.fs,∀i∈g.c.ins,i.wfs:=by
 obtain⟨cs,fuel,hv',hfu⟩:=FJ underlying25 hv h;obtain⟨xs,m,_,_,hlen,hxl,hf⟩:=DataW.trod_struct underlying25 hfu;have hc:prog.cellsOf 25=2:=by kernel_rfl
 have hxl':xs.length=2:=hxl;rw[hc] at hlen;obtain⟨c0,cs1,e0⟩:=List.exists_cons_of_length_eq_add_one (show cs.toList.length=1+1 from by rw[hlen]);have hl1:cs1.length=1:=by rw[e0] at hlen;simpa using hlen
 obtain⟨c1,cs2,e1,hl2⟩:=zU hl1;obtain rfl:=Hm hl2;subst e1;have g0:=(hf 0 _ rfl).trans (GN (show 0<xs.length by omega));have g1:=(hf 1 _ rfl).trans (GN (show 1<xs.length by omega));obtain⟨sA,ss,sC,r0,hsl,hsr,hsq⟩:=open_row St.cells (fun s=>s.inn w) 4 (by decide) underlying22 (by kernel_rfl) (fun n cs x hx=>Fu hx) g0;obtain⟨fA,fs,fC,r1,hfl,hfr,hfq⟩:=open_row Fn.cells (fun f=>f.inn w∧∀i∈f.c.ins,i.wfs) 8 (by decide) underlying23 (by kernel_rfl) (fun n cs x hx=>Ew hx) g1;rw[e0] at r0 r1;obtain rfl:c0= .slice sA ss.length sC:=by simpa[show prog.cellsOf 22=1 from by kernel_rfl] using r0
 obtain rfl:c1= .slice fA fs.length fC:=by simpa[show prog.cellsOf 22=1 from by kernel_rfl,show prog.cellsOf 23=1 from by kernel_rfl] using r1
 have e:cs=(⟨sA,sC,fA,fC,ss,fs⟩:Mo).cells:=Array.ext' e0;exact⟨⟨sA,sC,fA,fC,ss,fs⟩,by rw[hv',e],⟨hsr,hfr,hsq,fun f hf=>(hfq f hf).1,hsl,hfl⟩,fun f hf=>(hfq f hf).2⟩
end
end
def encZ (x:Int×Int):List Value:=[.int .i64 x.1,.int .i64 x.2]
theorem si:(prog.info? 67).map (fun i=>(i.zero,i.size,i.bytes))=some (some (.agg #[.int .i64 0,.int .i64 0]),2,16):=by kernel_rfl
theorem BA {w wA w5:H5}{v:Value}(hA:Ext (fun _=>False) w wA)(hg:wA.grownBy w5 v.ownBlock):Ext (fun k=>v.ownBlock=some k) w w5:=
 (hA.mono (fun _ h=>h.elim)).trans (Ext.of_grown (M:=fun k=>v.ownBlock=some k) hg (fun _ hk=> .inl hk)) (fun _ hj=> .inl hj)
structure Gn (B:Nat)(W1:H5)(o:Value)(l:List (Int×Int))(wr:H5):Prop where
 own:wr.ownsRow B 67 2 o l.length (l.flatMap encZ)
 low:H9 B W1 wr
theorem Gn.app {B:Nat}{W1 wr wa w5:H5}{o:Value}{l:List (Int×Int)}{x:Int×Int}{g cap:Nat}(h:Gn B W1 o l wr)(hB:B≤W1.heap.size)(hA:Ext (fun _=>False) wr wa)
  (h1:w5.ownsRow B 67 2 (.slice (some ⟨g,0,none⟩) (l.length+1) cap) (l.length+1) (l.flatMap encZ++encZ x))(h2:wa.grownBy w5 o.ownBlock):Gn B W1 (.slice (some ⟨g,0,none⟩) (l++[x]).length cap) (l++[x]) w5:=by
 refine⟨?_, ?_⟩
 ·rw[List.flatMap_append,GU]
  simpa using h1
 ·have hx:Ext (fun k=>o.ownBlock=some k) wr w5:=BA hA h2
  exact h.low.trans (hx.below (by have:=h.low.size;omega) (fun k hk=>(h.own.lt k hk).1))
theorem vK {f:Int}:∀(l d:List Vr)(v:Nat),(bE f v l).length≤(bE f v (l++d)).length
 |[],d,v=>by simp[bE]
 |x::r,d,v=>by
  rw[List.cons_append];unfold bE;rw[GU,GU];have:=vK (f:=f) r d (v+1);omega
theorem uw (m:Mo)(w:H5)(hm:m.inn w)(hp:m.ptrs.length≤1000000):
  Calls prog 22 #[.agg m.cells] w fun e w'=>∃ao cap,e= .returned (.slice ao m.ptrs.length cap)∧w'.ownsRow (w.heap.size+1) 67 2 (.slice ao m.ptrs.length cap) m.ptrs.length (m.ptrs.flatMap encZ)∧H9 w.heap.size w w':=by
 obtain⟨N,hN⟩:=zE w.heap.size;obtain⟨W1,hW1⟩:=zE (w.alloc (.cells m.cells 25));have hb1:=gK hW1;have hs1:W1.heap.size=N+1:=by rw[←hW1];simp[hN]
 have q1:W1.heap[N]?=some (.cells m.cells 25 (0,0)):=by rw[←hW1,←hN];exact alloc_at _ _
 have HIN:=zH (hm.below hb1);have HB1:=zH hb1;have HW1:=zH hW1;have HS1:=zH hs1;have HQ1:=zH q1;have HP:=zH hp;have hnf:m.fs.length≤9223372036854775807:=hm.nf;unfold Mo.cells at HW1;clear hm hp hb1 hW1 hs1 q1;unfold Mo.cells;go_enter func22,ntmps22
 go_upto_region 1 with(fail)
 rw[HW1.out]
 go_upto_region 3 with(fail)
 go_loopw [3,4] (fun o c wr=>∃(k:Nat) (ao:Option Addr) (cap:Nat),k≤m.fs.length∧c= .int .i64 (k:Int)∧o= .slice ao (bU 0 (m.fs.take k)).length cap∧Gn (N+1) W1 (.slice ao (bU 0 (m.fs.take k)).length cap) (bU 0 (m.fs.take k)) wr) (fun _ c _=>m.fs.length-(intOf c).toNat)
 case atStart=>exact⟨0,none,0,Hg _,rfl,rfl,⟨⟨rfl,.inl ⟨rfl,rfl⟩⟩,Hw _ _⟩⟩
 case round=>
  obtain⟨k,ao,cap,hk,rfl,rfl,hpt⟩:=hrel;have hm1:wr.cell? ⟨N,1,none⟩=some (.slice m.fA m.fs.length m.fC):=(rowAt ((hpt.low.block N (by omega)).trans HQ1.out) 1 rfl).1;have hNl:=ae ((hpt.low.block N (by omega)).trans HQ1.out)
  by_cases hkl:k<m.fs.length
  ·have hkI:(k:Int)<(m.fs.length:Int):=by omega
   obtain⟨f,hf⟩:∃f,m.fs[k]?=some f:=⟨_,GN hkl⟩
   obtain⟨b,off,hfa,hb,hcell⟩:=HIN.out.frow (by intro e;rw[e] at hkl;simp at hkl);have hfi:=HIN.out.fin f (GV hf);have hbN:b<N+1:=by have:=HS1.out;omega
   have hcw:∀(q:H5),H9 (N+1) W1 q→q.cell? ⟨b,off+k*8+2,none⟩=some (.slice f.c.varsA f.c.nvars f.c.varsC)∧q.cell? ⟨b,off+k*8+3,none⟩=some (.bool f.c.rp):=fun q hq=>⟨by rw[hq.cell (p:=⟨b,_,none⟩) hbN];exact hcell k f hf 2 _ rfl,by rw[hq.cell (p:=⟨b,_,none⟩) hbN];exact hcell k f hf 3 _ rfl⟩
   have HCW:=zH hcw;have HFI:=zH hfi;have HF:=zH hf;have HPT:=zH hpt;obtain⟨nv,hnv⟩:=zE f.c.nvars;have hnv2:nv=f.vs.length:=by rw[←hnv];exact hfi.nvars
   rw[hnv] at HCW;subst hnv2;rw[hfa] at hm1⊢;clear hcw hcell hfi hf hpt hnv;obtain⟨P,hP⟩:=zE (bU 0 (m.fs.take k));have HPP:=zH hP;rw[hP] at HPT⊢;clear hP;have HLN:Ia (P.length+(f.vs.length+1)≤2000000→True):=fun _=>trivial;have hPL:P.length+(cO (k:Int) f).length≤1000000:=by
    have h1:=lg (fs:=m.fs) (k+1);rw[aS HF.out,kz,GU,HPP.out,Hf,Ht,Nat.min_eq_left (by omega)] at h1;have:=HP.out;unfold Mo.ptrs at this;omega
   have hvl:(f.vs.length:Int)≤9223372036854775807:=by have:=HFI.out.code.nvars;rw[HFI.out.nvars] at this;unfold maxLen at this;omega
   have HPL:=zH hPL;clear hPL
   go_wp2_with fail
   clear hm1 hNl
   go_loopw [3,5] (fun o c wi=>∃(j:Nat) (ao:Option Addr) (cap:Nat),j≤f.vs.length∧c= .int .i64 (j:Int)∧o= .slice ao (P++bE (k:Int) 0 (f.vs.take j)).length cap∧Gn (N+1) W1 (.slice ao (P++bE (k:Int) 0 (f.vs.take j)).length cap) (P++bE (k:Int) 0 (f.vs.take j)) wi) (fun _ c _=>f.vs.length-(intOf c).toNat)
   case atStart=>exact⟨0,ao,cap,Hg _,rfl,by simp[bE],by simpa[bE] using HPT.out⟩
   case round=>
    obtain⟨j,ao2,cap2,hj,rfl,rfl,hpt⟩:=hrel;obtain⟨q2,q3⟩:=HCW.out _ hpt.low;have hm1:wr.cell? ⟨N,1,none⟩=some (.slice (some ⟨b,off,none⟩) m.fs.length m.fC):=by rw[←hfa];exact(rowAt ((hpt.low.block N (by omega)).trans HQ1.out) 1 rfl).1
    have hNl:=ae ((hpt.low.block N (by omega)).trans HQ1.out)
    by_cases hjl:j<f.vs.length
    ·have hjI:(j:Int)<(f.vs.length:Int):=by omega
     obtain⟨x,hx⟩:∃x,f.vs[j]?=some x:=⟨_,GN hjl⟩
     obtain⟨b2,off2,hva,hb2,hcell2⟩:=HFI.out.vars (by intro e;rw[e] at hjl;simp at hjl);have hv:wr.cell? ⟨b2,off2+j*3,none⟩=some (.bool x.ptr):=by rw[hpt.low.cell (p:=⟨b2,_,none⟩) (by have:=HS1.out;show b2<N+1;omega)];exact hcell2 j x hx 0 _ rfl
     rw[hva] at q2;have HX:=zH hx;have HPT2:=zH hpt;have HSN:Ia (P++bE (k:Int) 0 (f.vs.take (j+1))=(P++bE (k:Int) 0 (f.vs.take j))++(if x.ptr=true then[((k:Int),(j:Int))] else[])):=by
      unfold Ia;rw[aS hx,mO,Hf,Ht,Nat.min_eq_left (by omega),Hr]
     obtain⟨px,hpx⟩:=zE x.ptr;rw[hpx] at hv HSN;clear hx hcell2 hpt;cases px with
     |false=>
      go_wp2;go_roundw
      case rel=>exact⟨j+1,ao2,cap2,by omega,by go_num,by rw[HSN.out];simp,by rw[HSN.out];simpa using HPT2.out⟩
      case measure=>simp[intOf];omega
     |true=>
      have hL:(P++bE (k:Int) 0 (f.vs.take j)).length+1≤1000001:=by
       have h1:=HPL.out;have h2:(bE (k:Int) 0 (f.vs.take j)).length≤(cO (k:Int) f).length:=by
        unfold cO;rw[←List.take_append_drop j f.vs,List.take_append_drop,GU];exact Nat.le_trans (vK (f.vs.take j) (f.vs.drop j) 0) (by rw[List.take_append_drop];omega)
       rw[GU];omega
      obtain⟨Q,hQ⟩:=zE (P++bE (k:Int) 0 (f.vs.take j));rw[hQ] at HPT2 HSN hL⊢;obtain⟨i0,hi0,hi1,hi2,hi3⟩:=info_parts si;have hszr:N+1≤wr.heap.size:=by have:=HPT2.out.low.size;have:=HS1.out;omega
      clear hQ
      go_upto_region 9 with(fail)
      go_wp2_with (at_builtin;refine wpList_append_lies _ rfl _ _ 62 rfl (N+1) 67 i0 (.agg #[.int .i64 0,.int .i64 0]) 2 16 underlying62 hi0 hi1 hi2 hi3 rfl (by decide) (.slice ao2 Q.length cap2) Q.length (Q.flatMap encZ) rfl (ownsRow_below HPT2.out.own ((Hw wr.heap.size wr).alloc (He _) _)) ⟨wr.heap.size,0,none⟩ 1 1 [.int .i64 (k:Int),.int .i64 (j:Int)] rfl rfl (lh _ _ _) (by simp[Value.oneCell']) (by decide) (by unfold maxLen;omega) (by omega) (by rw[Hu];omega) _ rfl ?_;intro g5 cap5 w5 hown5 hgrow5 hat5 hlt5;have HO5:=zH (HPT2.out.app (x:=((k:Int),(j:Int))) (by have:=HS1.out;omega) ((Ext.refl _ _).alloc _) hown5 hgrow5);clear hown5 hgrow5 hat5 hlt5)
      go_roundw
      case rel=>exact⟨j+1,some ⟨g5,0,none⟩,cap5,by omega,by go_num,by rw[HSN.out,if_pos rfl,GU];rfl,by rw[HSN.out];simpa using HO5.out⟩
      case measure=>simp[intOf];omega
    ·have hje:j=f.vs.length:=by omega
     subst hje;rw[Ha] at hpt⊢;have HSN:Ia (bU 0 (m.fs.take (k+1))=(P++bE (k:Int) 0 f.vs)++(if f.c.rp=true then[((k:Int),(-1:Int))] else[])):=by
      unfold Ia;rw[aS HF.out,kz,HPP.out,Hf,Ht,Nat.min_eq_left (by omega),Hr];rfl
     have hL:(P++bE (k:Int) 0 f.vs).length≤1000000:=by
      have h1:=HPL.out;unfold cO at h1;rw[GU] at h1;rw[GU];omega
     obtain⟨Q,hQ⟩:=zE (P++bE (k:Int) 0 f.vs);rw[hQ] at hpt HSN hL⊢;have HPT2:=zH hpt;obtain⟨px,hpx⟩:=zE f.c.rp;rw[hpx] at q3 HSN;clear hQ hpt;cases px with
     |false=>
      go_wp2;go_roundw
      case rel=>exact⟨k+1,ao2,cap2,by omega,by go_num,by rw[HSN.out];simp,by rw[HSN.out];simpa using HPT2.out⟩
      case measure=>simp[intOf];omega
     |true=>
      obtain⟨i0,hi0,hi1,hi2,hi3⟩:=info_parts si;have hszr:N+1≤wr.heap.size:=by have:=HPT2.out.low.size;have:=HS1.out;omega
      go_wp2_with (at_builtin;refine wpList_append_lies _ rfl _ _ 62 rfl (N+1) 67 i0 (.agg #[.int .i64 0,.int .i64 0]) 2 16 underlying62 hi0 hi1 hi2 hi3 rfl (by decide) (.slice ao2 Q.length cap2) Q.length (Q.flatMap encZ) rfl (ownsRow_below HPT2.out.own ((Hw wr.heap.size wr).alloc (He _) _)) ⟨wr.heap.size,0,none⟩ 1 1 [.int .i64 (k:Int),.int .i64 (-1)] rfl rfl (lh _ _ _) (by simp[Value.oneCell']) (by decide) (by unfold maxLen;omega) (by omega) (by rw[Hu];omega) _ rfl ?_;intro g5 cap5 w5 hown5 hgrow5 hat5 hlt5;have HO5:=zH (HPT2.out.app (x:=((k:Int),(-1:Int))) (by have:=HS1.out;omega) ((Ext.refl _ _).alloc _) hown5 hgrow5);clear hown5 hgrow5 hat5 hlt5)
      go_roundw
      case rel=>exact⟨k+1,some ⟨g5,0,none⟩,cap5,by omega,by go_num,by rw[HSN.out,if_pos rfl,GU];rfl,by rw[HSN.out];simpa using HO5.out⟩
      case measure=>simp[intOf];omega
  ·have hke:k=m.fs.length:=by omega
   subst hke;rw[Ha] at hpt⊢;have HPT:=zH hpt;clear hpt;go_wp2;go_ret;exact⟨ao,cap,rfl,(by first|exact HPT.out.own|(rw[hN];exact HPT.out.own)),HB1.out.trans (HPT.out.low.mono (by have:=HS1.out;omega))⟩
theorem wantShort_calls (m:Mo)(w:H5)(hm:m.inn w)(hwf:∀g∈m.fs,∀i∈g.c.ins,i.wfs):
  zP 5 #[.agg m.cells] w (.bool true):=by
 obtain⟨N,hN⟩:=zE w.heap.size;obtain⟨W1,hW1⟩:=zE (w.alloc (.cells m.cells 25));have hb1:=gZ hW1 hN;have hs1:W1.heap.size=N+1:=by rw[←hW1];simp[hN]
 have q1:W1.heap[N]?=some (.cells m.cells 25 (0,0)):=by rw[←hW1,←hN];exact alloc_at _ _
 have HK:Ia (∀W,H9 W1.heap.size W1 W→W.cell? ⟨N,0,none⟩=some (.slice m.sA m.ss.length m.sC)∧W.cell? ⟨N,1,none⟩=some (.slice m.fA m.fs.length m.fC)∧m.inn W∧H9 N w W∧W.heap[N]?=some (.cells m.cells 25 (0,0))):=fun W hW=>by
  have h1:=(hW.block N (by omega)).trans q1;have h3:=hb1.trans (hW.mono (by omega));exact⟨zR h1 0 _,zR h1 1 _,hm.below (by rw[hN];exact h3),h3,h1⟩
 obtain⟨c0,c1,hm1,_⟩:=HK.out W1 (Hw _ _);have HLI:=zH (ut W1 m hm1);have HAL:=zH fun W=>uo W;have HWF:=zH hwf;have hW1':=hW1;simp only[Mo.cells] at hW1' HLI;have HW1:=zH hW1';unfold zP;rw[hN];simp only[Mo.cells];clear hm hm1 q1 hW1 hW1' hb1 hwf;go_enter func5,ntmps5
 go_upto_region 1 with(fail)
 rw[HW1.out];clear hN
 go_wp2_with fail
 go_at_call 12;refine HLI.out.mono ?_;rintro e w2 ⟨b,rfl,hb,hb2⟩;obtain⟨d0,d1,hm2,hbb2,_⟩:=HK.out w2 hb2;have HB2:=zH hb2;clear HW1 HLI;cases b with
 |false=>
  clear c0 c1 hb hb2 hm2 hbb2
  go_wp2_with (go_at_call 14;refine(HAL.out _).mono ?_;rintro e w3 ⟨rfl,hb3⟩;have HR:=zH (HK.out w3 (HB2.out.trans (hb3.mono HB2.out.size))).2.2.2.1;clear hb3)
  go_ret;exact⟨rfl,HR.out⟩
 |true=>
 have hlt:=hb rfl;have hwi:=Df hm2 hlt HWF.out;have HRR:=zH (qY m w2 hwi.ri);have HWI:Ia (∀W,H9 w2.heap.size w2 W→rU W m):=fun W hW=>⟨hwi.ri.below hW,hwi.wf,hwi.nv,hwi.ni,hwi.nf,hwi.np,hwi.nt⟩
 obtain⟨F,hF⟩:=zE (gF m);rw[hF] at HRR;simp only[Mo.cells] at HRR;clear c0 c1 hb hb2 hm2 hbb2 hwi hlt
 by_cases hF0:F=0
 rotate_left
 ·have e0:(F != 0)=true:=by rw[bne_iff_ne];exact hF0
  clear hF
  go_wp2_with (first
   |(go_at_call 13;refine HRR.out.mono ?_;rintro e w3 ⟨rfl,hb3⟩;have HB3:=zH (HB2.out.trans (hb3.mono HB2.out.size));clear hb3)
   |(go_at_call 14;refine(HAL.out _).mono ?_;rintro e w4 ⟨rfl,hb4⟩;have HR:=zH (HK.out w4 (HB3.out.trans (hb4.mono HB3.out.size))).2.2.2.1;clear hb4))
  go_ret;exact⟨rfl,HR.out⟩
 subst hF0;have e0:((0:Int) != 0)=false:=rfl;have HWO:Ia (∀W,H9 w2.heap.size w2 W→Calls prog 15 #[.agg #[.slice m.sA m.ss.length m.sC,.slice m.fA m.fs.length m.fC]] W fun e w'=>∃T Bb MB lv at_ tg s,e= .returned (.tuple #[.pointer (some ⟨T,0,none⟩),.int .i64 0])∧Wn T Bb MB lv m.ptrs (2*(m.ptrs.length:Int)) (aM 0 m.ptrs) ((m.wants (fM m)).map Prod.fst) ((m.wants (fM m)).map Prod.snd) at_ (W.heap.size+1) tg s w'∧H9 W.heap.size W w'):=fun W hW=>by
  refine(og m W (HWI.out W hW) hF).mono ?_;rintro e w' ⟨T,Bb,MB,lv,at_,he,tg,s,hwn,hb⟩;refine⟨T,Bb,MB,lv,at_,tg,s,he,hwn, ?_⟩;have hb0:H9 W.heap.size W (W.alloc (.cells m.cells 25)):=(Hw _ _).alloc (He _) _;exact hb0.trans (hb.mono (Nat.le_succ _))
 have HOK:Ia (∀x∈m.wants (fM m),xB (2*(m.ptrs.length:Int)) x.1∧∃(k:Nat) (g:Fn),m.fs[k]?=some g∧x.2.1=(k:Int)∧-1≤x.2.2∧x.2.2<(g.c.ins.length:Int)):=fun x hx=>Ej hF hx;have HNP:Ia (m.ptrs.length≤20000):=(HWI.out w2 (Hw _ _)).np;clear hF
 go_upto_region 3 with(go_at_call 13;refine HRR.out.mono ?_;rintro e w3 ⟨rfl,hb3⟩;have HB3:=zH (HB2.out.trans (hb3.mono HB2.out.size));have HB23:=zH hb3;clear hb3)
 clear d0 d1 e0;obtain⟨d0,d1,_⟩:=HK.out w3 HB3.out;have HOF:=zH (HWO.out w3 HB23.out);clear HRR HWO
 go_upto_region 4 with(go_at_call 15;refine HOF.out.mono ?_;rintro e w4 ⟨T,Bb,MB,lv,at_,tg,s,rfl,hwn,hb4⟩;have HWN:=zH hwn;have HB4:Ia (H9 W1.heap.size W1 w4):=zH (HB3.out.trans (hb4.mono HB3.out.size));clear hwn hb4)
 clear d0 d1 HOF;obtain⟨CL,hCL⟩:=zE ((m.wants (fM m)).map Prod.fst);obtain⟨YL,hYL⟩:=zE ((m.wants (fM m)).map Prod.snd);obtain⟨P,hP⟩:=zE m.ptrs.length;have HC3:Ia (∀c∈CL,1≤c.length∧c.length≤3):=fun c hc=>by
  rw[←hCL] at hc;obtain⟨x,hx,rfl⟩:=List.mem_map.1 hc;have:=(HOK.out x hx).1;exact⟨this.1,this.2.1⟩
 have HCY:Ia (∀k,k<CL.length→∃(kf:Nat) (y2:Int) (g:Fn),YL[k]?=some ((kf:Int),y2)∧m.fs[kf]?=some g∧-1≤y2∧y2<(g.c.ins.length:Int)):=fun k hk=>by
  have hk2:k<(m.wants (fM m)).length:=by rw[←hCL] at hk;simpa using hk
  have hx:(m.wants (fM m))[k]?=some (m.wants (fM m))[k]:=GN hk2;obtain⟨_,kf,g,h1,h2,h3,h4⟩:=HOK.out _ (GV hx);refine⟨kf,_,g, ?_,h1,h3,h4⟩;rw[←hYL,List.getElem?_map,hx,Option.map_some,←h2]
 rw[hCL,hYL,hP] at HWN;rw[hP] at HNP;have HP:=zH hP;have HF5:=zH (mq w4 HWN.out (fun c hc=>by have:=(HC3.out c hc).2;omega));clear hCL hYL hP HOK;have e0:((0:Int) != 0)=false:=rfl
 go_upto_region 7 with(go_at_call 16;refine HF5.out.mono ?_;rintro e w5 ⟨fa,fc,rfl,hcl,hb5⟩;have hfs:=vJ (w:=w5) (N:=2*(P:Int)) (a:=fa) (n:=CL.length) (k:=fc);have HB5:=zH hb5;have HCL:=zH hcl;clear hb5 hcl)
 obtain⟨E,hE⟩:=zE w5.heap.size;obtain⟨W6,hW6⟩:=zE (w5.alloc (.cells #[.int .i64 (2*(P:Int)),.slice fa CL.length fc] 48));have hb56:=gK hW6;have hr6:W6.heap[E]?=some (.cells #[.int .i64 (2*(P:Int)),.slice fa CL.length fc] 48 (0,0)):=by rw[←hW6,←hE];exact alloc_at _ _
 rw[hW6,hE];have HN6:=zH ((HWN.out.grow HB5.out).grow hb56);have HC6:=zH (HCL.out.below hb56);have HB6:Ia (H9 W1.heap.size W1 W6):=HB4.out.trans ((HB5.out.trans (hb56.mono HB5.out.size)).mono HB4.out.size);have HE6:Ia (∀W,H9 W6.heap.size W6 W→W.cell? ⟨E,0,none⟩=some (.int .i64 (2*(P:Int)))∧W.cell? ⟨E,1,none⟩=some (.slice fa CL.length fc)∧E<W.heap.size∧H9 W1.heap.size W1 W):=fun W hW=>by
  have h:=(hW.block E (ae hr6)).trans hr6;exact⟨zR h 0 _,zR h 1 _,ae h,HB6.out.trans (hW.mono HB6.out.size)⟩
 clear hfs hb56 hr6 hE hW6 HF5 HCL HWN HB5
 go_wp2_with fail
 go_loopw [6] (fun c wr=>∃k:Nat,k≤CL.length∧c= .int .i64 (k:Int)∧H9 W6.heap.size W6 wr) (fun c _=>CL.length-(intOf c).toNat)
 case atStart=>exact⟨0,Hg _,rfl,Hw _ _⟩
 case round=>
  rename H5=>wr;obtain⟨k,hk,rfl,hbr⟩:=hrel;have HBR:=zH hbr;obtain⟨f0,f1,hEl,hb1r⟩:=HE6.out wr hbr;have hlC:CL.length≤1000000:=HN6.out.lC
  by_cases hkl:k<CL.length
  ·have hkI:(k:Int)<(CL.length:Int):=by omega
   obtain⟨kf,y2,g,hy,hg,hy1,hy3⟩:=HCY.out k hkl;have HWY:=zH (Db wr (HN6.out.grow hbr) k _ hy);obtain⟨c,hc⟩:∃c,CL[k]?=some c:=⟨_,GN hkl⟩
   have hcl:=HC3.out c (GV hc);have hkf:=(GQ.1 hg).1;have HFC:Ia (∀W,H9 W6.heap.size W6 W→∃fb fo gb ao cap,m.fA=some ⟨fb,fo,none⟩∧W.cell? ⟨fb,fo+kf*8+7,none⟩=some (.slice g.c.insA g.c.ins.length g.c.insC)∧fa=some ⟨gb,0,none⟩∧W.cell? ⟨gb,k,none⟩=some (.slice ao c.length cap)):=fun W hW=>by
    obtain⟨_,_,hmi,_⟩:=HK.out W (HE6.out W hW).2.2.2;obtain⟨fb,fo,hfA,hfb,hfc⟩:=hmi.frow (by intro e;rw[e] at hkf;simp at hkf);obtain⟨gb,ao,cap,h1,_,h3,_⟩:=(HC6.out.below hW) k c hc;exact⟨fb,fo,gb,ao,cap,hfA,hfc kf g hg 7 _ rfl,h1,h3⟩
   clear hbr hy hg hc hb1r
   go_upto_region 11 with(go_at_call 21;refine HWY.out.mono ?_;rintro e w7 ⟨rfl,hb7⟩;have HB7:Ia (H9 W6.heap.size W6 w7):=zH (HBR.out.trans (hb7.mono HBR.out.size));clear hb7)
   clear f0 f1 hEl HWY;obtain⟨_,f1,hEl,hb17⟩:=HE6.out w7 HB7.out;obtain⟨d0,d1,_⟩:=HK.out w7 hb17;obtain⟨fb,fo,gb,ao,cap,hfA,g7,hfa,gk⟩:=HFC.out w7 HB7.out;rw[hfA] at d1;rw[hfa] at f1;have t1:decide ((kf:Int)<0)=false:=decide_eq_false (by omega);have t2:decide (m.fs.length≤kf)=false:=decide_eq_false (by omega);have t3:decide (y2< -1)=false:=decide_eq_false (by omega);have t4:decide ((g.c.ins.length:Int)≤y2)=false:=decide_eq_false (by omega);have t5:decide ((c.length:Int)<1)=false:=decide_eq_false (by omega);have t6:decide ((3:Int)<(c.length:Int))=false:=decide_eq_false (by omega);have t5':decide (c.length<1)=false:=decide_eq_false (by omega);have t6':decide (3<c.length)=false:=decide_eq_false (by omega);have hkfI:(kf:Int)<(m.fs.length:Int):=by omega
   clear hb17 hfA hfa;go_wp2;go_roundw
   case rel=>exact⟨k+1,by omega,by go_num,HB7.out⟩
   case measure=>simp[intOf];omega
  ·have hke:k=CL.length:=by omega
   subst hke;obtain⟨S1,hS1⟩:=zE ((fun w'=>H9 W6.heap.size W6 w'):H5→Prop);have HSB:Ia (∀W,S1 W↔H9 W6.heap.size W6 W):=fun W=>by rw[←hS1]
   have hS0:S1 wr.drew:=(HSB.out _).2 HBR.out.drew;have HCE:Ia (∀W,S1 W→W.cell? ⟨E,0,none⟩=some (.int .i64 (2*(P:Int)))∧E<W.heap.size):=fun W h=>⟨(HE6.out W ((HSB.out W).1 h)).1,(HE6.out W ((HSB.out W).1 h)).2.2.1⟩
   have HSM:Ia (∀W,S1 W→∀j u,(#[.slice m.sA m.ss.length m.sC,.slice m.fA m.fs.length m.fC]:Array Value).toList[j]?=some u→W.cell? ((⟨N,0,none⟩:Addr).add j)=some u):=fun W h=>cK (HK.out W (HE6.out W ((HSB.out W).1 h)).2.2.2).2.2.2.2;have HPT:Ia (Calls prog 22 #[.agg #[.slice m.sA m.ss.length m.sC,.slice m.fA m.fs.length m.fC]] wr.drew fun e w'=>∃ao cap,e= .returned (.slice ao P cap)∧H9 W6.heap.size W6 w'):=by
    have hmi:=(HK.out _ (HE6.out _ ((HSB.out _).1 hS0)).2.2.2).2.2.1;refine(uw m wr.drew hmi (by rw[HP.out];have:=HNP.out;omega)).mono ?_;rintro e w' ⟨ao,cap,he,_,hb⟩;rw[HP.out] at he;have hd:H9 W6.heap.size W6 wr.drew:=HBR.out.drew;exact⟨ao,cap,he,hd.trans (hb.mono hd.size)⟩
   have hwr:IntKind.i64.wrap (2*(P:Int))=2*(P:Int):=by have:=HNP.out;simp[IntKind.wrap,IntKind.bits,IntKind.signed];omega
   clear hS1 hbr f0 hb1r hk hkl
   go_upto_region 13 with(fail)
   refine aj 10 S1 (by kernel_rfl) ?_;refine zT 0 rfl HCE.out ?_;(try go_simp);refine zT 1 rfl HCE.out ?_;(try go_simp);refine zL 2 rfl 25 ⟨N,0,none⟩ HSM.out underlying25 ?_;(try go_simp);refine zO 3 rfl fun K' hK=> ?_;go_simp;go_at_call 22;refine HPT.out.mono ?_;rintro e w8 ⟨ao,cap,rfl,hb8⟩;have hS8:S1 w8:=(HSB.out _).2 hb8;refine hK _ _ hS8 ?_;clear hK;(try go_simp);refine zT 4 rfl HCE.out ?_;(try go_simp);refine zT 5 rfl HCE.out ?_;(try go_simp);refine zT 6 rfl HCE.out ?_;(try go_simp);refine zT 7 rfl HCE.out ?_;(try go_simp);refine zO 8 rfl fun K' hK=> ?_;go_simp;go_at_call 14;refine(HAL.out _).mono ?_;rintro e w9 ⟨rfl,hb9⟩;have hb69:H9 W6.heap.size W6 w9:=hb8.trans (hb9.mono hb8.size);have hS9:S1 w9:=(HSB.out _).2 hb69;refine hK _ _ hS9 ?_;clear hK;(try go_simp);refine zT 9 rfl HCE.out ?_;(try go_simp);refine zK rfl fun K' hK=> ?_;go_simp;refine hK _ _ ?_;clear hK;refine⟨by kernel_rfl, ?_⟩;have HR:=zH (HK.out w9 (HE6.out w9 hb69).2.2.2).2.2.2.1;clear hb8 hb9 hb69 hS8 hS9 hS0;go_wp2;go_ret;exact⟨rfl,HR.out⟩
section
open Go.ChangeShapes Go.WideShapes Go.ChangeAt Go.RowKit
theorem own_:ownKnob prog.godebug=none:=by kernel_rfl
theorem laidOut_:laidOutB prog=true:=by kernel_rfl
theorem law_post {H:Type}{enc:TypeId×Value→H}{P:Program}{f:Func}{s:ChangeSpec}{W W':H5}{args:Array Value}{v:Value}{ds gs:List (DataW H)}{before pa pv:List MemPlace}
  (hW:DataW.Whole enc P f.params.toList s.vars false W args.toList ds gs before)
  (hres:∀(b:Nat)(sp:Nat→Bool)(hd:Bool),DataW.TrodAll enc P W' b sp hd f.resultTypes.toList (v.resultList f.resultTypes.size) (s.fn H (ds++gs)).results [])
  (hargs:DataW.TrodAll enc P W' 0 (fun b=>decide (b<W.heap.size)) true f.params.toList args.toList (s.fn H (ds++gs)).args pa)
  (hvars:DataW.TrodVars enc P W' (fun b=>decide (b<W.heap.size)) s.vars (s.fn H (ds++gs)).vars pv)
  (hps:before=pa++pv)(hb:H9 W.heap.size W W'):
  s.post enc P f false true false false W args v W':=by
 refine⟨ds,gs,before,[],pa,pv,hW,hres _ _ _,hargs,hvars,World.keptBut_mono (fun p hp=>⟨hp, ?_⟩) (hb.frame (·∈before)),fun h=> ?_⟩
 ·rw[hps,List.mem_append] at hp
  exact Or.inr hp
 ·exact absurd h (by decide)
theorem shut_true {H:Type}{enc:TypeId×Value→H}{W:H5}{base:Nat}{sp:Nat→Bool}{held:Bool}(b:Bool):DataW.Trod enc prog W base sp held 4 (.bool b) (.lit (.bool b)) []:=⟨1,by simp[DataW.trod,Value.cells,underlying4]⟩
end
theorem bq {a b:Bool}(h:a=true)(k:b=true):(a&&b)=true:=by rw[h,k];rfl
theorem xR:(laidOutB Tryz.pinned.checked.prog)=true:=by kernel_rfl
theorem xS:(mapsRowed Tryz.pinned.checked.prog)=true:=by kernel_rfl
theorem xU:((Rows.wantShortRow.inPlace==Tryz.pinned.checked.prog.inPlace 5))=true:=by kernel_rfl
theorem uy:((Rows.wantShortRow.unfollowed==Tryz.pinned.checked.prog.unfollowed 5))=true:=by kernel_rfl
theorem uz:((Rows.wantShortRow.recurses==Tryz.pinned.checked.prog.recurses 5))=true:=by kernel_rfl
theorem uA:((Rows.wantShortRow.named==Tryz.pinned.checked.prog.varsNamed 5))=true:=by kernel_rfl
theorem uB:((Rows.wantShortRow.loops==(Tryz.f5.params.toList++Rows.wantShortSpec.plain.varTypes Tryz.pinned.checked.prog).any (Tryz.pinned.checked.prog.loopsFrom ·)))=true:=by kernel_rfl
theorem uC:(Tryz.pinned.checked.prog.stopsHeard)=true:=by kernel_rfl
theorem uD:(Tryz.pinned.checked.prog.mayEnter)=true:=by kernel_rfl
theorem uE:((Rows.wantShortRow.lifted==Tryz.pinned.checked.prog.liftsFinal))=true:=by kernel_rfl
theorem uF:((Tryz.pinned.checked.prog.make==some Rows.wantShortRow.make))=true:=by kernel_rfl
theorem wantShort_closed:joinedFacts Tryz.pinned.checked.prog 5 Tryz.f5 Rows.wantShortSpec Rows.wantShortRow=true:=by
 unfold joinedFacts;exact bq (bq (bq (bq (bq (bq (bq (bq (bq (bq (bq (bq (bq (bq (bq (bq (bq (bq (bq (bq (bq (bq (bq (bq (bq (bq (bq (bq (bq (bq (bq (by kernel_rfl) xR) xS) (by kernel_rfl)) (by kernel_rfl)) (by kernel_rfl)) (by kernel_rfl)) (by kernel_rfl)) (by kernel_rfl)) xU) uy) uz) uA) (by kernel_rfl)) (by kernel_rfl)) (by kernel_rfl)) uB) (by kernel_rfl)) (by kernel_rfl)) (by kernel_rfl)) (by kernel_rfl)) (by kernel_rfl)) (by kernel_rfl)) (by kernel_rfl)) uC) uD) uE) uF) (by kernel_rfl)) (by kernel_rfl)) (by kernel_rfl)) (by kernel_rfl)
end Go.Proofs.YtjomgckjhcfbgaaGreat
