/- Walks. -/
import Derived.Test.YtjomgckjhcfbgaaGreatS12
set_option maxRecDepth 100000
set_option maxHeartbeats 64000000
set_option linter.all false
namespace Go.Proofs.YtjomgckjhcfbgaaGreat
open Go.RowKit
open _root_.List renaming getElem?_eq_getElem→GN,length_append→GU
open _root_.Nat renaming zero_add→Hf
open _root_.Int renaming toNat_natCast→Ho
open Go.RowKit.Below renaming refl→Hw
open Go renaming World→H5
open Go.RowKit renaming Below→H9,Hid→Ia
open Tryz
theorem jF {P:Program}{W:H5}{o:Oper}{a:Act}{K:Act→Prop}(ty:TypeId)(x:Operand)(ho:o.op= .load ty x)
  (ad:Addr)(hx:a.eval x= .pointer (some ad))(cs:Array Value)(d:TypeDesc)(hcells:∀(p:BW W)(j:Nat)(u:Value),cs.toList[j]?=some u→p.w.cell? (ad.add j)=some u)
  (hu:P.underlying ty=some d)(hd:(match d with| .struct _| .array _ _=>true|_=>false)=true)(hi:(P.info? ty).map (·.size)=some cs.size)
  (hk:K (a.put o.dst (.agg cs))):o.quiet P a (fun w'=>∃p:BW W,w'=p.w) K:=by
 refine⟨_,fun w hw=> ?_,hk⟩;obtain⟨p,rfl⟩:=hw;unfold Oper.quietAt execOp;simp only[ho,hx,Instr.loadAt,Instr.sureAddr,Sem.run_bind,Sem.run_pure,Result.andThen_ok,iU p.w ad ty cs d (hcells p) hu hd hi];exact⟨rfl,rfl⟩
theorem dF (n:Nat)(xs ys:List Int):aI n (xs++ys)=(aI n xs&&aI n ys):=by unfold aI;rw[List.all_append]
theorem fD {g:Fn}{i:Ins}(h:aI g.vs.length (readsOf i)=true)(ha:sZ i.op=true):isVar g.vs.length i.a=true:=by
 unfold readsOf at h;rw[if_pos ha,dF,dF] at h;simp only[Bool.and_eq_true] at h;simpa[aI] using h.1.1
theorem wX {g:Fn}{i:Ins}(h:aI g.vs.length (readsOf i)=true)(ha:qN i.op=true):isVar g.vs.length i.b=true:=by
 unfold readsOf at h;rw[if_pos ha,dF,dF] at h;simp only[Bool.and_eq_true] at h;simpa[aI] using h.1.2
theorem Bc {g:Fn}{i:Ins}(h:aI g.vs.length (readsOf i)=true)(ha:i.op=15):∀a∈i.args,isVar g.vs.length a=true:=by
 unfold readsOf at h;rw[if_pos ha,dF,dF] at h;simp only[Bool.and_eq_true] at h;exact List.all_eq_true.1 h.2
structure Bx (m:Mo)(g:Fn)(i:Ins)(ao:Option Addr)(N:Nat)(W:H5):Prop where
 m0:W.cell? ⟨N,0,none⟩=some (.slice m.sA m.ss.length m.sC)
 m1:W.cell? ⟨N,1,none⟩=some (.slice m.fA m.fs.length m.fC)
 gr:W.heap[N+1]?=some (.cells #[.string g.c.nm,.int .i64 g.c.par,.slice ao g.vs.length g.c.varsC,.bool g.c.rp,.string g.c.rto,.int .i64 g.c.rcl,.slice g.c.fromA g.c.nfrom g.c.fromC,.slice g.c.insA g.c.ins.length g.c.insC] 38 (0,0))
 ir:W.heap[N+2]?=some (.cells #[.int .i64 i.op,.int .i64 i.d,.int .i64 i.a,.int .i64 i.b,.int .i64 i.f,.int .i64 i.n,.string i.sign,i.argsV,i.modeV,.int .i64 i.tI,.int .i64 i.els,.int .i64 i.ln,.int .i64 i.cl] 42 (0,0))
theorem Bx.g2 {m:Mo}{g:Fn}{i:Ins}{ao:Option Addr}{N:Nat}{W:H5}(h:Bx m g i ao N W):W.cell? ⟨N+1,2,none⟩=some (.slice ao g.vs.length g.c.varsC):=by rw[cell_of_row _ _ _ _ _ _ h.gr];rfl
theorem Bx.g3 {m:Mo}{g:Fn}{i:Ins}{ao:Option Addr}{N:Nat}{W:H5}(h:Bx m g i ao N W):W.cell? ⟨N+1,3,none⟩=some (.bool g.c.rp):=by rw[cell_of_row _ _ _ _ _ _ h.gr];rfl
theorem Bx.g4 {m:Mo}{g:Fn}{i:Ins}{ao:Option Addr}{N:Nat}{W:H5}(h:Bx m g i ao N W):W.cell? ⟨N+1,3+1,none⟩=some (.string g.c.rto):=by rw[cell_of_row _ _ _ _ _ _ h.gr];rfl
theorem Bx.g7 {m:Mo}{g:Fn}{i:Ins}{ao:Option Addr}{N:Nat}{W:H5}(h:Bx m g i ao N W):W.cell? ⟨N+1,7,none⟩=some (.slice g.c.insA g.c.ins.length g.c.insC):=by rw[cell_of_row _ _ _ _ _ _ h.gr];rfl
theorem Bx.i0 {m:Mo}{g:Fn}{i:Ins}{ao:Option Addr}{N:Nat}{W:H5}(h:Bx m g i ao N W):W.cell? ⟨N+2,0,none⟩=some (.int .i64 i.op):=by rw[cell_of_row _ _ _ _ _ _ h.ir];rfl
theorem Bx.i2 {m:Mo}{g:Fn}{i:Ins}{ao:Option Addr}{N:Nat}{W:H5}(h:Bx m g i ao N W):W.cell? ⟨N+2,2,none⟩=some (.int .i64 i.a):=by rw[cell_of_row _ _ _ _ _ _ h.ir];rfl
theorem Bx.i3 {m:Mo}{g:Fn}{i:Ins}{ao:Option Addr}{N:Nat}{W:H5}(h:Bx m g i ao N W):W.cell? ⟨N+2,3,none⟩=some (.int .i64 i.b):=by rw[cell_of_row _ _ _ _ _ _ h.ir];rfl
theorem Bx.i4 {m:Mo}{g:Fn}{i:Ins}{ao:Option Addr}{N:Nat}{W:H5}(h:Bx m g i ao N W):W.cell? ⟨N+2,4,none⟩=some (.int .i64 i.f):=by rw[cell_of_row _ _ _ _ _ _ h.ir];rfl
theorem Bx.i6 {m:Mo}{g:Fn}{i:Ins}{ao:Option Addr}{N:Nat}{W:H5}(h:Bx m g i ao N W):W.cell? ⟨N+2,6,none⟩=some (.string i.sign):=by rw[cell_of_row _ _ _ _ _ _ h.ir];rfl
theorem Bx.i9 {m:Mo}{g:Fn}{i:Ins}{ao:Option Addr}{N:Nat}{W:H5}(h:Bx m g i ao N W):W.cell? ⟨N+2,9,none⟩=some (.int .i64 i.tI):=by rw[cell_of_row _ _ _ _ _ _ h.ir];rfl
theorem Bx.i10 {m:Mo}{g:Fn}{i:Ins}{ao:Option Addr}{N:Nat}{W:H5}(h:Bx m g i ao N W):W.cell? ⟨N+2,10,none⟩=some (.int .i64 i.els):=by rw[cell_of_row _ _ _ _ _ _ h.ir];rfl
theorem cK {w:H5}{b:Nat}{cs:Array Value}{t:TypeId}(h:w.heap[b]?=some (.cells cs t (0,0))):∀j u,cs.toList[j]?=some u→w.cell? ((⟨b,0,none⟩:Addr).add j)=some u:=by
 intro j u hu;rw[Addr.add_lit,Hf,cell_of_row _ _ _ _ _ _ h];rw[←hu,Array.getElem?_toList]
theorem fF {m:Mo}{g:Fn}{i:Ins}{w:H5}(h:nC w m g)(hi:i.args_in w)(hal:i.args.length≤40):∃ao N W1,w.heap.size=N∧W1.heap.size=N+3∧
  ((w.alloc (.cells m.cells 25)).alloc (.cells (gc g ao) 38)).alloc (.cells i.cells 42)=W1∧Ia (w.heap.size=N)∧Ia (W1.heap.size=N+3)∧Ia (g.cells=gc g ao)∧Ia (g.c.varsA=ao)∧
  Ia (∀W,H9 (N+3) W1 W→Bx m g i ao N W)∧Ia (∀W,H9 (N+3) W1 W→H9 N w W)∧Ia (∀W,H9 (N+3) W1 W→nC W m g)∧Ia (∀W,H9 (N+3) W1 W→i.args_in W)∧
  Ia (∀W ao' cap' (xs:List Int),xs.length≤42→ak W ao' xs→zP 87 #[.agg #[.string g.c.nm,.int .i64 g.c.par,.slice ao g.vs.length g.c.varsC,.bool g.c.rp,.string g.c.rto,.int .i64 g.c.rcl,.slice g.c.fromA g.c.nfrom g.c.fromC,.slice g.c.insA g.c.ins.length g.c.insC],.slice ao' xs.length cap'] W (.bool (aI g.vs.length xs)))∧
  Ia (∀W,zP 86 #[.agg #[.int .i64 i.op,.int .i64 i.d,.int .i64 i.a,.int .i64 i.b,.int .i64 i.f,.int .i64 i.n,.string i.sign,i.argsV,i.modeV,.int .i64 i.tI,.int .i64 i.els,.int .i64 i.ln,.int .i64 i.cl]] W (.tuple #[.int .i64 (az i).1,.bool (az i).2]))∧
  Ia (∀W,H9 (N+3) W1 W→Calls prog 88 #[.agg #[.int .i64 i.op,.int .i64 i.d,.int .i64 i.a,.int .i64 i.b,.int .i64 i.f,.int .i64 i.n,.string i.sign,i.argsV,i.modeV,.int .i64 i.tI,.int .i64 i.els,.int .i64 i.ln,.int .i64 i.cl]] W (iR W (readsOf i)))∧Ia ((readsOf i).length≤42):=by
 obtain⟨ao,hao⟩:=zE g.c.varsA;have hgc:=jO h.nv hao;obtain⟨N,hN⟩:=zE w.heap.size;obtain⟨W1,hW1⟩:=zE (((w.alloc (.cells m.cells 25)).alloc (.cells g.cells 38)).alloc (.cells i.cells 42));obtain⟨hb1,hs1,r0,r1,r2⟩:=CB hW1;rw[hN] at hb1 hs1 r0 r1 r2;rw[hgc] at r1;have HBX:Ia (∀W,H9 (N+3) W1 W→Bx m g i ao N W):=fun W hW=>by
  have q0:=(hW.block N (by omega)).trans r0;exact⟨by rw[cell_of_row _ _ _ _ _ _ q0];rfl,by rw[cell_of_row _ _ _ _ _ _ q0];rfl,(hW.block (N+1) (by omega)).trans r1,(hW.block (N+2) (by omega)).trans r2⟩
 have HBN:Ia (∀W,H9 (N+3) W1 W→H9 N w W):=fun W hW=>hb1.trans (hW.mono (by omega));have HJ:Ia (∀W,H9 (N+3) W1 W→nC W m g):=fun W hW=>h.below (by rw[hN];exact HBN.out W hW);have HAI:Ia (∀W,H9 (N+3) W1 W→i.args_in W):=fun W hW=>by
  obtain⟨h1,ao,cap,h2,h3⟩:=hi;exact⟨h1,ao,cap,h2,aG.grow h3 (by rw[hN];exact HBN.out W hW)⟩
 have hok:=hi.1;have HHS:Ia (∀W ao' cap' (xs:List Int),xs.length≤42→ak W ao' xs→zP 87 #[.agg #[.string g.c.nm,.int .i64 g.c.par,.slice ao g.vs.length g.c.varsC,.bool g.c.rp,.string g.c.rto,.int .i64 g.c.rcl,.slice g.c.fromA g.c.nfrom g.c.fromC,.slice g.c.insA g.c.ins.length g.c.insC],.slice ao' xs.length cap'] W (.bool (aI g.vs.length xs))):=fun W ao' cap' xs hx hat=>by
  have:=A9 g W ao' cap' xs h.nv (by unfold maxLen;omega) hat;rw[hgc] at this;exact this
 have HWR:Ia (∀W,zP 86 #[.agg #[.int .i64 i.op,.int .i64 i.d,.int .i64 i.a,.int .i64 i.b,.int .i64 i.f,.int .i64 i.n,.string i.sign,i.argsV,i.modeV,.int .i64 i.tI,.int .i64 i.els,.int .i64 i.ln,.int .i64 i.cl]] W (.tuple #[.int .i64 (az i).1,.bool (az i).2])):=fun W=>qa i W hok;have HRD:Ia (∀W,H9 (N+3) W1 W→Calls prog 88 #[.agg #[.int .i64 i.op,.int .i64 i.d,.int .i64 i.a,.int .i64 i.b,.int .i64 i.f,.int .i64 i.n,.string i.sign,i.argsV,i.modeV,.int .i64 i.tI,.int .i64 i.els,.int .i64 i.ln,.int .i64 i.cl]] W (iR W (readsOf i))):=fun W hW=>qV i W (HAI.out W hW) hal;have HALQ:=zH hal;have HRL:Ia ((readsOf i).length≤42):=by
  unfold Ia readsOf;simp only[GU];have:(if sZ i.op=true then[i.a] else[]).length≤1:=by split<;>simp
  have:(if qN i.op=true then[i.b] else[]).length≤1:=by split<;>simp
  have:(if i.op=15 then i.args else[]).length≤40:=by split<;>first|exact HALQ.out|simp
  omega
 exact⟨ao,N,W1,hN,hs1,by rw[←hW1,hgc],hN,hs1,hgc,hao,HBX,HBN,HJ,HAI,HHS,HWR,HRD,HRL⟩
theorem fJ {g:Fn}{i:Ins}(hlo:¬i.op<1)(hhi:¬18<i.op):∃wD bD bR,decide (i.op<1)=false∧decide (18<i.op)=false∧Ia (¬(i.op<1∨18<i.op))∧Ia (aI g.vs.length [i.d]=bD)∧Ia (aI g.vs.length (readsOf i)=bR)∧Ia (pV i.op=wD)∧
  Ia (az i=if wD=true then(i.d,true) else(0,false))∧Ia (aI g.vs.length (readsOf i++(if pV i.op=true then[i.d] else[]))=(bR&&(!wD||bD))):=by
 obtain⟨wD,hwD⟩:=zE (pV i.op);obtain⟨bD,hbD⟩:=zE (aI g.vs.length [i.d]);obtain⟨bR,hbR⟩:=zE (aI g.vs.length (readsOf i));refine⟨wD,bD,bR,decide_eq_false hlo,decide_eq_false hhi,fun h=>h.elim hlo hhi,hbD,hbR,hwD, ?_, ?_⟩
 ·unfold Ia az;rw[hwD]
 ·unfold Ia
  rw[dF,hbR,hwD];cases wD with
  |true=>rw[if_pos rfl,hbD];rfl
  |false=>rw[if_neg (by simp)];simp[aI]
theorem dZ {m:Mo}{g:Fn}{i:Ins}{R:Int}{wD bD bR:Bool}(hR:Ia (aC m g i=R))(hnr:Ia (¬(i.op<1∨18<i.op)))(hth:Ia (aI g.vs.length (readsOf i++(if pV i.op=true then[i.d] else[]))=(bR&&(!wD||bD))))(h:(bR&&(!wD||bD))=true):
  R=if i.op=15 then gU m g.vs i else if i.op=16 then bM (isVar g.c.ins.length i.tI) 15 else if i.op=17 then(if isVar g.c.ins.length i.tI&&isVar g.c.ins.length i.els then dR g.vs [i.a] else 15) else if i.op=18 then bM (ax g.vs i.a==g.ret) 7 else au m g.vs i:=by
 rw[←hR.out];unfold aC;rw[if_neg hnr.out,if_neg (by rw[hth.out,h];simp)]
theorem tJ (m:Mo)(g:Fn)(i:Ins)(w:H5)(h:nC w m g)(hi:i.args_in w)(hal:i.args.length≤40)(hkn:∀v,isVar g.vs.length v=true→m.known (ax g.vs v)=true)(hop:i.op<1∨18<i.op):
  zP 49 #[.agg m.cells,.agg g.cells,.agg i.cells] w (.int .i64 (aC m g i)):=by
 obtain⟨ao,N,W1,hN,hs1,hW1,HN,HS1,HGC,HAO,HBX,HBN,HJ,HAI,HHS,HWR,HRD,HRL⟩:=fF h hi hal;rw[HGC.out];simp only[Mo.cells,gc,Ins.cells] at hW1⊢;have HW1:=zH hW1;obtain⟨R,hR⟩:=zE (aC m g i);rw[hR];have HR:=zH hR;have HRR:Ia (R=3):=by unfold Ia;rw[←HR.out];unfold aC;rw[if_pos hop]
 have hx1:=HBX.out W1 (Hw _ _);have HR2:=zH hx1.ir;clear h hi hal hkn hW1 hR;have hs1':W1.heap.size=N+3:=hs1;go_enter func49,ntmps49
 go_upto_region 1 with(fail)
 rw[HW1.out];clear HW1 hx1 hN
 go_upto_region 2 with(first
  |(refine wpList_load_row rfl 42 _ rfl (N+2) rfl 42 _ (0,0) _ HR2.out underlying42 rfl (by kernel_rfl) ?_)
  |(go_at_call 86;refine(HWR.out _).mono ?_;rintro e w2 ⟨rfl,hb2⟩;have HB2:=zH hb2;clear hb2))
 have hb2:H9 (N+3) W1 w2:=by have:=HB2.out;rwa [hs1'] at this
 have i0:=(HBX.out w2 hb2).i0;have HF2:=zH (HBN.out w2 hb2)
 by_cases h1:i.op<1
 ·have o1:decide (i.op<1)=true:=decide_eq_true h1
  go_wp2;go_ret;rw[HRR.out,HN.out];exact⟨rfl,HF2.out⟩
 ·have o1:decide (i.op<1)=false:=decide_eq_false h1
  have h2:18<i.op:=by omega
  have o2:decide (18<i.op)=true:=decide_eq_true h2;go_wp2;go_ret;rw[HRR.out,HN.out];exact⟨rfl,HF2.out⟩
theorem tK (m:Mo)(g:Fn)(i:Ins)(w:H5)(h:nC w m g)(hi:i.args_in w)(hal:i.args.length≤40)(hkn:∀v,isVar g.vs.length v=true→m.known (ax g.vs v)=true)(hop:i.op=1∨i.op=2∨i.op=3∨i.op=5∨i.op=6):
  zP 49 #[.agg m.cells,.agg g.cells,.agg i.cells] w (.int .i64 (aC m g i)):=by
 obtain⟨ao,N,W1,hN,hs1,hW1,HN,HS1,HGC,HAO,HBX,HBN,HJ,HAI,HHS,HWR,HRD,HRL⟩:=fF h hi hal;obtain⟨wD,bD,bR,o1,o2,HNR,HBD,HBR,HWD,HWO,HTH⟩:=fJ (g:=g) (i:=i) (by omega) (by omega);rw[HGC.out];simp only[Mo.cells,gc,Ins.cells] at hW1⊢;have HW1:=zH hW1;obtain⟨R,hR⟩:=zE (aC m g i);rw[hR];have HR:=zH hR;have HHJ:=zH h;have HOP:=zH hop;have hx1:=HBX.out W1 (Hw _ _);have HR2:=zH hx1.ir;clear h hi hal hkn hW1 hR hop;have hs1':W1.heap.size=N+3:=hs1;go_enter func49,ntmps49
 go_upto_region 1 with(fail)
 rw[HW1.out];clear HW1 hx1 hN
 go_upto_region 2 with(first
  |(refine wpList_load_row rfl 42 _ rfl (N+2) rfl 42 _ (0,0) _ HR2.out underlying42 rfl (by kernel_rfl) ?_)
  |(go_at_call 86;refine(HWR.out _).mono ?_;rintro e w2 ⟨rfl,hb2⟩;have HB2:=zH hb2;clear hb2))
 have hb2:H9 (N+3) W1 w2:=by have:=HB2.out;rwa [hs1'] at this
 have i0:=(HBX.out w2 hb2).i0;have HB2':=zH hb2;clear hb2 hs1' hs1 HB2;rw[HWO.out]
 go_upto_region 4 with(fail)
 clear i0 o1 o2;obtain⟨S,hS⟩:∃S:H5→Prop,S=H9 (N+3) W1:=⟨_,rfl⟩
 have HSB:Ia (∀w',S w'↔H9 (N+3) W1 w'):=fun w'=>by rw[hS]
 have HSC:Ia (∀w',S w'→∀j u,(#[.string g.c.nm,.int .i64 g.c.par,.slice ao g.vs.length g.c.varsC,.bool g.c.rp,.string g.c.rto,.int .i64 g.c.rcl,.slice g.c.fromA g.c.nfrom g.c.fromC,.slice g.c.insA g.c.ins.length g.c.insC]:Array Value).toList[j]?=some u→w'.cell? ((⟨N+1,0,none⟩:Addr).add j)=some u):=fun w' h=>cK (HBX.out w' ((HSB.out w').1 h)).gr;have HSI:Ia (∀w',S w'→∀j u,(#[.int .i64 i.op,.int .i64 i.d,.int .i64 i.a,.int .i64 i.b,.int .i64 i.f,.int .i64 i.n,.string i.sign,i.argsV,i.modeV,.int .i64 i.tI,.int .i64 i.els,.int .i64 i.ln,.int .i64 i.cl]:Array Value).toList[j]?=some u→w'.cell? ((⟨N+1+1,0,none⟩:Addr).add j)=some u):=fun w' h=>cK (HBX.out w' ((HSB.out w').1 h)).ir;have HSS:Ia (∀w',S w'→True∧True):=fun _ _=>⟨trivial,trivial⟩
 clear hS
 go_cut [7,37] from 23 to 37 (fun d b wc=>d= .int .i64 (if wD=true then(i.d,true) else(0,false)).1∧b= .bool (!(bR&&(!wD||bD)))∧H9 (N+3) W1 wc)
 case first=>
  have hS0:S w2.drew:=(HSB.out _).2 HB2'.out.drew;cases wD with
  |true=>
   simp only[if_true];refine aj 5 S (by kernel_rfl) ?_;refine zT 0 rfl HSS.out ?_
   try go_simp
   refine zT 1 rfl HSS.out ?_
   try go_simp
   refine zL 2 rfl 38 ⟨N+1,0,none⟩ HSC.out underlying38 ?_
   try go_simp
   refine zT 3 rfl HSS.out ?_
   try go_simp
   refine zO 4 rfl fun K' hK=> ?_;go_simp;have hS4:∀c,S (w2.alloc c).drew:=fun c=>(HSB.out _).2 ((HB2'.out.alloc (by have:=HB2'.out.size;rw[HS1.out] at this;exact this) _).drew);have hat4:ak (w2.alloc (.cells #[.int .i64 i.d] 3)).drew (some ⟨w2.heap.size,0,none⟩) [i.d]:=ak.one w2 i.d rfl;refine hK _ _ (hS4 _) ?_;clear hK
   try go_simp
   refine zK rfl fun K' hK=> ?_;go_simp;go_at_call 87;refine(HHS.out _ (some ⟨w2.heap.size,0,none⟩) 1 [i.d] (by simp) hat4).mono ?_;rintro e w5 ⟨rfl,hb5⟩;have hS5:S w5:=(HSB.out _).2 (((HSB.out _).1 (hS4 _)).trans (hb5.mono (by have:=((HSB.out _).1 (hS4 (.cells #[.int .i64 i.d] 3))).size;rw[HS1.out] at this;exact this)));rw[HBD.out];refine hK _ _ ?_;clear hK hb5 hS4 hS0 hat4
   try go_simp
   cases bD with
   |false=>
    refine aZ 6 rfl (by kernel_rfl) (by kernel_rfl) (·=w5) rfl ?_;dsimp only[List.drop]
    repeat (go_big_quiet_step (fail))
    refine wpQuiet_nil ?_;rintro _ rfl;go_wp2
    go_meet
    case rel=>exact⟨rfl,by simp,(HSB.out _).1 hS5⟩
   |true=>
    refine ek (S:=S) (k:=12) _ _ _ _ ?_;refine zT 6 rfl HSS.out ?_
    try go_simp
    refine zT 7 rfl HSS.out ?_
    try go_simp
    refine zT 8 rfl HSS.out ?_
    try go_simp
    refine zL 9 rfl 38 ⟨N+1,0,none⟩ HSC.out underlying38 ?_
    try go_simp
    refine zL 10 rfl 42 ⟨N+1+1,0,none⟩ HSI.out underlying42 ?_
    try go_simp
    refine zO 11 rfl fun K' hK=> ?_;go_simp;go_at_call 88;refine(HRD.out _ ((HSB.out _).1 (by assumption))).mono ?_;rintro e w7 ⟨ro,rc,rfl,hro,hb7⟩;have hS7:S w7:=(HSB.out _).2 (((HSB.out _).1 (by assumption)).trans (hb7.mono (by have:=((HSB.out _).1 (by assumption)).size;rw[HS1.out] at this;exact this)));have hat7:=hro.at_;refine hK _ _ hS7 ?_;clear hK hro hb7
    try go_simp
    refine zK rfl fun K' hK=> ?_;go_simp;go_at_call 87;refine(HHS.out _ _ _ _ HRL.out hat7).mono ?_;rintro e w8 ⟨rfl,hb8⟩;have hS8:=((HSB.out _).1 hS7).trans (hb8.mono (by have:=((HSB.out _).1 hS7).size;rw[HS1.out] at this;exact this));rw[HBR.out];refine hK _ _ ?_;clear hK hat7 hb8
    try go_simp
    refine aZ 13 rfl (by kernel_rfl) (by kernel_rfl) (·=w8) rfl ?_;dsimp only[List.drop]
    repeat (go_big_quiet_step (fail))
    refine wpQuiet_nil ?_;rintro _ rfl;go_wp2
    go_meet
    case rel=>exact⟨rfl,by simp,hS8⟩
  |false=>
    simp only[Bool.false_eq_true,if_false];refine aj 12 S (by kernel_rfl) ?_;refine zT 0 rfl HSS.out ?_
    try go_simp
    refine zT 1 rfl HSS.out ?_
    try go_simp
    refine zN 2 rfl ?_
    try go_simp
    refine zN 3 rfl ?_
    try go_simp
    refine zN 4 rfl ?_
    try go_simp
    refine zN 5 rfl ?_
    try go_simp
    refine zN 6 rfl ?_
    try go_simp
    refine zT 7 rfl HSS.out ?_
    try go_simp
    refine zT 8 rfl HSS.out ?_
    try go_simp
    refine zL 9 rfl 38 ⟨N+1,0,none⟩ HSC.out underlying38 ?_
    try go_simp
    refine zL 10 rfl 42 ⟨N+1+1,0,none⟩ HSI.out underlying42 ?_
    try go_simp
    refine zO 11 rfl fun K' hK=> ?_;go_simp;go_at_call 88;refine(HRD.out _ ((HSB.out _).1 (by assumption))).mono ?_;rintro e w7 ⟨ro,rc,rfl,hro,hb7⟩;have hS7:S w7:=(HSB.out _).2 (((HSB.out _).1 (by assumption)).trans (hb7.mono (by have:=((HSB.out _).1 (by assumption)).size;rw[HS1.out] at this;exact this)));have hat7:=hro.at_;refine hK _ _ hS7 ?_;clear hK hro hb7
    try go_simp
    refine zK rfl fun K' hK=> ?_;go_simp;go_at_call 87;refine(HHS.out _ _ _ _ HRL.out hat7).mono ?_;rintro e w8 ⟨rfl,hb8⟩;have hS8:=((HSB.out _).1 hS7).trans (hb8.mono (by have:=((HSB.out _).1 hS7).size;rw[HS1.out] at this;exact this));rw[HBR.out];refine hK _ _ ?_;clear hK hat7 hb8
    try go_simp
    refine aZ 13 rfl (by kernel_rfl) (by kernel_rfl) (·=w8) rfl ?_;dsimp only[List.drop]
    repeat (go_big_quiet_step (fail))
    refine wpQuiet_nil ?_;rintro _ rfl;go_wp2
    go_meet
    case rel=>exact⟨rfl,by simp,hS8⟩
 case rest=>
  obtain⟨rfl,rfl,hbc⟩:=hcut;have HBF:=zH (HBN.out wc hbc);have hx:=HBX.out wc hbc;have HV:Ia (∀v,isVar g.vs.length v=true→∃(k b off:Nat) (x:Vr),v=(k:Int)∧k<g.vs.length∧ao=some ⟨b,off,none⟩∧ax g.vs v=(x.ptr,x.tgt)∧∀W,H9 (N+3) W1 W→W.cell? ⟨b,off+k*3,none⟩=some (.bool x.ptr)∧W.cell? ⟨b,off+k*3+1,none⟩=some (.string x.tgt)):=fun v hv=>by
   obtain⟨k,b,off,x,q1,q2,q3,q4,q5,q6,q7⟩:=dN HHJ.out.vars hv;refine⟨k,b,off,x,q1,q2,by rw[←HAO.out];exact q3,q5,fun W hW=> ?_⟩;have hbn:=HBN.out W hW;rw[HN.out] at q4;exact⟨by rw[hbn.cell (p:=⟨b,_,none⟩) (show b<N by omega)];exact q6,by rw[hbn.cell (p:=⟨b,_,none⟩) (show b<N by omega)];exact q7⟩
  have hvl:=HHJ.out.vl;unfold maxLen at hvl;have HO:Ia (∀W b f,zP 51 #[.bool b,.int .i64 f] W (.int .i64 (bM (!b) f))):=fun W b f=>bn b f W;have HBO:Ia (∀W W':H5,H9 (N+3) W1 W→H9 W.heap.size W W'→H9 N w W'):=fun W W' h1 h2=>HBN.out W' (h1.trans (h2.mono (by have:=h1.size;rw[HS1.out] at this;exact this)));obtain⟨B,hB⟩:=zE (bR&&(!wD||bD));rw[hB];cases B with
  |false=>
   have HRR:Ia (R=15):=by unfold Ia;rw[←HR.out];unfold aC;rw[if_neg HNR.out,if_pos (by rw[HTH.out];exact hB)]
   clear hx HV hB;obtain⟨wv,hwv⟩:=zE ((if wD=true then(i.d,true) else(0,false)):Int×Bool);rw[hwv,Bool.not_false];clear hwv HWO;go_wp2;go_ret;rw[HRR.out,HN.out];exact⟨rfl,HBF.out⟩
  |true=>
  rw[Bool.not_true];clear HSB HSC HSI HSS HB2' HWO HWR HR2;rcases HOP.out with hop|hop|hop|hop|hop
  ·
   have ew:wD=true:=by rw[←HWD.out,hop];decide
   subst ew;have ebR:bR=true:=(by simpa using hB:_∧_).1;have ebD:bD=true:=(by simpa using hB:_∧_).2;have hdv:isVar g.vs.length i.d=true:=by have:=HBD.out;rw[ebD] at this;simpa[aI] using this
   have hE:=dZ HR HNR HTH (by rw[ebR,ebD];simp);have i0:=hx.i0;rw[hop] at i0;have g7:=hx.g7;have g2:=hx.g2;obtain⟨kd,vbd,vod,xd,hkd,hkld,hvd,htd,hcd⟩:=HV.out i.d hdv;have HdC:=zH hcd;obtain⟨d0,d1⟩:=hcd wc hbc;clear hcd;have hkId:(kd:Int)<(g.vs.length:Int):=by omega
   subst hvd;obtain⟨pd,hpd⟩:=zE xd.ptr;rw[hpd] at d0 htd;have HRR:Ia (R=bM (!pd) 7):=by unfold Ia;rw[hE];simp[hop,au,dR,htd]
   simp only[if_true];rw[hkd];clear hop hE hB hx HBX HV
   go_wp2_with (go_at_call 51;refine(HO.out _ _ _).mono ?_;rintro e w9 ⟨rfl,hb9⟩;have HB9:=zH (HBO.out _ _ hbc hb9);clear hb9)
   go_ret;rw[HRR.out,HN.out];exact⟨rfl,by first|exact HB9.out|exact HBF.out⟩
  ·
   have ew:wD=true:=by rw[←HWD.out,hop];decide
   subst ew;have ebR:bR=true:=(by simpa using hB:_∧_).1;have ebD:bD=true:=(by simpa using hB:_∧_).2;have hdv:isVar g.vs.length i.d=true:=by have:=HBD.out;rw[ebD] at this;simpa[aI] using this
   have hE:=dZ HR HNR HTH (by rw[ebR,ebD];simp);have i0:=hx.i0;rw[hop] at i0;have g7:=hx.g7;have g2:=hx.g2;obtain⟨kd,vbd,vod,xd,hkd,hkld,hvd,htd,hcd⟩:=HV.out i.d hdv;have HdC:=zH hcd;obtain⟨d0,d1⟩:=hcd wc hbc;clear hcd;have hkId:(kd:Int)<(g.vs.length:Int):=by omega
   subst hvd;obtain⟨pd,hpd⟩:=zE xd.ptr;rw[hpd] at d0 htd;have HRR:Ia (R=bM pd 7):=by unfold Ia;rw[hE];simp[hop,au,htd]
   simp only[if_true];rw[hkd];clear hop hE hB hx HBX HV
   go_wp2_with (go_at_call 51;refine(HO.out _ _ _).mono ?_;rintro e w9 ⟨rfl,hb9⟩;have HB9:=zH (HBO.out _ _ hbc hb9);clear hb9)
   go_ret;rw[HRR.out,HN.out];exact⟨rfl,by first|exact HB9.out|exact HBF.out⟩
  ·
   have ew:wD=true:=by rw[←HWD.out,hop];decide
   subst ew;have ebR:bR=true:=(by simpa using hB:_∧_).1;have ebD:bD=true:=(by simpa using hB:_∧_).2;have hdv:isVar g.vs.length i.d=true:=by have:=HBD.out;rw[ebD] at this;simpa[aI] using this
   have hav:isVar g.vs.length i.a=true:=fD (by rw[HBR.out];exact ebR) (by rw[hop];decide);have hE:=dZ HR HNR HTH (by rw[ebR,ebD];simp);have i0:=hx.i0;rw[hop] at i0;have g7:=hx.g7;have g2:=hx.g2;have i2:=hx.i2;obtain⟨kd,vbd,vod,xd,hkd,hkld,hvd,htd,hcd⟩:=HV.out i.d hdv;have HdC:=zH hcd;obtain⟨d0,d1⟩:=hcd wc hbc;clear hcd;have hkId:(kd:Int)<(g.vs.length:Int):=by omega
   obtain⟨ka,vba,voa,xa,hka,hkla,hva,hta,hca⟩:=HV.out i.a hav;have HaC:=zH hca;obtain⟨a0,a1⟩:=hca wc hbc;clear hca;have hkIa:(ka:Int)<(g.vs.length:Int):=by omega
   subst hvd;simp only[Option.some.injEq,Addr.mk.injEq,and_true] at hva;obtain⟨rfl,rfl⟩:=hva;rw[hka] at i2;obtain⟨pd,hpd⟩:=zE xd.ptr;rw[hpd] at d0 htd;obtain⟨pa,hpa⟩:=zE xa.ptr;rw[hpa] at a0 hta;have HRR:Ia (R=bM (!(pd||pa)) 7):=by unfold Ia;rw[hE];simp[hop,au,dR,htd,hta]
   simp only[if_true];rw[hkd];clear hop hE hB hx HBX HV;cases pd<;>(go_wp2_with (go_at_call 51;refine(HO.out _ _ _).mono ?_;rintro e w9 ⟨rfl,hb9⟩;have HB9:=zH (HBO.out _ _ hbc hb9);clear hb9);go_ret;rw[HRR.out,HN.out];exact⟨rfl,by first|exact HB9.out|exact HBF.out⟩)
  ·
   have ew:wD=true:=by rw[←HWD.out,hop];decide
   subst ew;have ebR:bR=true:=(by simpa using hB:_∧_).1;have ebD:bD=true:=(by simpa using hB:_∧_).2;have hdv:isVar g.vs.length i.d=true:=by have:=HBD.out;rw[ebD] at this;simpa[aI] using this
   have hE:=dZ HR HNR HTH (by rw[ebR,ebD];simp);have i0:=hx.i0;rw[hop] at i0;have g7:=hx.g7;have g2:=hx.g2;obtain⟨kd,vbd,vod,xd,hkd,hkld,hvd,htd,hcd⟩:=HV.out i.d hdv;have HdC:=zH hcd;obtain⟨d0,d1⟩:=hcd wc hbc;clear hcd;have hkId:(kd:Int)<(g.vs.length:Int):=by omega
   subst hvd;obtain⟨pd,hpd⟩:=zE xd.ptr;rw[hpd] at d0 htd;have HRR:Ia (R=bM (!pd) 7):=by unfold Ia;rw[hE];simp[hop,au,dR,htd]
   simp only[if_true];rw[hkd];clear hop hE hB hx HBX HV
   go_wp2_with (go_at_call 51;refine(HO.out _ _ _).mono ?_;rintro e w9 ⟨rfl,hb9⟩;have HB9:=zH (HBO.out _ _ hbc hb9);clear hb9)
   go_ret;rw[HRR.out,HN.out];exact⟨rfl,by first|exact HB9.out|exact HBF.out⟩
  ·
   have ew:wD=false:=by rw[←HWD.out,hop];decide
   subst ew;have ebR:bR=true:=by simpa using hB
   have hav:isVar g.vs.length i.a=true:=fD (by rw[HBR.out];exact ebR) (by rw[hop];decide);have hE:=dZ HR HNR HTH (by rw[ebR];simp);have i0:=hx.i0;rw[hop] at i0;have g7:=hx.g7;have g2:=hx.g2;have i2:=hx.i2;obtain⟨ka,vba,voa,xa,hka,hkla,hva,hta,hca⟩:=HV.out i.a hav;have HaC:=zH hca;obtain⟨a0,a1⟩:=hca wc hbc;clear hca;have hkIa:(ka:Int)<(g.vs.length:Int):=by omega
   subst hva;rw[hka] at i2;obtain⟨pa,hpa⟩:=zE xa.ptr;rw[hpa] at a0 hta;have HRR:Ia (R=bM (!pa) 7):=by unfold Ia;rw[hE];simp[hop,au,dR,hta]
   clear hop hE hB hx HBX HV
   go_wp2_with (go_at_call 51;refine(HO.out _ _ _).mono ?_;rintro e w9 ⟨rfl,hb9⟩;have HB9:=zH (HBO.out _ _ hbc hb9);clear hb9)
   go_ret;rw[HRR.out,HN.out];exact⟨rfl,by first|exact HB9.out|exact HBF.out⟩
theorem tL (m:Mo)(g:Fn)(i:Ins)(w:H5)(h:nC w m g)(hi:i.args_in w)(hal:i.args.length≤40)(hkn:∀v,isVar g.vs.length v=true→m.known (ax g.vs v)=true)(hop:i.op=4∨i.op=13∨i.op=14∨i.op=16):
  zP 49 #[.agg m.cells,.agg g.cells,.agg i.cells] w (.int .i64 (aC m g i)):=by
 obtain⟨ao,N,W1,hN,hs1,hW1,HN,HS1,HGC,HAO,HBX,HBN,HJ,HAI,HHS,HWR,HRD,HRL⟩:=fF h hi hal;obtain⟨wD,bD,bR,o1,o2,HNR,HBD,HBR,HWD,HWO,HTH⟩:=fJ (g:=g) (i:=i) (by omega) (by omega);rw[HGC.out];simp only[Mo.cells,gc,Ins.cells] at hW1⊢;have HW1:=zH hW1;obtain⟨R,hR⟩:=zE (aC m g i);rw[hR];have HR:=zH hR;have HHJ:=zH h;have HOP:=zH hop;have hx1:=HBX.out W1 (Hw _ _);have HR2:=zH hx1.ir;clear h hi hal hkn hW1 hR hop;have hs1':W1.heap.size=N+3:=hs1;go_enter func49,ntmps49
 go_upto_region 1 with(fail)
 rw[HW1.out];clear HW1 hx1 hN
 go_upto_region 2 with(first
  |(refine wpList_load_row rfl 42 _ rfl (N+2) rfl 42 _ (0,0) _ HR2.out underlying42 rfl (by kernel_rfl) ?_)
  |(go_at_call 86;refine(HWR.out _).mono ?_;rintro e w2 ⟨rfl,hb2⟩;have HB2:=zH hb2;clear hb2))
 have hb2:H9 (N+3) W1 w2:=by have:=HB2.out;rwa [hs1'] at this
 have i0:=(HBX.out w2 hb2).i0;have HB2':=zH hb2;clear hb2 hs1' hs1 HB2;rw[HWO.out]
 go_upto_region 4 with(fail)
 clear i0 o1 o2;obtain⟨S,hS⟩:∃S:H5→Prop,S=H9 (N+3) W1:=⟨_,rfl⟩
 have HSB:Ia (∀w',S w'↔H9 (N+3) W1 w'):=fun w'=>by rw[hS]
 have HSC:Ia (∀w',S w'→∀j u,(#[.string g.c.nm,.int .i64 g.c.par,.slice ao g.vs.length g.c.varsC,.bool g.c.rp,.string g.c.rto,.int .i64 g.c.rcl,.slice g.c.fromA g.c.nfrom g.c.fromC,.slice g.c.insA g.c.ins.length g.c.insC]:Array Value).toList[j]?=some u→w'.cell? ((⟨N+1,0,none⟩:Addr).add j)=some u):=fun w' h=>cK (HBX.out w' ((HSB.out w').1 h)).gr;have HSI:Ia (∀w',S w'→∀j u,(#[.int .i64 i.op,.int .i64 i.d,.int .i64 i.a,.int .i64 i.b,.int .i64 i.f,.int .i64 i.n,.string i.sign,i.argsV,i.modeV,.int .i64 i.tI,.int .i64 i.els,.int .i64 i.ln,.int .i64 i.cl]:Array Value).toList[j]?=some u→w'.cell? ((⟨N+1+1,0,none⟩:Addr).add j)=some u):=fun w' h=>cK (HBX.out w' ((HSB.out w').1 h)).ir;have HSS:Ia (∀w',S w'→True∧True):=fun _ _=>⟨trivial,trivial⟩
 clear hS
 go_cut [7,37] from 23 to 37 (fun d b wc=>d= .int .i64 (if wD=true then(i.d,true) else(0,false)).1∧b= .bool (!(bR&&(!wD||bD)))∧H9 (N+3) W1 wc)
 case first=>
  have hS0:S w2.drew:=(HSB.out _).2 HB2'.out.drew;cases wD with
  |true=>
   simp only[if_true];refine aj 5 S (by kernel_rfl) ?_;refine zT 0 rfl HSS.out ?_
   try go_simp
   refine zT 1 rfl HSS.out ?_
   try go_simp
   refine zL 2 rfl 38 ⟨N+1,0,none⟩ HSC.out underlying38 ?_
   try go_simp
   refine zT 3 rfl HSS.out ?_
   try go_simp
   refine zO 4 rfl fun K' hK=> ?_;go_simp;have hS4:∀c,S (w2.alloc c).drew:=fun c=>(HSB.out _).2 ((HB2'.out.alloc (by have:=HB2'.out.size;rw[HS1.out] at this;exact this) _).drew);have hat4:ak (w2.alloc (.cells #[.int .i64 i.d] 3)).drew (some ⟨w2.heap.size,0,none⟩) [i.d]:=ak.one w2 i.d rfl;refine hK _ _ (hS4 _) ?_;clear hK
   try go_simp
   refine zK rfl fun K' hK=> ?_;go_simp;go_at_call 87;refine(HHS.out _ (some ⟨w2.heap.size,0,none⟩) 1 [i.d] (by simp) hat4).mono ?_;rintro e w5 ⟨rfl,hb5⟩;have hS5:S w5:=(HSB.out _).2 (((HSB.out _).1 (hS4 _)).trans (hb5.mono (by have:=((HSB.out _).1 (hS4 (.cells #[.int .i64 i.d] 3))).size;rw[HS1.out] at this;exact this)));rw[HBD.out];refine hK _ _ ?_;clear hK hb5 hS4 hS0 hat4
   try go_simp
   cases bD with
   |false=>
    refine aZ 6 rfl (by kernel_rfl) (by kernel_rfl) (·=w5) rfl ?_;dsimp only[List.drop]
    repeat (go_big_quiet_step (fail))
    refine wpQuiet_nil ?_;rintro _ rfl;go_wp2
    go_meet
    case rel=>exact⟨rfl,by simp,(HSB.out _).1 hS5⟩
   |true=>
    refine ek (S:=S) (k:=12) _ _ _ _ ?_;refine zT 6 rfl HSS.out ?_
    try go_simp
    refine zT 7 rfl HSS.out ?_
    try go_simp
    refine zT 8 rfl HSS.out ?_
    try go_simp
    refine zL 9 rfl 38 ⟨N+1,0,none⟩ HSC.out underlying38 ?_
    try go_simp
    refine zL 10 rfl 42 ⟨N+1+1,0,none⟩ HSI.out underlying42 ?_
    try go_simp
    refine zO 11 rfl fun K' hK=> ?_;go_simp;go_at_call 88;refine(HRD.out _ ((HSB.out _).1 (by assumption))).mono ?_;rintro e w7 ⟨ro,rc,rfl,hro,hb7⟩;have hS7:S w7:=(HSB.out _).2 (((HSB.out _).1 (by assumption)).trans (hb7.mono (by have:=((HSB.out _).1 (by assumption)).size;rw[HS1.out] at this;exact this)));have hat7:=hro.at_;refine hK _ _ hS7 ?_;clear hK hro hb7
    try go_simp
    refine zK rfl fun K' hK=> ?_;go_simp;go_at_call 87;refine(HHS.out _ _ _ _ HRL.out hat7).mono ?_;rintro e w8 ⟨rfl,hb8⟩;have hS8:=((HSB.out _).1 hS7).trans (hb8.mono (by have:=((HSB.out _).1 hS7).size;rw[HS1.out] at this;exact this));rw[HBR.out];refine hK _ _ ?_;clear hK hat7 hb8
    try go_simp
    refine aZ 13 rfl (by kernel_rfl) (by kernel_rfl) (·=w8) rfl ?_;dsimp only[List.drop]
    repeat (go_big_quiet_step (fail))
    refine wpQuiet_nil ?_;rintro _ rfl;go_wp2
    go_meet
    case rel=>exact⟨rfl,by simp,hS8⟩
  |false=>
    simp only[Bool.false_eq_true,if_false];refine aj 12 S (by kernel_rfl) ?_;refine zT 0 rfl HSS.out ?_
    try go_simp
    refine zT 1 rfl HSS.out ?_
    try go_simp
    refine zN 2 rfl ?_
    try go_simp
    refine zN 3 rfl ?_
    try go_simp
    refine zN 4 rfl ?_
    try go_simp
    refine zN 5 rfl ?_
    try go_simp
    refine zN 6 rfl ?_
    try go_simp
    refine zT 7 rfl HSS.out ?_
    try go_simp
    refine zT 8 rfl HSS.out ?_
    try go_simp
    refine zL 9 rfl 38 ⟨N+1,0,none⟩ HSC.out underlying38 ?_
    try go_simp
    refine zL 10 rfl 42 ⟨N+1+1,0,none⟩ HSI.out underlying42 ?_
    try go_simp
    refine zO 11 rfl fun K' hK=> ?_;go_simp;go_at_call 88;refine(HRD.out _ ((HSB.out _).1 (by assumption))).mono ?_;rintro e w7 ⟨ro,rc,rfl,hro,hb7⟩;have hS7:S w7:=(HSB.out _).2 (((HSB.out _).1 (by assumption)).trans (hb7.mono (by have:=((HSB.out _).1 (by assumption)).size;rw[HS1.out] at this;exact this)));have hat7:=hro.at_;refine hK _ _ hS7 ?_;clear hK hro hb7
    try go_simp
    refine zK rfl fun K' hK=> ?_;go_simp;go_at_call 87;refine(HHS.out _ _ _ _ HRL.out hat7).mono ?_;rintro e w8 ⟨rfl,hb8⟩;have hS8:=((HSB.out _).1 hS7).trans (hb8.mono (by have:=((HSB.out _).1 hS7).size;rw[HS1.out] at this;exact this));rw[HBR.out];refine hK _ _ ?_;clear hK hat7 hb8
    try go_simp
    refine aZ 13 rfl (by kernel_rfl) (by kernel_rfl) (·=w8) rfl ?_;dsimp only[List.drop]
    repeat (go_big_quiet_step (fail))
    refine wpQuiet_nil ?_;rintro _ rfl;go_wp2
    go_meet
    case rel=>exact⟨rfl,by simp,hS8⟩
 case rest=>
  obtain⟨rfl,rfl,hbc⟩:=hcut;have HBF:=zH (HBN.out wc hbc);have hx:=HBX.out wc hbc;have HV:Ia (∀v,isVar g.vs.length v=true→∃(k b off:Nat) (x:Vr),v=(k:Int)∧k<g.vs.length∧ao=some ⟨b,off,none⟩∧ax g.vs v=(x.ptr,x.tgt)∧∀W,H9 (N+3) W1 W→W.cell? ⟨b,off+k*3,none⟩=some (.bool x.ptr)∧W.cell? ⟨b,off+k*3+1,none⟩=some (.string x.tgt)):=fun v hv=>by
   obtain⟨k,b,off,x,q1,q2,q3,q4,q5,q6,q7⟩:=dN HHJ.out.vars hv;refine⟨k,b,off,x,q1,q2,by rw[←HAO.out];exact q3,q5,fun W hW=> ?_⟩;have hbn:=HBN.out W hW;rw[HN.out] at q4;exact⟨by rw[hbn.cell (p:=⟨b,_,none⟩) (show b<N by omega)];exact q6,by rw[hbn.cell (p:=⟨b,_,none⟩) (show b<N by omega)];exact q7⟩
  have hvl:=HHJ.out.vl;unfold maxLen at hvl;have HO:Ia (∀W b f,zP 51 #[.bool b,.int .i64 f] W (.int .i64 (bM (!b) f))):=fun W b f=>bn b f W;have HBO:Ia (∀W W':H5,H9 (N+3) W1 W→H9 W.heap.size W W'→H9 N w W'):=fun W W' h1 h2=>HBN.out W' (h1.trans (h2.mono (by have:=h1.size;rw[HS1.out] at this;exact this)));obtain⟨B,hB⟩:=zE (bR&&(!wD||bD));rw[hB];cases B with
  |false=>
   have HRR:Ia (R=15):=by unfold Ia;rw[←HR.out];unfold aC;rw[if_neg HNR.out,if_pos (by rw[HTH.out];exact hB)]
   clear hx HV hB;obtain⟨wv,hwv⟩:=zE ((if wD=true then(i.d,true) else(0,false)):Int×Bool);rw[hwv,Bool.not_false];clear hwv HWO;go_wp2;go_ret;rw[HRR.out,HN.out];exact⟨rfl,HBF.out⟩
  |true=>
  rw[Bool.not_true];clear HSB HSC HSI HSS HB2' HWO HWR HR2;rcases HOP.out with hop|hop|hop|hop
  ·
   have ew:wD=true:=by rw[←HWD.out,hop];decide
   subst ew;have ebR:bR=true:=(by simpa using hB:_∧_).1;have ebD:bD=true:=(by simpa using hB:_∧_).2;have hdv:isVar g.vs.length i.d=true:=by have:=HBD.out;rw[ebD] at this;simpa[aI] using this
   have hav:isVar g.vs.length i.a=true:=fD (by rw[HBR.out];exact ebR) (by rw[hop];decide);have hbv:isVar g.vs.length i.b=true:=wX (by rw[HBR.out];exact ebR) (by rw[hop];decide);have hE:=dZ HR HNR HTH (by rw[ebR,ebD];simp);have i0:=hx.i0;rw[hop] at i0;have g7:=hx.g7;have g2:=hx.g2;have i2:=hx.i2;have i3:=hx.i3;obtain⟨kd,vbd,vod,xd,hkd,hkld,hvd,htd,hcd⟩:=HV.out i.d hdv;have HdC:=zH hcd;obtain⟨d0,d1⟩:=hcd wc hbc;clear hcd;have hkId:(kd:Int)<(g.vs.length:Int):=by omega
   obtain⟨ka,vba,voa,xa,hka,hkla,hva,hta,hca⟩:=HV.out i.a hav;have HaC:=zH hca;obtain⟨a0,a1⟩:=hca wc hbc;clear hca;have hkIa:(ka:Int)<(g.vs.length:Int):=by omega
   obtain⟨kb,vbb,vob,xb,hkb,hklb,hvb,htb,hcb⟩:=HV.out i.b hbv;have HbC:=zH hcb;obtain⟨b0,b1⟩:=hcb wc hbc;clear hcb;have hkIb:(kb:Int)<(g.vs.length:Int):=by omega
   subst hvd;simp only[Option.some.injEq,Addr.mk.injEq,and_true] at hva;obtain⟨rfl,rfl⟩:=hva;simp only[Option.some.injEq,Addr.mk.injEq,and_true] at hvb;obtain⟨rfl,rfl⟩:=hvb;rw[hka] at i2;rw[hkb] at i3;obtain⟨pd,hpd⟩:=zE xd.ptr;rw[hpd] at d0 htd;obtain⟨pa,hpa⟩:=zE xa.ptr;rw[hpa] at a0 hta;obtain⟨pb,hpb⟩:=zE xb.ptr;rw[hpb] at b0 htb;have i6:=hx.i6;have HRR:Ia (R=d9 (bM (!(pd||(pa||pb))) 7) i.sign gm):=by unfold Ia;rw[hE];simp[hop,au,dR,htd,hta,htb]
   have HSG:Ia (∀W,zP 89 #[.string i.sign] W (.bool (gm.any fun x=>x==i.sign))):=fun W=>yV i.sign W;obtain⟨sg,hsg⟩:=zE (gm.any fun x=>x==i.sign);rw[hsg] at HSG;have HRS:Ia (∀z,d9 z i.sign gm=if z≠0 then z else bM sg 3):=fun z=>by unfold d9;rw[hsg]
   rw[HRS.out] at HRR;clear hsg HRS;simp only[if_true];rw[hkd];clear hop hE hB hx HBX HV;cases pd
   ·cases pa
    ·cases pb
     ·go_wp2_with (first|(go_at_call 89;refine(HSG.out _).mono ?_;rintro e w8 ⟨rfl,hb8⟩;have HB8:=zH (hbc.trans (hb8.mono (by have:=hbc.size;rw[HS1.out] at this;exact this)));clear hb8)|(go_at_call 51;refine(HO.out _ _ _).mono ?_;rintro e w9 ⟨rfl,hb9⟩;have HB9:=zH (HBO.out _ _ HB8.out hb9);clear hb9))
      go_ret;rw[HRR.out,HN.out];exact⟨by cases sg<;>rfl,HB9.out⟩
     ·go_wp2
      go_ret;rw[HRR.out,HN.out];exact⟨rfl,HBF.out⟩
    ·go_wp2
     go_ret;rw[HRR.out,HN.out];exact⟨rfl,HBF.out⟩
   ·go_wp2
    go_ret;rw[HRR.out,HN.out];exact⟨rfl,HBF.out⟩
  ·
   have ew:wD=false:=by rw[←HWD.out,hop];decide
   subst ew;have ebR:bR=true:=by simpa using hB
   have hav:isVar g.vs.length i.a=true:=fD (by rw[HBR.out];exact ebR) (by rw[hop];decide);have hE:=dZ HR HNR HTH (by rw[ebR];simp);have i0:=hx.i0;rw[hop] at i0;have g7:=hx.g7;have g2:=hx.g2;have i2:=hx.i2;obtain⟨ka,vba,voa,xa,hka,hkla,hva,hta,hca⟩:=HV.out i.a hav;have HaC:=zH hca;obtain⟨a0,a1⟩:=hca wc hbc;clear hca;have hkIa:(ka:Int)<(g.vs.length:Int):=by omega
   subst hva;rw[hka] at i2;obtain⟨pa,hpa⟩:=zE xa.ptr;rw[hpa] at a0 hta;have HRR:Ia (R=bM pa 7):=by unfold Ia;rw[hE];simp[hop,au,hta]
   clear hop hE hB hx HBX HV
   go_wp2_with (go_at_call 51;refine(HO.out _ _ _).mono ?_;rintro e w9 ⟨rfl,hb9⟩;have HB9:=zH (HBO.out _ _ hbc hb9);clear hb9)
   go_ret;rw[HRR.out,HN.out];exact⟨rfl,by first|exact HB9.out|exact HBF.out⟩
  ·
   have ew:wD=true:=by rw[←HWD.out,hop];decide
   subst ew;have ebR:bR=true:=(by simpa using hB:_∧_).1;have ebD:bD=true:=(by simpa using hB:_∧_).2;have hdv:isVar g.vs.length i.d=true:=by have:=HBD.out;rw[ebD] at this;simpa[aI] using this
   have hav:isVar g.vs.length i.a=true:=fD (by rw[HBR.out];exact ebR) (by rw[hop];decide);have hE:=dZ HR HNR HTH (by rw[ebR,ebD];simp);have i0:=hx.i0;rw[hop] at i0;have g7:=hx.g7;have g2:=hx.g2;have i2:=hx.i2;obtain⟨kd,vbd,vod,xd,hkd,hkld,hvd,htd,hcd⟩:=HV.out i.d hdv;have HdC:=zH hcd;obtain⟨d0,d1⟩:=hcd wc hbc;clear hcd;have hkId:(kd:Int)<(g.vs.length:Int):=by omega
   obtain⟨ka,vba,voa,xa,hka,hkla,hva,hta,hca⟩:=HV.out i.a hav;have HaC:=zH hca;obtain⟨a0,a1⟩:=hca wc hbc;clear hca;have hkIa:(ka:Int)<(g.vs.length:Int):=by omega
   subst hvd;simp only[Option.some.injEq,Addr.mk.injEq,and_true] at hva;obtain⟨rfl,rfl⟩:=hva;rw[hka] at i2;obtain⟨pd,hpd⟩:=zE xd.ptr;rw[hpd] at d0 htd;obtain⟨pa,hpa⟩:=zE xa.ptr;rw[hpa] at a0 hta;have i6:=hx.i6;have HRR:Ia (R=d9 (bM (!pd&&pa) 7) i.sign jb):=by unfold Ia;rw[hE];simp[hop,au,htd,hta]
   have HSN:Ia ((jb.any fun x=>x==i.sign)=(i.sign.toList==[61,61]||i.sign.toList==[33,61])):=by
    unfold Ia jb;simp only[List.any_cons,List.any_nil,Bool.or_false];rw[beq_toListBytes,beq_toListBytes,BEq.comm (a:=i.sign.toList),BEq.comm (a:=i.sign.toList)];rw[show(ByteArray.mk #[61,61]).toList=[61,61] from by decide+kernel,show(ByteArray.mk #[33,61]).toList=[33,61] from by decide+kernel]
   have HRS:Ia (∀z,d9 z i.sign jb=if z≠0 then z else bM (i.sign.toList==[61,61]||i.sign.toList==[33,61]) 3):=fun z=>by unfold d9;rw[HSN.out]
   rw[HRS.out] at HRR;clear HRS HSN;simp only[if_true];rw[hkd];clear hop hE hB hx HBX HV;cases pd
   ·cases pa
    ·go_wp2
     go_ret;rw[HRR.out,HN.out];exact⟨rfl,HBF.out⟩
    ·by_cases s1:i.sign.toList=[61,61]
     ·have HRQ:Ia (R=0):=by unfold Ia;rw[HRR.out,s1];rfl
      go_wp2_with (go_at_call 51;refine(HO.out _ _ _).mono ?_;rintro e w9 ⟨rfl,hb9⟩;have HB9:=zH (HBO.out _ _ hbc hb9);clear hb9)
      go_ret;rw[HRQ.out,HN.out];exact⟨rfl,HB9.out⟩
     ·by_cases s2:i.sign.toList=[33,61]
      ·have HRQ:Ia (R=0):=by unfold Ia;rw[HRR.out,s2];rfl
       go_wp2_with (go_at_call 51;refine(HO.out _ _ _).mono ?_;rintro e w9 ⟨rfl,hb9⟩;have HB9:=zH (HBO.out _ _ hbc hb9);clear hb9)
       go_ret;rw[HRQ.out,HN.out];exact⟨rfl,HB9.out⟩
      ·have HRQ:Ia (R=bM (i.sign.toList==[61,61]||i.sign.toList==[33,61]) 3):=by unfold Ia;rw[HRR.out];rfl
       go_wp2_with (go_at_call 51;refine(HO.out _ _ _).mono ?_;rintro e w9 ⟨rfl,hb9⟩;have HB9:=zH (HBO.out _ _ hbc hb9);clear hb9)
       go_ret;rw[HRQ.out,HN.out];exact⟨rfl,HB9.out⟩
   ·go_wp2
    go_ret;rw[HRR.out,HN.out];exact⟨rfl,HBF.out⟩
  ·
   have ew:wD=false:=by rw[←HWD.out,hop];decide
   subst ew;have ebR:bR=true:=by simpa using hB
   have hE:=dZ HR HNR HTH (by rw[ebR];simp);have i0:=hx.i0;rw[hop] at i0;have g7:=hx.g7;have i9:=hx.i9;obtain⟨n,hn⟩:=zE g.c.ins.length;obtain⟨t,ht⟩:=zE i.tI;rw[ht] at i9;rw[hn] at g7;have HRR:Ia (R=bM (isVar n t) 15):=by unfold Ia;rw[hE];simp[hop,hn,ht]
   clear hop hE hB hx HBX HV
   by_cases t0:t<0
   ·have e:isVar n t=false:=by unfold isVar;rw[decide_eq_false (by omega)];rfl
    rw[e] at HRR;have e0:decide (t<0)=true:=decide_eq_true t0
    go_wp2_with (go_at_call 51;refine(HO.out _ _ _).mono ?_;rintro e w9 ⟨rfl,hb9⟩;have HB9:=zH (HBO.out _ _ hbc hb9);clear hb9)
    go_ret;rw[HRR.out,HN.out];exact⟨rfl,by first|exact HB9.out|exact HBF.out⟩
   have e0:decide (t<0)=false:=decide_eq_false t0
   by_cases t1:(n:Int)≤t
   ·have e:isVar n t=false:=by unfold isVar;rw[decide_eq_false (show¬t<(n:Int) by omega),Bool.and_false]
    rw[e] at HRR;have e1:decide ((n:Int)≤t)=true:=decide_eq_true t1
    go_wp2_with (go_at_call 51;refine(HO.out _ _ _).mono ?_;rintro e w9 ⟨rfl,hb9⟩;have HB9:=zH (HBO.out _ _ hbc hb9);clear hb9)
    go_ret;rw[HRR.out,HN.out];exact⟨rfl,by first|exact HB9.out|exact HBF.out⟩
   ·have e:isVar n t=true:=dX.2 ⟨by omega,by omega⟩
    rw[e] at HRR;have e1:decide ((n:Int)≤t)=false:=decide_eq_false t1
    go_wp2_with (go_at_call 51;refine(HO.out _ _ _).mono ?_;rintro e w9 ⟨rfl,hb9⟩;have HB9:=zH (HBO.out _ _ hbc hb9);clear hb9)
    go_ret;rw[HRR.out,HN.out];exact⟨rfl,by first|exact HB9.out|exact HBF.out⟩
theorem tN (m:Mo)(g:Fn)(i:Ins)(w:H5)(h:nC w m g)(hi:i.args_in w)(hal:i.args.length≤40)(hkn:∀v,isVar g.vs.length v=true→m.known (ax g.vs v)=true)(hop:i.op=9∨i.op=12∨i.op=18):
  zP 49 #[.agg m.cells,.agg g.cells,.agg i.cells] w (.int .i64 (aC m g i)):=by
 obtain⟨ao,N,W1,hN,hs1,hW1,HN,HS1,HGC,HAO,HBX,HBN,HJ,HAI,HHS,HWR,HRD,HRL⟩:=fF h hi hal;obtain⟨wD,bD,bR,o1,o2,HNR,HBD,HBR,HWD,HWO,HTH⟩:=fJ (g:=g) (i:=i) (by omega) (by omega);rw[HGC.out];simp only[Mo.cells,gc,Ins.cells] at hW1⊢;have HW1:=zH hW1;obtain⟨R,hR⟩:=zE (aC m g i);rw[hR];have HR:=zH hR;have HHJ:=zH h;have HOP:=zH hop;have hx1:=HBX.out W1 (Hw _ _);have HR2:=zH hx1.ir;clear h hi hal hkn hW1 hR hop;have hs1':W1.heap.size=N+3:=hs1;go_enter func49,ntmps49
 go_upto_region 1 with(fail)
 rw[HW1.out];clear HW1 hx1 hN
 go_upto_region 2 with(first
  |(refine wpList_load_row rfl 42 _ rfl (N+2) rfl 42 _ (0,0) _ HR2.out underlying42 rfl (by kernel_rfl) ?_)
  |(go_at_call 86;refine(HWR.out _).mono ?_;rintro e w2 ⟨rfl,hb2⟩;have HB2:=zH hb2;clear hb2))
 have hb2:H9 (N+3) W1 w2:=by have:=HB2.out;rwa [hs1'] at this
 have i0:=(HBX.out w2 hb2).i0;have HB2':=zH hb2;clear hb2 hs1' hs1 HB2;rw[HWO.out]
 go_upto_region 4 with(fail)
 clear i0 o1 o2;obtain⟨S,hS⟩:∃S:H5→Prop,S=H9 (N+3) W1:=⟨_,rfl⟩
 have HSB:Ia (∀w',S w'↔H9 (N+3) W1 w'):=fun w'=>by rw[hS]
 have HSC:Ia (∀w',S w'→∀j u,(#[.string g.c.nm,.int .i64 g.c.par,.slice ao g.vs.length g.c.varsC,.bool g.c.rp,.string g.c.rto,.int .i64 g.c.rcl,.slice g.c.fromA g.c.nfrom g.c.fromC,.slice g.c.insA g.c.ins.length g.c.insC]:Array Value).toList[j]?=some u→w'.cell? ((⟨N+1,0,none⟩:Addr).add j)=some u):=fun w' h=>cK (HBX.out w' ((HSB.out w').1 h)).gr;have HSI:Ia (∀w',S w'→∀j u,(#[.int .i64 i.op,.int .i64 i.d,.int .i64 i.a,.int .i64 i.b,.int .i64 i.f,.int .i64 i.n,.string i.sign,i.argsV,i.modeV,.int .i64 i.tI,.int .i64 i.els,.int .i64 i.ln,.int .i64 i.cl]:Array Value).toList[j]?=some u→w'.cell? ((⟨N+1+1,0,none⟩:Addr).add j)=some u):=fun w' h=>cK (HBX.out w' ((HSB.out w').1 h)).ir;have HSS:Ia (∀w',S w'→True∧True):=fun _ _=>⟨trivial,trivial⟩
 clear hS
 go_cut [7,37] from 23 to 37 (fun d b wc=>d= .int .i64 (if wD=true then(i.d,true) else(0,false)).1∧b= .bool (!(bR&&(!wD||bD)))∧H9 (N+3) W1 wc)
 case first=>
  have hS0:S w2.drew:=(HSB.out _).2 HB2'.out.drew;cases wD with
  |true=>
   simp only[if_true];refine aj 5 S (by kernel_rfl) ?_;refine zT 0 rfl HSS.out ?_
   try go_simp
   refine zT 1 rfl HSS.out ?_
   try go_simp
   refine zL 2 rfl 38 ⟨N+1,0,none⟩ HSC.out underlying38 ?_
   try go_simp
   refine zT 3 rfl HSS.out ?_
   try go_simp
   refine zO 4 rfl fun K' hK=> ?_;go_simp;have hS4:∀c,S (w2.alloc c).drew:=fun c=>(HSB.out _).2 ((HB2'.out.alloc (by have:=HB2'.out.size;rw[HS1.out] at this;exact this) _).drew);have hat4:ak (w2.alloc (.cells #[.int .i64 i.d] 3)).drew (some ⟨w2.heap.size,0,none⟩) [i.d]:=ak.one w2 i.d rfl;refine hK _ _ (hS4 _) ?_;clear hK
   try go_simp
   refine zK rfl fun K' hK=> ?_;go_simp;go_at_call 87;refine(HHS.out _ (some ⟨w2.heap.size,0,none⟩) 1 [i.d] (by simp) hat4).mono ?_;rintro e w5 ⟨rfl,hb5⟩;have hS5:S w5:=(HSB.out _).2 (((HSB.out _).1 (hS4 _)).trans (hb5.mono (by have:=((HSB.out _).1 (hS4 (.cells #[.int .i64 i.d] 3))).size;rw[HS1.out] at this;exact this)));rw[HBD.out];refine hK _ _ ?_;clear hK hb5 hS4 hS0 hat4
   try go_simp
   cases bD with
   |false=>
    refine aZ 6 rfl (by kernel_rfl) (by kernel_rfl) (·=w5) rfl ?_;dsimp only[List.drop]
    repeat (go_big_quiet_step (fail))
    refine wpQuiet_nil ?_;rintro _ rfl;go_wp2
    go_meet
    case rel=>exact⟨rfl,by simp,(HSB.out _).1 hS5⟩
   |true=>
    refine ek (S:=S) (k:=12) _ _ _ _ ?_;refine zT 6 rfl HSS.out ?_
    try go_simp
    refine zT 7 rfl HSS.out ?_
    try go_simp
    refine zT 8 rfl HSS.out ?_
    try go_simp
    refine zL 9 rfl 38 ⟨N+1,0,none⟩ HSC.out underlying38 ?_
    try go_simp
    refine zL 10 rfl 42 ⟨N+1+1,0,none⟩ HSI.out underlying42 ?_
    try go_simp
    refine zO 11 rfl fun K' hK=> ?_;go_simp;go_at_call 88;refine(HRD.out _ ((HSB.out _).1 (by assumption))).mono ?_;rintro e w7 ⟨ro,rc,rfl,hro,hb7⟩;have hS7:S w7:=(HSB.out _).2 (((HSB.out _).1 (by assumption)).trans (hb7.mono (by have:=((HSB.out _).1 (by assumption)).size;rw[HS1.out] at this;exact this)));have hat7:=hro.at_;refine hK _ _ hS7 ?_;clear hK hro hb7
    try go_simp
    refine zK rfl fun K' hK=> ?_;go_simp;go_at_call 87;refine(HHS.out _ _ _ _ HRL.out hat7).mono ?_;rintro e w8 ⟨rfl,hb8⟩;have hS8:=((HSB.out _).1 hS7).trans (hb8.mono (by have:=((HSB.out _).1 hS7).size;rw[HS1.out] at this;exact this));rw[HBR.out];refine hK _ _ ?_;clear hK hat7 hb8
    try go_simp
    refine aZ 13 rfl (by kernel_rfl) (by kernel_rfl) (·=w8) rfl ?_;dsimp only[List.drop]
    repeat (go_big_quiet_step (fail))
    refine wpQuiet_nil ?_;rintro _ rfl;go_wp2
    go_meet
    case rel=>exact⟨rfl,by simp,hS8⟩
  |false=>
    simp only[Bool.false_eq_true,if_false];refine aj 12 S (by kernel_rfl) ?_;refine zT 0 rfl HSS.out ?_
    try go_simp
    refine zT 1 rfl HSS.out ?_
    try go_simp
    refine zN 2 rfl ?_
    try go_simp
    refine zN 3 rfl ?_
    try go_simp
    refine zN 4 rfl ?_
    try go_simp
    refine zN 5 rfl ?_
    try go_simp
    refine zN 6 rfl ?_
    try go_simp
    refine zT 7 rfl HSS.out ?_
    try go_simp
    refine zT 8 rfl HSS.out ?_
    try go_simp
    refine zL 9 rfl 38 ⟨N+1,0,none⟩ HSC.out underlying38 ?_
    try go_simp
    refine zL 10 rfl 42 ⟨N+1+1,0,none⟩ HSI.out underlying42 ?_
    try go_simp
    refine zO 11 rfl fun K' hK=> ?_;go_simp;go_at_call 88;refine(HRD.out _ ((HSB.out _).1 (by assumption))).mono ?_;rintro e w7 ⟨ro,rc,rfl,hro,hb7⟩;have hS7:S w7:=(HSB.out _).2 (((HSB.out _).1 (by assumption)).trans (hb7.mono (by have:=((HSB.out _).1 (by assumption)).size;rw[HS1.out] at this;exact this)));have hat7:=hro.at_;refine hK _ _ hS7 ?_;clear hK hro hb7
    try go_simp
    refine zK rfl fun K' hK=> ?_;go_simp;go_at_call 87;refine(HHS.out _ _ _ _ HRL.out hat7).mono ?_;rintro e w8 ⟨rfl,hb8⟩;have hS8:=((HSB.out _).1 hS7).trans (hb8.mono (by have:=((HSB.out _).1 hS7).size;rw[HS1.out] at this;exact this));rw[HBR.out];refine hK _ _ ?_;clear hK hat7 hb8
    try go_simp
    refine aZ 13 rfl (by kernel_rfl) (by kernel_rfl) (·=w8) rfl ?_;dsimp only[List.drop]
    repeat (go_big_quiet_step (fail))
    refine wpQuiet_nil ?_;rintro _ rfl;go_wp2
    go_meet
    case rel=>exact⟨rfl,by simp,hS8⟩
 case rest=>
  obtain⟨rfl,rfl,hbc⟩:=hcut;have HBF:=zH (HBN.out wc hbc);have hx:=HBX.out wc hbc;have HV:Ia (∀v,isVar g.vs.length v=true→∃(k b off:Nat) (x:Vr),v=(k:Int)∧k<g.vs.length∧ao=some ⟨b,off,none⟩∧ax g.vs v=(x.ptr,x.tgt)∧∀W,H9 (N+3) W1 W→W.cell? ⟨b,off+k*3,none⟩=some (.bool x.ptr)∧W.cell? ⟨b,off+k*3+1,none⟩=some (.string x.tgt)):=fun v hv=>by
   obtain⟨k,b,off,x,q1,q2,q3,q4,q5,q6,q7⟩:=dN HHJ.out.vars hv;refine⟨k,b,off,x,q1,q2,by rw[←HAO.out];exact q3,q5,fun W hW=> ?_⟩;have hbn:=HBN.out W hW;rw[HN.out] at q4;exact⟨by rw[hbn.cell (p:=⟨b,_,none⟩) (show b<N by omega)];exact q6,by rw[hbn.cell (p:=⟨b,_,none⟩) (show b<N by omega)];exact q7⟩
  have hvl:=HHJ.out.vl;unfold maxLen at hvl;have HO:Ia (∀W b f,zP 51 #[.bool b,.int .i64 f] W (.int .i64 (bM (!b) f))):=fun W b f=>bn b f W;have HBO:Ia (∀W W':H5,H9 (N+3) W1 W→H9 W.heap.size W W'→H9 N w W'):=fun W W' h1 h2=>HBN.out W' (h1.trans (h2.mono (by have:=h1.size;rw[HS1.out] at this;exact this)));obtain⟨B,hB⟩:=zE (bR&&(!wD||bD));rw[hB];cases B with
  |false=>
   have HRR:Ia (R=15):=by unfold Ia;rw[←HR.out];unfold aC;rw[if_neg HNR.out,if_pos (by rw[HTH.out];exact hB)]
   clear hx HV hB;obtain⟨wv,hwv⟩:=zE ((if wD=true then(i.d,true) else(0,false)):Int×Bool);rw[hwv,Bool.not_false];clear hwv HWO;go_wp2;go_ret;rw[HRR.out,HN.out];exact⟨rfl,HBF.out⟩
  |true=>
  rw[Bool.not_true];clear HSB HSC HSI HSS HB2' HWO HWR HR2;rcases HOP.out with hop|hop|hop
  ·
   have ew:wD=true:=by rw[←HWD.out,hop];decide
   subst ew;have ebR:bR=true:=(by simpa using hB:_∧_).1;have ebD:bD=true:=(by simpa using hB:_∧_).2;have hdv:isVar g.vs.length i.d=true:=by have:=HBD.out;rw[ebD] at this;simpa[aI] using this
   have hav:isVar g.vs.length i.a=true:=fD (by rw[HBR.out];exact ebR) (by rw[hop];decide);have hE:=dZ HR HNR HTH (by rw[ebR,ebD];simp);have i0:=hx.i0;rw[hop] at i0;have g7:=hx.g7;have g2:=hx.g2;have i2:=hx.i2;obtain⟨kd,vbd,vod,xd,hkd,hkld,hvd,htd,hcd⟩:=HV.out i.d hdv;have HdC:=zH hcd;obtain⟨d0,d1⟩:=hcd wc hbc;clear hcd;have hkId:(kd:Int)<(g.vs.length:Int):=by omega
   obtain⟨ka,vba,voa,xa,hka,hkla,hva,hta,hca⟩:=HV.out i.a hav;have HaC:=zH hca;obtain⟨a0,a1⟩:=hca wc hbc;clear hca;have hkIa:(ka:Int)<(g.vs.length:Int):=by omega
   subst hvd;simp only[Option.some.injEq,Addr.mk.injEq,and_true] at hva;obtain⟨rfl,rfl⟩:=hva;rw[hka] at i2;have HBP:Ia (∀p:BW wc,H9 (N+3) W1 p.w):=fun p=>hbc.trans (p.h.mono (by have:=hbc.size;rw[HS1.out] at this;exact this));have HXP:Ia (∀p:BW wc,Bx m g i (some ⟨vbd,vod,none⟩) N p.w):=fun p=>HBX.out p.w (HBP.out p);have HOP9:Ia (∀(p:BW wc) b f,zP 51 #[.bool b,.int .i64 f] p.w (.int .i64 (bM (!b) f))):=fun p b f=>bn b f p.w;have HTQ:=zH hta;have HDQ:=zH htd;obtain⟨pa,hpa⟩:=zE xa.ptr;obtain⟨dq,hdq⟩:=zE (((pa,xa.tgt):Ty)==(xd.ptr,xd.tgt));have heq:∀w,(Op.equalIn 10000 32 (.agg #[.bool pa,.string xa.tgt]) (.agg #[.bool xd.ptr,.string xd.tgt])).run prog w= .ok dq w:=fun w=>by rw[dC,hdq]
   rw[hpa] at hta a0;have HRR:Ia (R=bM (pa&&dq) 7):=by unfold Ia;rw[hE];simp only[hop,au,hta,htd,hdq];simp
   have q0:∀p:BW wc,p.w.cell? ⟨N+1,2,none⟩=some (.slice (some ⟨vbd,vod,none⟩) g.vs.length g.c.varsC):=fun p=>(HXP.out p).g2;have q1:∀p:BW wc,p.w.cell? ⟨N+2,2,none⟩=some (.int .i64 (ka:Int)):=fun p=>by rw[←hka];exact(HXP.out p).i2
   have q2:∀p:BW wc,p.w.cell? ⟨vbd,vod+ka*3,none⟩=some (.bool pa):=fun p=>by rw[←hpa];exact(HaC.out p.w (HBP.out p)).1
   have q3:∀p:BW wc,p.w.cell? ⟨vbd,vod+ka*3+1,none⟩=some (.string xa.tgt):=fun p=>(HaC.out p.w (HBP.out p)).2;have q4:∀p:BW wc,p.w.cell? ⟨vbd,vod+kd*3,none⟩=some (.bool xd.ptr):=fun p=>(HdC.out p.w (HBP.out p)).1;have q5:∀p:BW wc,p.w.cell? ⟨vbd,vod+kd*3+1,none⟩=some (.string xd.tgt):=fun p=>(HdC.out p.w (HBP.out p)).2;clear hdq hpa hta htd;simp only[if_true];rw[hkd];clear hop hE hB hx HBX HV;cases pa<;>cases dq
   all_goals
    go_wp2_with fail
    clear i0 g2 i2 a0 a1 d0 d1;refine zQ ?_
    repeat (go_big_quiet_step (first|(go_at_call 51;exact bg (HOP9.out _ _ _))))
    refine wpQuiet_nil ?_;rintro _ ⟨p,rfl⟩;have HF9:=zH (HBN.out p.w (HBP.out p));clear q0 q1 q2 q3 q4 q5;go_wp2;go_ret;rw[HRR.out,HN.out];exact⟨rfl,HF9.out⟩
  ·
   have ew:wD=true:=by rw[←HWD.out,hop];decide
   subst ew;have ebR:bR=true:=(by simpa using hB:_∧_).1;have ebD:bD=true:=(by simpa using hB:_∧_).2;have hdv:isVar g.vs.length i.d=true:=by have:=HBD.out;rw[ebD] at this;simpa[aI] using this
   have hE:=dZ HR HNR HTH (by rw[ebR,ebD];simp);have i0:=hx.i0;rw[hop] at i0;have g7:=hx.g7;have g2:=hx.g2;obtain⟨kd,vbd,vod,xd,hkd,hkld,hvd,htd,hcd⟩:=HV.out i.d hdv;have HdC:=zH hcd;obtain⟨d0,d1⟩:=hcd wc hbc;clear hcd;have hkId:(kd:Int)<(g.vs.length:Int):=by omega
   subst hvd;have HBP:Ia (∀p:BW wc,H9 (N+3) W1 p.w):=fun p=>hbc.trans (p.h.mono (by have:=hbc.size;rw[HS1.out] at this;exact this));have HXP:Ia (∀p:BW wc,Bx m g i (some ⟨vbd,vod,none⟩) N p.w):=fun p=>HBX.out p.w (HBP.out p);have HOP9:Ia (∀(p:BW wc) b f,zP 51 #[.bool b,.int .i64 f] p.w (.int .i64 (bM (!b) f))):=fun p b f=>bn b f p.w;have i4:=hx.i4;have m0:=hx.m0;have hE2:R=if i.f<0 then 15 else match m.ss[i.f.toNat]? with
    |none=>15
    |some s=>bM (ax g.vs i.d==(true,s.s.nm)) 7:=by rw[hE];simp only[hop,au];simp;rfl
   obtain⟨f,hf⟩:=zE i.f;rw[hf] at hE2 i4;have hsl:=HHJ.out.mo.ns;unfold maxLen at hsl
   by_cases hf0:f<0
   ·have HRR:Ia (R=15):=by unfold Ia;rw[hE2,if_pos hf0]
    have e0:decide (f<0)=true:=decide_eq_true hf0;clear hop hE hE2 hB hx HBX HV hf;go_wp2;go_ret;rw[HRR.out,HN.out];exact⟨rfl,HBF.out⟩
   obtain⟨F,rfl⟩:∃F:Nat,f=(F:Int):=⟨f.toNat,by omega⟩
   rw[if_neg hf0,Ho] at hE2
   by_cases hFl:F<m.ss.length
   rotate_left
   ·have HRR:Ia (R=15):=by unfold Ia;rw[hE2,List.getElem?_eq_none (by omega)]
    have hFI:(m.ss.length:Int)≤(F:Int):=by omega
    clear hop hE hE2 hB hx HBX HV hf;go_wp2;go_ret;rw[HRR.out,HN.out];exact⟨rfl,HBF.out⟩
   have hFI:(F:Int)<(m.ss.length:Int):=by omega
   obtain⟨st,hst⟩:∃s,m.ss[F]?=some s:=⟨_,GN hFl⟩
   rw[hst,htd] at hE2;obtain⟨sb,so,hsA,hsb,hsc⟩:=HHJ.out.mo.srow (by intro e;rw[e] at hFl;simp at hFl);rw[hsA] at m0;obtain⟨dq,hdq⟩:=zE (((xd.ptr,xd.tgt):Ty)==(true,st.s.nm));have heq:∀w,(Op.equalIn 10000 32 (.agg #[.bool xd.ptr,.string xd.tgt]) (.agg #[.bool true,.string st.s.nm])).run prog w= .ok dq w:=fun w=>by rw[dC,hdq]
   have HRR:Ia (R=bM dq 7):=by unfold Ia;rw[hE2,←hdq]
   have q0:∀p:BW wc,p.w.cell? ⟨N+1,2,none⟩=some (.slice (some ⟨vbd,vod,none⟩) g.vs.length g.c.varsC):=fun p=>(HXP.out p).g2;have q1:∀p:BW wc,p.w.cell? ⟨N+2,4,none⟩=some (.int .i64 (F:Int)):=fun p=>by rw[←hf];exact(HXP.out p).i4
   have q2:∀p:BW wc,p.w.cell? ⟨N,0,none⟩=some (.slice (some ⟨sb,so,none⟩) m.ss.length m.sC):=fun p=>by rw[←hsA];exact(HXP.out p).m0
   have q3:∀p:BW wc,p.w.cell? ⟨sb,so+F*4,none⟩=some (.string st.s.nm):=fun p=>by
    have hbn:=HBN.out p.w (HBP.out p);rw[HN.out] at hsb;rw[hbn.cell (p:=⟨sb,_,none⟩) (show sb<N by omega)];exact hsc F st hst 0 _ rfl
   have q4:∀p:BW wc,p.w.cell? ⟨vbd,vod+kd*3,none⟩=some (.bool xd.ptr):=fun p=>(HdC.out p.w (HBP.out p)).1;have q5:∀p:BW wc,p.w.cell? ⟨vbd,vod+kd*3+1,none⟩=some (.string xd.tgt):=fun p=>(HdC.out p.w (HBP.out p)).2;clear hdq htd hE2 hf hst hsA hsb hsc;simp only[if_true];rw[hkd];clear hop hE hB hx HBX HV;cases dq
   all_goals
    go_wp2_with fail
    clear i0 g2 i4 m0 d0 d1;refine zQ ?_
    repeat (go_big_quiet_step (first|(go_at_call 51;exact bg (HOP9.out _ _ _))))
    refine wpQuiet_nil ?_;rintro _ ⟨p,rfl⟩;have HF9:=zH (HBN.out p.w (HBP.out p));clear q0 q1 q2 q3 q4 q5;go_wp2;go_ret;rw[HRR.out,HN.out];exact⟨rfl,HF9.out⟩
  ·
   have ew:wD=false:=by rw[←HWD.out,hop];decide
   subst ew;have ebR:bR=true:=by simpa using hB
   have hav:isVar g.vs.length i.a=true:=fD (by rw[HBR.out];exact ebR) (by rw[hop];decide);have hE:=dZ HR HNR HTH (by rw[ebR];simp);have i0:=hx.i0;rw[hop] at i0;have g7:=hx.g7;have g2:=hx.g2;have i2:=hx.i2;obtain⟨ka,vba,voa,xa,hka,hkla,hva,hta,hca⟩:=HV.out i.a hav;have HaC:=zH hca;obtain⟨a0,a1⟩:=hca wc hbc;clear hca;have hkIa:(ka:Int)<(g.vs.length:Int):=by omega
   subst hva;rw[hka] at i2;have HBP:Ia (∀p:BW wc,H9 (N+3) W1 p.w):=fun p=>hbc.trans (p.h.mono (by have:=hbc.size;rw[HS1.out] at this;exact this));have HXP:Ia (∀p:BW wc,Bx m g i (some ⟨vba,voa,none⟩) N p.w):=fun p=>HBX.out p.w (HBP.out p);have HOP9:Ia (∀(p:BW wc) b f,zP 51 #[.bool b,.int .i64 f] p.w (.int .i64 (bM (!b) f))):=fun p b f=>bn b f p.w;obtain⟨dq,hdq⟩:=zE (((xa.ptr,xa.tgt):Ty)==(g.c.rp,g.c.rto));have heq:∀w,(Op.equalIn 10000 32 (.agg #[.bool xa.ptr,.string xa.tgt]) (.agg #[.bool g.c.rp,.string g.c.rto])).run prog w= .ok dq w:=fun w=>by rw[dC,hdq]
   have HRR:Ia (R=bM dq 7):=by unfold Ia;rw[hE,hta,←hdq];simp only[hop];simp[Fn.ret]
   have q0:∀p:BW wc,p.w.cell? ⟨N+1,2,none⟩=some (.slice (some ⟨vba,voa,none⟩) g.vs.length g.c.varsC):=fun p=>(HXP.out p).g2;have q1:∀p:BW wc,p.w.cell? ⟨N+2,2,none⟩=some (.int .i64 (ka:Int)):=fun p=>by rw[←hka];exact(HXP.out p).i2
   have q2:∀p:BW wc,p.w.cell? ⟨vba,voa+ka*3,none⟩=some (.bool xa.ptr):=fun p=>(HaC.out p.w (HBP.out p)).1;have q3:∀p:BW wc,p.w.cell? ⟨vba,voa+ka*3+1,none⟩=some (.string xa.tgt):=fun p=>(HaC.out p.w (HBP.out p)).2;have q4:∀p:BW wc,p.w.cell? ⟨N+1,3,none⟩=some (.bool g.c.rp):=fun p=>(HXP.out p).g3;have q5:∀p:BW wc,p.w.cell? ⟨N+1,3+1,none⟩=some (.string g.c.rto):=fun p=>(HXP.out p).g4;clear hdq hta;clear hop hE hB hx HBX HV;cases dq
   all_goals
    go_wp2_with fail
    clear i0 g2 i2 a0 a1;refine zQ ?_
    repeat (go_big_quiet_step (first|(go_at_call 51;exact bg (HOP9.out _ _ _))))
    refine wpQuiet_nil ?_;rintro _ ⟨p,rfl⟩;have HF9:=zH (HBN.out p.w (HBP.out p));clear q0 q1 q2 q3 q4 q5;go_wp2;go_ret;rw[HRR.out,HN.out];exact⟨rfl,HF9.out⟩
theorem tO (m:Mo)(g:Fn)(i:Ins)(w:H5)(h:nC w m g)(hi:i.args_in w)(hal:i.args.length≤40)(hkn:∀v,isVar g.vs.length v=true→m.known (ax g.vs v)=true)(hop:i.op=7∨i.op=8∨i.op=10∨i.op=11):
  zP 49 #[.agg m.cells,.agg g.cells,.agg i.cells] w (.int .i64 (aC m g i)):=by
 obtain⟨ao,N,W1,hN,hs1,hW1,HN,HS1,HGC,HAO,HBX,HBN,HJ,HAI,HHS,HWR,HRD,HRL⟩:=fF h hi hal;obtain⟨wD,bD,bR,o1,o2,HNR,HBD,HBR,HWD,HWO,HTH⟩:=fJ (g:=g) (i:=i) (by omega) (by omega);rw[HGC.out];simp only[Mo.cells,gc,Ins.cells] at hW1⊢;have HW1:=zH hW1;obtain⟨R,hR⟩:=zE (aC m g i);rw[hR];have HR:=zH hR;have HKN:=zH hkn;have HHJ:=zH h;have HOP:=zH hop;have hx1:=HBX.out W1 (Hw _ _);have HR2:=zH hx1.ir;clear h hi hal hkn hW1 hR hop;have hs1':W1.heap.size=N+3:=hs1;go_enter func49,ntmps49
 go_upto_region 1 with(fail)
 rw[HW1.out];clear HW1 hx1 hN
 go_upto_region 2 with(first
  |(refine wpList_load_row rfl 42 _ rfl (N+2) rfl 42 _ (0,0) _ HR2.out underlying42 rfl (by kernel_rfl) ?_)
  |(go_at_call 86;refine(HWR.out _).mono ?_;rintro e w2 ⟨rfl,hb2⟩;have HB2:=zH hb2;clear hb2))
 have hb2:H9 (N+3) W1 w2:=by have:=HB2.out;rwa [hs1'] at this
 have i0:=(HBX.out w2 hb2).i0;have HB2':=zH hb2;clear hb2 hs1' hs1 HB2;rw[HWO.out]
 go_upto_region 4 with(fail)
 clear i0 o1 o2;obtain⟨S,hS⟩:∃S:H5→Prop,S=H9 (N+3) W1:=⟨_,rfl⟩
 have HSB:Ia (∀w',S w'↔H9 (N+3) W1 w'):=fun w'=>by rw[hS]
 have HSC:Ia (∀w',S w'→∀j u,(#[.string g.c.nm,.int .i64 g.c.par,.slice ao g.vs.length g.c.varsC,.bool g.c.rp,.string g.c.rto,.int .i64 g.c.rcl,.slice g.c.fromA g.c.nfrom g.c.fromC,.slice g.c.insA g.c.ins.length g.c.insC]:Array Value).toList[j]?=some u→w'.cell? ((⟨N+1,0,none⟩:Addr).add j)=some u):=fun w' h=>cK (HBX.out w' ((HSB.out w').1 h)).gr;have HSI:Ia (∀w',S w'→∀j u,(#[.int .i64 i.op,.int .i64 i.d,.int .i64 i.a,.int .i64 i.b,.int .i64 i.f,.int .i64 i.n,.string i.sign,i.argsV,i.modeV,.int .i64 i.tI,.int .i64 i.els,.int .i64 i.ln,.int .i64 i.cl]:Array Value).toList[j]?=some u→w'.cell? ((⟨N+1+1,0,none⟩:Addr).add j)=some u):=fun w' h=>cK (HBX.out w' ((HSB.out w').1 h)).ir;have HSS:Ia (∀w',S w'→True∧True):=fun _ _=>⟨trivial,trivial⟩
 clear hS
 go_cut [7,37] from 23 to 37 (fun d b wc=>d= .int .i64 (if wD=true then(i.d,true) else(0,false)).1∧b= .bool (!(bR&&(!wD||bD)))∧H9 (N+3) W1 wc)
 case first=>
  have hS0:S w2.drew:=(HSB.out _).2 HB2'.out.drew;cases wD with
  |true=>
   simp only[if_true];refine aj 5 S (by kernel_rfl) ?_;refine zT 0 rfl HSS.out ?_
   try go_simp
   refine zT 1 rfl HSS.out ?_
   try go_simp
   refine zL 2 rfl 38 ⟨N+1,0,none⟩ HSC.out underlying38 ?_
   try go_simp
   refine zT 3 rfl HSS.out ?_
   try go_simp
   refine zO 4 rfl fun K' hK=> ?_;go_simp;have hS4:∀c,S (w2.alloc c).drew:=fun c=>(HSB.out _).2 ((HB2'.out.alloc (by have:=HB2'.out.size;rw[HS1.out] at this;exact this) _).drew);have hat4:ak (w2.alloc (.cells #[.int .i64 i.d] 3)).drew (some ⟨w2.heap.size,0,none⟩) [i.d]:=ak.one w2 i.d rfl;refine hK _ _ (hS4 _) ?_;clear hK
   try go_simp
   refine zK rfl fun K' hK=> ?_;go_simp;go_at_call 87;refine(HHS.out _ (some ⟨w2.heap.size,0,none⟩) 1 [i.d] (by simp) hat4).mono ?_;rintro e w5 ⟨rfl,hb5⟩;have hS5:S w5:=(HSB.out _).2 (((HSB.out _).1 (hS4 _)).trans (hb5.mono (by have:=((HSB.out _).1 (hS4 (.cells #[.int .i64 i.d] 3))).size;rw[HS1.out] at this;exact this)));rw[HBD.out];refine hK _ _ ?_;clear hK hb5 hS4 hS0 hat4
   try go_simp
   cases bD with
   |false=>
    refine aZ 6 rfl (by kernel_rfl) (by kernel_rfl) (·=w5) rfl ?_;dsimp only[List.drop]
    repeat (go_big_quiet_step (fail))
    refine wpQuiet_nil ?_;rintro _ rfl;go_wp2
    go_meet
    case rel=>exact⟨rfl,by simp,(HSB.out _).1 hS5⟩
   |true=>
    refine ek (S:=S) (k:=12) _ _ _ _ ?_;refine zT 6 rfl HSS.out ?_
    try go_simp
    refine zT 7 rfl HSS.out ?_
    try go_simp
    refine zT 8 rfl HSS.out ?_
    try go_simp
    refine zL 9 rfl 38 ⟨N+1,0,none⟩ HSC.out underlying38 ?_
    try go_simp
    refine zL 10 rfl 42 ⟨N+1+1,0,none⟩ HSI.out underlying42 ?_
    try go_simp
    refine zO 11 rfl fun K' hK=> ?_;go_simp;go_at_call 88;refine(HRD.out _ ((HSB.out _).1 (by assumption))).mono ?_;rintro e w7 ⟨ro,rc,rfl,hro,hb7⟩;have hS7:S w7:=(HSB.out _).2 (((HSB.out _).1 (by assumption)).trans (hb7.mono (by have:=((HSB.out _).1 (by assumption)).size;rw[HS1.out] at this;exact this)));have hat7:=hro.at_;refine hK _ _ hS7 ?_;clear hK hro hb7
    try go_simp
    refine zK rfl fun K' hK=> ?_;go_simp;go_at_call 87;refine(HHS.out _ _ _ _ HRL.out hat7).mono ?_;rintro e w8 ⟨rfl,hb8⟩;have hS8:=((HSB.out _).1 hS7).trans (hb8.mono (by have:=((HSB.out _).1 hS7).size;rw[HS1.out] at this;exact this));rw[HBR.out];refine hK _ _ ?_;clear hK hat7 hb8
    try go_simp
    refine aZ 13 rfl (by kernel_rfl) (by kernel_rfl) (·=w8) rfl ?_;dsimp only[List.drop]
    repeat (go_big_quiet_step (fail))
    refine wpQuiet_nil ?_;rintro _ rfl;go_wp2
    go_meet
    case rel=>exact⟨rfl,by simp,hS8⟩
  |false=>
    simp only[Bool.false_eq_true,if_false];refine aj 12 S (by kernel_rfl) ?_;refine zT 0 rfl HSS.out ?_
    try go_simp
    refine zT 1 rfl HSS.out ?_
    try go_simp
    refine zN 2 rfl ?_
    try go_simp
    refine zN 3 rfl ?_
    try go_simp
    refine zN 4 rfl ?_
    try go_simp
    refine zN 5 rfl ?_
    try go_simp
    refine zN 6 rfl ?_
    try go_simp
    refine zT 7 rfl HSS.out ?_
    try go_simp
    refine zT 8 rfl HSS.out ?_
    try go_simp
    refine zL 9 rfl 38 ⟨N+1,0,none⟩ HSC.out underlying38 ?_
    try go_simp
    refine zL 10 rfl 42 ⟨N+1+1,0,none⟩ HSI.out underlying42 ?_
    try go_simp
    refine zO 11 rfl fun K' hK=> ?_;go_simp;go_at_call 88;refine(HRD.out _ ((HSB.out _).1 (by assumption))).mono ?_;rintro e w7 ⟨ro,rc,rfl,hro,hb7⟩;have hS7:S w7:=(HSB.out _).2 (((HSB.out _).1 (by assumption)).trans (hb7.mono (by have:=((HSB.out _).1 (by assumption)).size;rw[HS1.out] at this;exact this)));have hat7:=hro.at_;refine hK _ _ hS7 ?_;clear hK hro hb7
    try go_simp
    refine zK rfl fun K' hK=> ?_;go_simp;go_at_call 87;refine(HHS.out _ _ _ _ HRL.out hat7).mono ?_;rintro e w8 ⟨rfl,hb8⟩;have hS8:=((HSB.out _).1 hS7).trans (hb8.mono (by have:=((HSB.out _).1 hS7).size;rw[HS1.out] at this;exact this));rw[HBR.out];refine hK _ _ ?_;clear hK hat7 hb8
    try go_simp
    refine aZ 13 rfl (by kernel_rfl) (by kernel_rfl) (·=w8) rfl ?_;dsimp only[List.drop]
    repeat (go_big_quiet_step (fail))
    refine wpQuiet_nil ?_;rintro _ rfl;go_wp2
    go_meet
    case rel=>exact⟨rfl,by simp,hS8⟩
 case rest=>
  obtain⟨rfl,rfl,hbc⟩:=hcut;have HBF:=zH (HBN.out wc hbc);have hx:=HBX.out wc hbc;have HV:Ia (∀v,isVar g.vs.length v=true→∃(k b off:Nat) (x:Vr),v=(k:Int)∧k<g.vs.length∧ao=some ⟨b,off,none⟩∧ax g.vs v=(x.ptr,x.tgt)∧∀W,H9 (N+3) W1 W→W.cell? ⟨b,off+k*3,none⟩=some (.bool x.ptr)∧W.cell? ⟨b,off+k*3+1,none⟩=some (.string x.tgt)):=fun v hv=>by
   obtain⟨k,b,off,x,q1,q2,q3,q4,q5,q6,q7⟩:=dN HHJ.out.vars hv;refine⟨k,b,off,x,q1,q2,by rw[←HAO.out];exact q3,q5,fun W hW=> ?_⟩;have hbn:=HBN.out W hW;rw[HN.out] at q4;exact⟨by rw[hbn.cell (p:=⟨b,_,none⟩) (show b<N by omega)];exact q6,by rw[hbn.cell (p:=⟨b,_,none⟩) (show b<N by omega)];exact q7⟩
  have hvl:=HHJ.out.vl;unfold maxLen at hvl;have HO:Ia (∀W b f,zP 51 #[.bool b,.int .i64 f] W (.int .i64 (bM (!b) f))):=fun W b f=>bn b f W;have HBO:Ia (∀W W':H5,H9 (N+3) W1 W→H9 W.heap.size W W'→H9 N w W'):=fun W W' h1 h2=>HBN.out W' (h1.trans (h2.mono (by have:=h1.size;rw[HS1.out] at this;exact this)));obtain⟨B,hB⟩:=zE (bR&&(!wD||bD));rw[hB];cases B with
  |false=>
   have HRR:Ia (R=15):=by unfold Ia;rw[←HR.out];unfold aC;rw[if_neg HNR.out,if_pos (by rw[HTH.out];exact hB)]
   clear hx HV hB;obtain⟨wv,hwv⟩:=zE ((if wD=true then(i.d,true) else(0,false)):Int×Bool);rw[hwv,Bool.not_false];clear hwv HWO;go_wp2;go_ret;rw[HRR.out,HN.out];exact⟨rfl,HBF.out⟩
  |true=>
  rw[Bool.not_true];clear HSB HSC HSI HSS HB2' HWO HWR HR2;rcases HOP.out with hop|hop|hop|hop
  ·
   have ew:wD=true:=by rw[←HWD.out,hop];decide
   subst ew;have ebR:bR=true:=(by simpa using hB:_∧_).1;have ebD:bD=true:=(by simpa using hB:_∧_).2;have hdv:isVar g.vs.length i.d=true:=by have:=HBD.out;rw[ebD] at this;simpa[aI] using this
   have hav:isVar g.vs.length i.a=true:=fD (by rw[HBR.out];exact ebR) (by rw[hop];decide);have hE:=dZ HR HNR HTH (by rw[ebR,ebD];simp);have i0:=hx.i0;rw[hop] at i0;have g7:=hx.g7;have g2:=hx.g2;have i2:=hx.i2;obtain⟨ka,vba,voa,xa,hka,hkla,hva,hta,hca⟩:=HV.out i.a hav;have HaC:=zH hca;obtain⟨a0,a1⟩:=hca wc hbc;clear hca;have hkIa:(ka:Int)<(g.vs.length:Int):=by omega
   obtain⟨kd,vbd,vod,xd,hkd,hkld,hvd,htd,hcd⟩:=HV.out i.d hdv;have HdC:=zH hcd;obtain⟨d0,d1⟩:=hcd wc hbc;clear hcd;have hkId:(kd:Int)<(g.vs.length:Int):=by omega
   have hE2:R=cu m g.vs i i.d false:=by rw[hE];simp[hop,au]
   have HRR:=zH hE2;have hcl:=wU m g i wc (HJ.out wc hbc) hop hav hdv (HKN.out i.a hav);rw[←hE2,HGC.out] at hcl;simp only[Mo.cells,gc,Ins.cells] at hcl;have HCL:=zH hcl;have m0:=hx.m0;have m1:=hx.m1;have HG:=zH hx.gr;have HI:=zH hx.ir;clear hE2 hcl a0 a1 d0 d1 hka hkla hva hta hkIa hkd hkld hvd htd hkId;clear hop hE hB hx HBX HV g2 i2
   go_wp2_with (first
    |(refine wpList_load_row rfl 38 _ rfl (N+1) rfl 38 _ (0,0) _ HG.out underlying38 rfl (by kernel_rfl) ?_)
    |(refine wpList_load_row rfl 42 _ rfl (N+2) rfl 42 _ (0,0) _ HI.out underlying42 rfl (by kernel_rfl) ?_)
    |(go_at_call 90;refine HCL.out.mono ?_;rintro e w9 ⟨rfl,hb9⟩;have HB9:=zH (HBO.out _ _ hbc hb9);clear hb9))
   go_ret;rw[HN.out];exact⟨rfl,HB9.out⟩
  ·
   have ew:wD=false:=by rw[←HWD.out,hop];decide
   subst ew;have ebR:bR=true:=by simpa using hB
   have hav:isVar g.vs.length i.a=true:=fD (by rw[HBR.out];exact ebR) (by rw[hop];decide);have hbv:isVar g.vs.length i.b=true:=wX (by rw[HBR.out];exact ebR) (by rw[hop];decide);have hE:=dZ HR HNR HTH (by rw[ebR];simp);have i0:=hx.i0;rw[hop] at i0;have g7:=hx.g7;have g2:=hx.g2;have i2:=hx.i2;have i3:=hx.i3;obtain⟨ka,vba,voa,xa,hka,hkla,hva,hta,hca⟩:=HV.out i.a hav;have HaC:=zH hca;obtain⟨a0,a1⟩:=hca wc hbc;clear hca;have hkIa:(ka:Int)<(g.vs.length:Int):=by omega
   obtain⟨kb,vbb,vob,xb,hkb,hklb,hvb,htb,hcb⟩:=HV.out i.b hbv;have HbC:=zH hcb;obtain⟨b0,b1⟩:=hcb wc hbc;clear hcb;have hkIb:(kb:Int)<(g.vs.length:Int):=by omega
   have hE2:R=cu m g.vs i i.b false:=by rw[hE];simp[hop,au]
   have HRR:=zH hE2;have hcl:=wV m g i wc (HJ.out wc hbc) hop hav hbv (HKN.out i.a hav);rw[←hE2,HGC.out] at hcl;simp only[Mo.cells,gc,Ins.cells] at hcl;have HCL:=zH hcl;have m0:=hx.m0;have m1:=hx.m1;have HG:=zH hx.gr;have HI:=zH hx.ir;clear hE2 hcl a0 a1 b0 b1 hka hkla hva hta hkIa hkb hklb hvb htb hkIb;clear hop hE hB hx HBX HV g2 i2 i3
   go_wp2_with (first
    |(refine wpList_load_row rfl 38 _ rfl (N+1) rfl 38 _ (0,0) _ HG.out underlying38 rfl (by kernel_rfl) ?_)
    |(refine wpList_load_row rfl 42 _ rfl (N+2) rfl 42 _ (0,0) _ HI.out underlying42 rfl (by kernel_rfl) ?_)
    |(go_at_call 90;refine HCL.out.mono ?_;rintro e w9 ⟨rfl,hb9⟩;have HB9:=zH (HBO.out _ _ hbc hb9);clear hb9))
   go_ret;rw[HN.out];exact⟨rfl,HB9.out⟩
  ·
   have ew:wD=true:=by rw[←HWD.out,hop];decide
   subst ew;have ebR:bR=true:=(by simpa using hB:_∧_).1;have ebD:bD=true:=(by simpa using hB:_∧_).2;have hdv:isVar g.vs.length i.d=true:=by have:=HBD.out;rw[ebD] at this;simpa[aI] using this
   have hav:isVar g.vs.length i.a=true:=fD (by rw[HBR.out];exact ebR) (by rw[hop];decide);have hE:=dZ HR HNR HTH (by rw[ebR,ebD];simp);have i0:=hx.i0;rw[hop] at i0;have g7:=hx.g7;have g2:=hx.g2;have i2:=hx.i2;obtain⟨ka,vba,voa,xa,hka,hkla,hva,hta,hca⟩:=HV.out i.a hav;have HaC:=zH hca;obtain⟨a0,a1⟩:=hca wc hbc;clear hca;have hkIa:(ka:Int)<(g.vs.length:Int):=by omega
   obtain⟨kd,vbd,vod,xd,hkd,hkld,hvd,htd,hcd⟩:=HV.out i.d hdv;have HdC:=zH hcd;obtain⟨d0,d1⟩:=hcd wc hbc;clear hcd;have hkId:(kd:Int)<(g.vs.length:Int):=by omega
   have hE2:R=cu m g.vs i i.d true:=by rw[hE];simp[hop,au]
   have HRR:=zH hE2;have hcl:=tF m g i wc (HJ.out wc hbc) hop hav hdv (HKN.out i.a hav);rw[←hE2,HGC.out] at hcl;simp only[Mo.cells,gc,Ins.cells] at hcl;have HCL:=zH hcl;have m0:=hx.m0;have m1:=hx.m1;have HG:=zH hx.gr;have HI:=zH hx.ir;clear hE2 hcl a0 a1 d0 d1 hka hkla hva hta hkIa hkd hkld hvd htd hkId;clear hop hE hB hx HBX HV g2 i2
   go_wp2_with (first
    |(refine wpList_load_row rfl 38 _ rfl (N+1) rfl 38 _ (0,0) _ HG.out underlying38 rfl (by kernel_rfl) ?_)
    |(refine wpList_load_row rfl 42 _ rfl (N+2) rfl 42 _ (0,0) _ HI.out underlying42 rfl (by kernel_rfl) ?_)
    |(go_at_call 90;refine HCL.out.mono ?_;rintro e w9 ⟨rfl,hb9⟩;have HB9:=zH (HBO.out _ _ hbc hb9);clear hb9))
   go_ret;rw[HN.out];exact⟨rfl,HB9.out⟩
  ·
   have ew:wD=false:=by rw[←HWD.out,hop];decide
   subst ew;have ebR:bR=true:=by simpa using hB
   have hav:isVar g.vs.length i.a=true:=fD (by rw[HBR.out];exact ebR) (by rw[hop];decide);have hbv:isVar g.vs.length i.b=true:=wX (by rw[HBR.out];exact ebR) (by rw[hop];decide);have hE:=dZ HR HNR HTH (by rw[ebR];simp);have i0:=hx.i0;rw[hop] at i0;have g7:=hx.g7;have g2:=hx.g2;have i2:=hx.i2;have i3:=hx.i3;obtain⟨ka,vba,voa,xa,hka,hkla,hva,hta,hca⟩:=HV.out i.a hav;have HaC:=zH hca;obtain⟨a0,a1⟩:=hca wc hbc;clear hca;have hkIa:(ka:Int)<(g.vs.length:Int):=by omega
   obtain⟨kb,vbb,vob,xb,hkb,hklb,hvb,htb,hcb⟩:=HV.out i.b hbv;have HbC:=zH hcb;obtain⟨b0,b1⟩:=hcb wc hbc;clear hcb;have hkIb:(kb:Int)<(g.vs.length:Int):=by omega
   have hE2:R=cu m g.vs i i.b true:=by rw[hE];simp[hop,au]
   have HRR:=zH hE2;have hcl:=tH m g i wc (HJ.out wc hbc) hop hav hbv (HKN.out i.a hav);rw[←hE2,HGC.out] at hcl;simp only[Mo.cells,gc,Ins.cells] at hcl;have HCL:=zH hcl;have m0:=hx.m0;have m1:=hx.m1;have HG:=zH hx.gr;have HI:=zH hx.ir;clear hE2 hcl a0 a1 b0 b1 hka hkla hva hta hkIa hkb hklb hvb htb hkIb;clear hop hE hB hx HBX HV g2 i2 i3
   go_wp2_with (first
    |(refine wpList_load_row rfl 38 _ rfl (N+1) rfl 38 _ (0,0) _ HG.out underlying38 rfl (by kernel_rfl) ?_)
    |(refine wpList_load_row rfl 42 _ rfl (N+2) rfl 42 _ (0,0) _ HI.out underlying42 rfl (by kernel_rfl) ?_)
    |(go_at_call 90;refine HCL.out.mono ?_;rintro e w9 ⟨rfl,hb9⟩;have HB9:=zH (HBO.out _ _ hbc hb9);clear hb9))
   go_ret;rw[HN.out];exact⟨rfl,HB9.out⟩
theorem tQ (m:Mo)(g:Fn)(i:Ins)(w:H5)(h:nC w m g)(hi:i.args_in w)(hal:i.args.length≤40)(hkn:∀v,isVar g.vs.length v=true→m.known (ax g.vs v)=true)(hop:i.op=15):
  zP 49 #[.agg m.cells,.agg g.cells,.agg i.cells] w (.int .i64 (aC m g i)):=by
 obtain⟨ao,N,W1,hN,hs1,hW1,HN,HS1,HGC,HAO,HBX,HBN,HJ,HAI,HHS,HWR,HRD,HRL⟩:=fF h hi hal;obtain⟨wD,bD,bR,o1,o2,HNR,HBD,HBR,HWD,HWO,HTH⟩:=fJ (g:=g) (i:=i) (by omega) (by omega);rw[HGC.out];simp only[Mo.cells,gc,Ins.cells] at hW1⊢;have HW1:=zH hW1;obtain⟨R,hR⟩:=zE (aC m g i);rw[hR];have HR:=zH hR;have HALL:=zH hal;have HHJ:=zH h;have HOP:=zH hop;have hx1:=HBX.out W1 (Hw _ _);have HR2:=zH hx1.ir;clear h hi hal hkn hW1 hR hop;have hs1':W1.heap.size=N+3:=hs1;go_enter func49,ntmps49
 go_upto_region 1 with(fail)
 rw[HW1.out];clear HW1 hx1 hN
 go_upto_region 2 with(first
  |(refine wpList_load_row rfl 42 _ rfl (N+2) rfl 42 _ (0,0) _ HR2.out underlying42 rfl (by kernel_rfl) ?_)
  |(go_at_call 86;refine(HWR.out _).mono ?_;rintro e w2 ⟨rfl,hb2⟩;have HB2:=zH hb2;clear hb2))
 have hb2:H9 (N+3) W1 w2:=by have:=HB2.out;rwa [hs1'] at this
 have i0:=(HBX.out w2 hb2).i0;have HB2':=zH hb2;clear hb2 hs1' hs1 HB2;rw[HWO.out]
 go_upto_region 4 with(fail)
 clear i0 o1 o2;obtain⟨S,hS⟩:∃S:H5→Prop,S=H9 (N+3) W1:=⟨_,rfl⟩
 have HSB:Ia (∀w',S w'↔H9 (N+3) W1 w'):=fun w'=>by rw[hS]
 have HSC:Ia (∀w',S w'→∀j u,(#[.string g.c.nm,.int .i64 g.c.par,.slice ao g.vs.length g.c.varsC,.bool g.c.rp,.string g.c.rto,.int .i64 g.c.rcl,.slice g.c.fromA g.c.nfrom g.c.fromC,.slice g.c.insA g.c.ins.length g.c.insC]:Array Value).toList[j]?=some u→w'.cell? ((⟨N+1,0,none⟩:Addr).add j)=some u):=fun w' h=>cK (HBX.out w' ((HSB.out w').1 h)).gr;have HSI:Ia (∀w',S w'→∀j u,(#[.int .i64 i.op,.int .i64 i.d,.int .i64 i.a,.int .i64 i.b,.int .i64 i.f,.int .i64 i.n,.string i.sign,i.argsV,i.modeV,.int .i64 i.tI,.int .i64 i.els,.int .i64 i.ln,.int .i64 i.cl]:Array Value).toList[j]?=some u→w'.cell? ((⟨N+1+1,0,none⟩:Addr).add j)=some u):=fun w' h=>cK (HBX.out w' ((HSB.out w').1 h)).ir;have HSS:Ia (∀w',S w'→True∧True):=fun _ _=>⟨trivial,trivial⟩
 clear hS
 go_cut [7,37] from 23 to 37 (fun d b wc=>d= .int .i64 (if wD=true then(i.d,true) else(0,false)).1∧b= .bool (!(bR&&(!wD||bD)))∧H9 (N+3) W1 wc)
 case first=>
  have hS0:S w2.drew:=(HSB.out _).2 HB2'.out.drew;cases wD with
  |true=>
   simp only[if_true];refine aj 5 S (by kernel_rfl) ?_;refine zT 0 rfl HSS.out ?_
   try go_simp
   refine zT 1 rfl HSS.out ?_
   try go_simp
   refine zL 2 rfl 38 ⟨N+1,0,none⟩ HSC.out underlying38 ?_
   try go_simp
   refine zT 3 rfl HSS.out ?_
   try go_simp
   refine zO 4 rfl fun K' hK=> ?_;go_simp;have hS4:∀c,S (w2.alloc c).drew:=fun c=>(HSB.out _).2 ((HB2'.out.alloc (by have:=HB2'.out.size;rw[HS1.out] at this;exact this) _).drew);have hat4:ak (w2.alloc (.cells #[.int .i64 i.d] 3)).drew (some ⟨w2.heap.size,0,none⟩) [i.d]:=ak.one w2 i.d rfl;refine hK _ _ (hS4 _) ?_;clear hK
   try go_simp
   refine zK rfl fun K' hK=> ?_;go_simp;go_at_call 87;refine(HHS.out _ (some ⟨w2.heap.size,0,none⟩) 1 [i.d] (by simp) hat4).mono ?_;rintro e w5 ⟨rfl,hb5⟩;have hS5:S w5:=(HSB.out _).2 (((HSB.out _).1 (hS4 _)).trans (hb5.mono (by have:=((HSB.out _).1 (hS4 (.cells #[.int .i64 i.d] 3))).size;rw[HS1.out] at this;exact this)));rw[HBD.out];refine hK _ _ ?_;clear hK hb5 hS4 hS0 hat4
   try go_simp
   cases bD with
   |false=>
    refine aZ 6 rfl (by kernel_rfl) (by kernel_rfl) (·=w5) rfl ?_;dsimp only[List.drop]
    repeat (go_big_quiet_step (fail))
    refine wpQuiet_nil ?_;rintro _ rfl;go_wp2
    go_meet
    case rel=>exact⟨rfl,by simp,(HSB.out _).1 hS5⟩
   |true=>
    refine ek (S:=S) (k:=12) _ _ _ _ ?_;refine zT 6 rfl HSS.out ?_
    try go_simp
    refine zT 7 rfl HSS.out ?_
    try go_simp
    refine zT 8 rfl HSS.out ?_
    try go_simp
    refine zL 9 rfl 38 ⟨N+1,0,none⟩ HSC.out underlying38 ?_
    try go_simp
    refine zL 10 rfl 42 ⟨N+1+1,0,none⟩ HSI.out underlying42 ?_
    try go_simp
    refine zO 11 rfl fun K' hK=> ?_;go_simp;go_at_call 88;refine(HRD.out _ ((HSB.out _).1 (by assumption))).mono ?_;rintro e w7 ⟨ro,rc,rfl,hro,hb7⟩;have hS7:S w7:=(HSB.out _).2 (((HSB.out _).1 (by assumption)).trans (hb7.mono (by have:=((HSB.out _).1 (by assumption)).size;rw[HS1.out] at this;exact this)));have hat7:=hro.at_;refine hK _ _ hS7 ?_;clear hK hro hb7
    try go_simp
    refine zK rfl fun K' hK=> ?_;go_simp;go_at_call 87;refine(HHS.out _ _ _ _ HRL.out hat7).mono ?_;rintro e w8 ⟨rfl,hb8⟩;have hS8:=((HSB.out _).1 hS7).trans (hb8.mono (by have:=((HSB.out _).1 hS7).size;rw[HS1.out] at this;exact this));rw[HBR.out];refine hK _ _ ?_;clear hK hat7 hb8
    try go_simp
    refine aZ 13 rfl (by kernel_rfl) (by kernel_rfl) (·=w8) rfl ?_;dsimp only[List.drop]
    repeat (go_big_quiet_step (fail))
    refine wpQuiet_nil ?_;rintro _ rfl;go_wp2
    go_meet
    case rel=>exact⟨rfl,by simp,hS8⟩
  |false=>
    simp only[Bool.false_eq_true,if_false];refine aj 12 S (by kernel_rfl) ?_;refine zT 0 rfl HSS.out ?_
    try go_simp
    refine zT 1 rfl HSS.out ?_
    try go_simp
    refine zN 2 rfl ?_
    try go_simp
    refine zN 3 rfl ?_
    try go_simp
    refine zN 4 rfl ?_
    try go_simp
    refine zN 5 rfl ?_
    try go_simp
    refine zN 6 rfl ?_
    try go_simp
    refine zT 7 rfl HSS.out ?_
    try go_simp
    refine zT 8 rfl HSS.out ?_
    try go_simp
    refine zL 9 rfl 38 ⟨N+1,0,none⟩ HSC.out underlying38 ?_
    try go_simp
    refine zL 10 rfl 42 ⟨N+1+1,0,none⟩ HSI.out underlying42 ?_
    try go_simp
    refine zO 11 rfl fun K' hK=> ?_;go_simp;go_at_call 88;refine(HRD.out _ ((HSB.out _).1 (by assumption))).mono ?_;rintro e w7 ⟨ro,rc,rfl,hro,hb7⟩;have hS7:S w7:=(HSB.out _).2 (((HSB.out _).1 (by assumption)).trans (hb7.mono (by have:=((HSB.out _).1 (by assumption)).size;rw[HS1.out] at this;exact this)));have hat7:=hro.at_;refine hK _ _ hS7 ?_;clear hK hro hb7
    try go_simp
    refine zK rfl fun K' hK=> ?_;go_simp;go_at_call 87;refine(HHS.out _ _ _ _ HRL.out hat7).mono ?_;rintro e w8 ⟨rfl,hb8⟩;have hS8:=((HSB.out _).1 hS7).trans (hb8.mono (by have:=((HSB.out _).1 hS7).size;rw[HS1.out] at this;exact this));rw[HBR.out];refine hK _ _ ?_;clear hK hat7 hb8
    try go_simp
    refine aZ 13 rfl (by kernel_rfl) (by kernel_rfl) (·=w8) rfl ?_;dsimp only[List.drop]
    repeat (go_big_quiet_step (fail))
    refine wpQuiet_nil ?_;rintro _ rfl;go_wp2
    go_meet
    case rel=>exact⟨rfl,by simp,hS8⟩
 case rest=>
  obtain⟨rfl,rfl,hbc⟩:=hcut;have HBF:=zH (HBN.out wc hbc);have hx:=HBX.out wc hbc;have HV:Ia (∀v,isVar g.vs.length v=true→∃(k b off:Nat) (x:Vr),v=(k:Int)∧k<g.vs.length∧ao=some ⟨b,off,none⟩∧ax g.vs v=(x.ptr,x.tgt)∧∀W,H9 (N+3) W1 W→W.cell? ⟨b,off+k*3,none⟩=some (.bool x.ptr)∧W.cell? ⟨b,off+k*3+1,none⟩=some (.string x.tgt)):=fun v hv=>by
   obtain⟨k,b,off,x,q1,q2,q3,q4,q5,q6,q7⟩:=dN HHJ.out.vars hv;refine⟨k,b,off,x,q1,q2,by rw[←HAO.out];exact q3,q5,fun W hW=> ?_⟩;have hbn:=HBN.out W hW;rw[HN.out] at q4;exact⟨by rw[hbn.cell (p:=⟨b,_,none⟩) (show b<N by omega)];exact q6,by rw[hbn.cell (p:=⟨b,_,none⟩) (show b<N by omega)];exact q7⟩
  have hvl:=HHJ.out.vl;unfold maxLen at hvl;have HO:Ia (∀W b f,zP 51 #[.bool b,.int .i64 f] W (.int .i64 (bM (!b) f))):=fun W b f=>bn b f W;have HBO:Ia (∀W W':H5,H9 (N+3) W1 W→H9 W.heap.size W W'→H9 N w W'):=fun W W' h1 h2=>HBN.out W' (h1.trans (h2.mono (by have:=h1.size;rw[HS1.out] at this;exact this)));obtain⟨B,hB⟩:=zE (bR&&(!wD||bD));rw[hB];cases B with
  |false=>
   have HRR:Ia (R=15):=by unfold Ia;rw[←HR.out];unfold aC;rw[if_neg HNR.out,if_pos (by rw[HTH.out];exact hB)]
   clear hx HV hB;obtain⟨wv,hwv⟩:=zE ((if wD=true then(i.d,true) else(0,false)):Int×Bool);rw[hwv,Bool.not_false];clear hwv HWO;go_wp2;go_ret;rw[HRR.out,HN.out];exact⟨rfl,HBF.out⟩
  |true=>
  rw[Bool.not_true];clear HSB HSC HSI HSS HB2' HWO HWR HR2;have hop:=HOP.out
  ·
   have ew:wD=true:=by rw[←HWD.out,hop];decide
   subst ew;have ebR:bR=true:=(by simpa using hB:_∧_).1;have ebD:bD=true:=(by simpa using hB:_∧_).2;have hdv:isVar g.vs.length i.d=true:=by have:=HBD.out;rw[ebD] at this;simpa[aI] using this
   have hE:=dZ HR HNR HTH (by rw[ebR,ebD];simp);have i0:=hx.i0;rw[hop] at i0;have g7:=hx.g7;have g2:=hx.g2;obtain⟨kd,vbd,vod,xd,hkd,hkld,hvd,htd,hcd⟩:=HV.out i.d hdv;have HdC:=zH hcd;obtain⟨d0,d1⟩:=hcd wc hbc;clear hcd;have hkId:(kd:Int)<(g.vs.length:Int):=by omega
   have hE2:R=gU m g.vs i:=by rw[hE,if_pos hop]
   have hcl:=yX m g i wc (HJ.out wc hbc) (HAI.out wc hbc) (by have:=HALL.out;unfold maxLen;omega) hdv (Bc (by rw[HBR.out];exact ebR) hop);rw[←hE2,HGC.out] at hcl;simp only[Mo.cells,gc,Ins.cells] at hcl;have HCL:=zH hcl;have m0:=hx.m0;have m1:=hx.m1;have HG:=zH hx.gr;have HI:=zH hx.ir;clear hE2 hcl d0 d1 g2 hkd hkld hvd htd hkId;clear hop hE hB hx HBX HV
   go_wp2_with (first
    |(refine wpList_load_row rfl 38 _ rfl (N+1) rfl 38 _ (0,0) _ HG.out underlying38 rfl (by kernel_rfl) ?_)
    |(refine wpList_load_row rfl 42 _ rfl (N+2) rfl 42 _ (0,0) _ HI.out underlying42 rfl (by kernel_rfl) ?_)
    |(go_at_call 91;refine HCL.out.mono ?_;rintro e w9 ⟨rfl,hb9⟩;have HB9:=zH (HBO.out _ _ hbc hb9);clear hb9))
   go_ret;rw[HN.out];exact⟨rfl,HB9.out⟩
end Go.Proofs.YtjomgckjhcfbgaaGreat
