/- Walks. -/
import Derived.Test.YtjomgckjhcfbgaaGreatS8
set_option maxRecDepth 100000
set_option maxHeartbeats 64000000
set_option linter.all false
namespace Go.Proofs.YtjomgckjhcfbgaaGreat
open Go.RowKit
open _root_.List renaming getElem?_eq_getElem→GN,getElem?_eq_some_iff→GQ,mem_of_getElem?→GV,take_length→Ha
open _root_.Array renaming getElem?_eq_some_iff→GR
open _root_.Nat renaming le_refl→He,zero_add→Hf,zero_le→Hg
open _root_.Option renaming some.inj→Hl
open _root_.Int renaming toNat_natCast→Ho
open Go.World renaming size_alloc→Hu
open Go.RowKit.Below renaming refl→Hw,heap_alloc→Hy
open Go renaming World→H5
open Go.RowKit renaming Below→H9,Hid→Ia
open Tryz
theorem mf (m:Mo)(nm:ByteArray)(w:H5)(hn:m.fs.length≤maxLen)(h:aG Fn.cells 8 w w.heap.size m.fA m.fs):
  zP 50 #[.agg m.cells,.string nm] w (.int .i64 (m.fnIx nm)):=by
 obtain⟨R,hR⟩:=zE (m.fnIx nm);rw[hR];have HR:Ia (R=fZ (fun f:Fn=>f.c.nm==nm) m.fs):=by rw[←hR];rfl
 obtain⟨sA,sC,fA,fC,ss,fs⟩:=m;simp only at hn h HR;have H:=zH h;unfold maxLen at hn;simp only[Mo.cells];clear hR h;obtain⟨N,hN⟩:=zE w.heap.size;obtain⟨W1,hW1⟩:=zE (w.alloc (.cells #[.slice sA ss.length sC,.slice fA fs.length fC] 25));have q1:W1.heap[N]?=some (.cells #[.slice sA ss.length sC,.slice fA fs.length fC] 25 (0,0)):=by rw[←hW1,←hN];exact alloc_at _ _
 have c1:W1.cell? ⟨N,0,none⟩=some (.slice sA ss.length sC):=(cell_of_row _ _ _ _ _ _ q1).trans rfl;have c2:W1.cell? ⟨N,1,none⟩=some (.slice fA fs.length fC):=(cell_of_row _ _ _ _ _ _ q1).trans rfl;have hb1:=gK hW1;have HB:=zH hb1;have HW1:=zH hW1;have H1:=zH (H.out.grow hb1);clear q1 hb1 hW1;go_enter func50,ntmps50
 go_upto_region 1 with(fail)
 rw[HW1.out]
 go_wp2_with fail
 go_loopw [5] (fun k wr=>∃j:Nat,j≤fs.length∧k= .int .i64 (j:Int)∧(∀f∈fs.take j,(f.c.nm==nm)=false)∧wr=W1) (fun k _=>fs.length-(intOf k).toNat)
 case atStart=>exact⟨0,Hg _,rfl,by simp,rfl⟩
 case round=>
  obtain⟨j,hj,rfl,hz,rfl⟩:=hrel
  by_cases hjl:j<fs.length
  ·obtain⟨f,hy⟩:∃y,fs[j]?=some y:=⟨_,GN hjl⟩
   obtain⟨g1,off,rfl,hg1,q1⟩:=H1.out (by intro e;rw[e] at hjl;simp at hjl);have d0:wr.cell? ⟨g1,off+j*8,none⟩=some (.string f.c.nm):=q1 j f hy 0 _ rfl;have hjI:(j:Int)<(fs.length:Int):=by omega
   have HZ:=zH hz;have HY:=zH hy
   by_cases hd:f.c.nm=nm
   ·subst hd
    have HRR:Ia (R=(j:Int)):=by unfold Ia;rw[HR.out];exact iH (p:=fun g:Fn=>g.c.nm==f.c.nm) HZ.out HY.out (by simp)
    clear hz hy q1;go_wp2;go_ret;rw[HRR.out];exact⟨rfl,HB.out⟩
   ·have hd':¬(f.c.nm.toList=nm.toList):=fun e=>hd (eq_of_beq (by rw[beq_toListBytes,e];simp))
    have hd1:(f.c.nm.toList==nm.toList)=false:=by simpa using hd'
    clear hd';have HD:Ia ((f.c.nm==nm)=false):=by unfold Ia;simp[hd]
    clear hz hy q1 hd;go_wp2;exact⟨⟨j+1,by omega,by go_num,dE (p:=fun f:Fn=>f.c.nm==nm) HZ.out HY.out HD.out,by first|rfl|trivial⟩,by simp[intOf];omega⟩
  ·have hje:j=fs.length:=by omega
   subst hje;rw[Ha] at hz;have HRR:Ia (R= -1):=by unfold Ia;rw[HR.out];exact fI (p:=fun f:Fn=>f.c.nm==nm) hz
   clear hz;go_wp2;go_ret;rw[HRR.out];exact⟨rfl,HB.out⟩
theorem gY (m:Mo)(nm:ByteArray)(w:H5)(hn:m.ss.length≤maxLen)(h:aG St.cells 4 w w.heap.size m.sA m.ss):
  zP 84 #[.agg m.cells,.string nm] w (.int .i64 (m.stIx nm)):=by
 obtain⟨R,hR⟩:=zE (m.stIx nm);rw[hR];have HR:Ia (R=fZ (fun f:St=>f.s.nm==nm) m.ss):=by rw[←hR];rfl
 obtain⟨sA,sC,fA,fC,ss,fs⟩:=m;simp only at hn h HR;have H:=zH h;unfold maxLen at hn;simp only[Mo.cells];clear hR h;obtain⟨N,hN⟩:=zE w.heap.size;obtain⟨W1,hW1⟩:=zE (w.alloc (.cells #[.slice sA ss.length sC,.slice fA fs.length fC] 25));have q1:W1.heap[N]?=some (.cells #[.slice sA ss.length sC,.slice fA fs.length fC] 25 (0,0)):=by rw[←hW1,←hN];exact alloc_at _ _
 have c1:W1.cell? ⟨N,0,none⟩=some (.slice sA ss.length sC):=(cell_of_row _ _ _ _ _ _ q1).trans rfl;have c2:W1.cell? ⟨N,1,none⟩=some (.slice fA fs.length fC):=(cell_of_row _ _ _ _ _ _ q1).trans rfl;have hb1:=gK hW1;have HB:=zH hb1;have HW1:=zH hW1;have H1:=zH (H.out.grow hb1);clear q1 hb1 hW1;go_enter func84,ntmps84
 go_upto_region 1 with(fail)
 rw[HW1.out]
 go_wp2_with fail
 go_loopw [5] (fun k wr=>∃j:Nat,j≤ss.length∧k= .int .i64 (j:Int)∧(∀f∈ss.take j,(f.s.nm==nm)=false)∧wr=W1) (fun k _=>ss.length-(intOf k).toNat)
 case atStart=>exact⟨0,Hg _,rfl,by simp,rfl⟩
 case round=>
  obtain⟨j,hj,rfl,hz,rfl⟩:=hrel
  by_cases hjl:j<ss.length
  ·obtain⟨f,hy⟩:∃y,ss[j]?=some y:=⟨_,GN hjl⟩
   obtain⟨g1,off,rfl,hg1,q1⟩:=H1.out (by intro e;rw[e] at hjl;simp at hjl);have d0:wr.cell? ⟨g1,off+j*4,none⟩=some (.string f.s.nm):=q1 j f hy 0 _ rfl;have hjI:(j:Int)<(ss.length:Int):=by omega
   have HZ:=zH hz;have HY:=zH hy
   by_cases hd:f.s.nm=nm
   ·subst hd
    have HRR:Ia (R=(j:Int)):=by unfold Ia;rw[HR.out];exact iH (p:=fun g:St=>g.s.nm==f.s.nm) HZ.out HY.out (by simp)
    clear hz hy q1;go_wp2;go_ret;rw[HRR.out];exact⟨rfl,HB.out⟩
   ·have hd':¬(f.s.nm.toList=nm.toList):=fun e=>hd (eq_of_beq (by rw[beq_toListBytes,e];simp))
    have hd1:(f.s.nm.toList==nm.toList)=false:=by simpa using hd'
    clear hd';have HD:Ia ((f.s.nm==nm)=false):=by unfold Ia;simp[hd]
    clear hz hy q1 hd;go_wp2;exact⟨⟨j+1,by omega,by go_num,dE (p:=fun f:St=>f.s.nm==nm) HZ.out HY.out HD.out,by first|rfl|trivial⟩,by simp[intOf];omega⟩
  ·have hje:j=ss.length:=by omega
   subst hje;rw[Ha] at hz;have HRR:Ia (R= -1):=by unfold Ia;rw[HR.out];exact fI (p:=fun f:St=>f.s.nm==nm) hz
   clear hz;go_wp2;go_ret;rw[HRR.out];exact⟨rfl,HB.out⟩
theorem bn (b:Bool)(f:Int)(w:H5):zP 51 #[.bool b,.int .i64 f] w (.int .i64 (bM (!b) f)):=by
 cases b with
 |true=>
  go_enter func51,ntmps51;go_wp2;go_ret;exact⟨rfl,Hw _ _⟩
 |false=>
  go_enter func51,ntmps51;go_wp2;go_ret;exact⟨rfl,Hw _ _⟩
theorem nL {α:Type}{p:α→Bool}{xs:List α}{y:α}{j:Nat}(hy:xs[j]?=some y)(hp:p y=false):xs.all p=false:=by
 rw[List.all_eq_false];exact⟨y,GV hy,by simp[hp]⟩
theorem A9 (g:Fn)(w:H5)(ao:Option Addr)(cap:Nat)(xs:List Int)(hn:g.c.nvars=g.vs.length)(hl:xs.length≤maxLen)(h:ak w ao xs):
  zP 87 #[.agg g.cells,.slice ao xs.length cap] w (.bool (aI g.vs.length xs)):=by
 obtain⟨R,hR⟩:=zE (aI g.vs.length xs);rw[hR];have HR:Ia (R=xs.all (isVar g.vs.length)):=by rw[←hR];rfl
 unfold maxLen at hl;simp only[Fn.cells,dQ.cells];rw[hn];clear hR hn;obtain⟨N,hN⟩:=zE w.heap.size;obtain⟨W1,hW1⟩:=zE (w.alloc (.cells #[.string g.c.nm,.int .i64 g.c.par,.slice g.c.varsA g.vs.length g.c.varsC,.bool g.c.rp,.string g.c.rto,.int .i64 g.c.rcl,.slice g.c.fromA g.c.nfrom g.c.fromC,.slice g.c.insA g.c.ins.length g.c.insC] 38));have q1:W1.heap[N]?=some (.cells #[.string g.c.nm,.int .i64 g.c.par,.slice g.c.varsA g.vs.length g.c.varsC,.bool g.c.rp,.string g.c.rto,.int .i64 g.c.rcl,.slice g.c.fromA g.c.nfrom g.c.fromC,.slice g.c.insA g.c.ins.length g.c.insC] 38 (0,0)):=by rw[←hW1,←hN];exact alloc_at _ _
 have HC2:Ia (W1.cell? ⟨N,2,none⟩=some (.slice g.c.varsA g.vs.length g.c.varsC)):=(cell_of_row _ _ _ _ _ _ q1).trans rfl;have hb1:=gK hW1;have HB:=zH hb1;have HW1:=zH hW1;have H1:=zH (h.below hb1);obtain⟨n,hnn⟩:=zE g.vs.length;rw[hnn] at HR HC2 HW1⊢;clear q1 hb1 hW1 hnn h;go_enter func87,ntmps87
 go_upto_region 1 with(fail)
 rw[HW1.out]
 go_wp2_with fail
 go_loopw [5] (fun k wr=>∃j n':Nat,j≤xs.length∧k= .int .i64 (j:Int)∧(∀x∈xs.take j,isVar n x=true)∧wr=W1.drewN n') (fun k _=>xs.length-(intOf k).toNat)
 case atStart=>exact⟨0,0,Hg _,rfl,by simp,rfl⟩
 case round=>
  obtain⟨j,n',hj,rfl,hz,rfl⟩:=hrel
  by_cases hjl:j<xs.length
  ·obtain⟨x,hy⟩:∃y,xs[j]?=some y:=⟨_,GN hjl⟩
   obtain⟨g1,off,rfl,hg1,q1⟩:=H1.out (by intro e;rw[e] at hjl;simp at hjl);have d0:W1.cell? ⟨g1,off+j,none⟩=some (.int .i64 x):=q1 j x hy;have c2:=HC2.out;have hjI:(j:Int)<(xs.length:Int):=by omega
   have HZ:=zH hz;have HY:=zH hy
   by_cases hx0:x<0
   ·have HRR:Ia (R=false):=by unfold Ia;rw[HR.out];exact nL HY.out (by unfold isVar;rw[decide_eq_false (by omega)];rfl)
    have e0:decide (x<0)=true:=decide_eq_true hx0;clear hz hy q1;go_wp2
    go_quiet (fail)
    go_wp2;go_ret;rw[HRR.out];exact⟨rfl,below_drewN (below_drewN HB.out _) _⟩
   by_cases hxn:(n:Int)≤x
   ·have HRR:Ia (R=false):=by unfold Ia;rw[HR.out];exact nL HY.out (by unfold isVar;rw[decide_eq_false (show¬x<(n:Int) by omega),Bool.and_false])
    have e0:decide (x<0)=false:=decide_eq_false hx0;clear hz hy q1;go_wp2
    go_quiet (fail)
    go_wp2;go_ret;rw[HRR.out];exact⟨rfl,below_drewN (below_drewN HB.out _) _⟩
   ·have HD:Ia (isVar n x=true):=by unfold Ia isVar;rw[decide_eq_true (by omega),decide_eq_true (by omega)];rfl
    have e0:decide (x<0)=false:=decide_eq_false hx0;have e1:decide ((n:Int)≤x)=false:=decide_eq_false hxn;clear hz hy q1;go_wp2
    go_quiet (fail)
    go_wp2;go_roundw
    case rel=>exact⟨j+1,_,by omega,by go_num,dx (p:=fun z=>isVar n z=true) HZ.out HY.out HD.out,rfl⟩
    case measure=>simp[intOf];omega
  ·have hje:j=xs.length:=by omega
   subst hje;rw[Ha] at hz;have HRR:Ia (R=true):=by unfold Ia;rw[HR.out,List.all_eq_true];exact hz
   clear hz;go_wp2;go_ret;rw[HRR.out];exact⟨rfl,below_drewN HB.out _⟩
theorem Ba {w:H5}{B:Nat}{xs:List ByteArray}(hB:B=w.heap.size):aQ (w.alloc (.cells (xs.map Value.string).toArray 9)) (some ⟨B,0,none⟩) xs:=by
 subst hB;intro _;refine⟨w.heap.size,0,rfl,by simp,fun k u hk=> ?_⟩;rw[Hf,World.cell?_alloc_new];simp[hk]
theorem wS {α:Type}{p:α→Bool}{xs:List α}(h:∀z∈xs,p z=false):xs.any p=false:=by
 rw[List.any_eq_false];intro x hx;rw[h x hx];simp
theorem yV (s:ByteArray)(w:H5):zP 89 #[.string s] w (.bool (gm.any fun x=>x==s)):=by
 obtain⟨R,hR⟩:=zE (gm.any fun x=>x==s);rw[hR];obtain⟨N,hN⟩:=zE w.heap.size;obtain⟨W1,hW1⟩:=zE (w.alloc (.cells #[.string ⟨#[43]⟩,.string ⟨#[45]⟩,.string ⟨#[42]⟩,.string ⟨#[47]⟩,.string ⟨#[37]⟩,.string ⟨#[60]⟩,.string ⟨#[60,61]⟩,.string ⟨#[62]⟩,.string ⟨#[62,61]⟩,.string ⟨#[61,61]⟩,.string ⟨#[33,61]⟩] 9));have hst:aQ W1 (some ⟨N,0,none⟩) gm:=by rw[←hW1];exact Ba hN.symm
 have hb1:=gK hW1;obtain⟨xs,hxs⟩:=zE gm;have hl:xs.length=11:=by rw[←hxs];rfl
 rw[hxs] at hst hR;have HS:=zH hst;have HR:=zH hR;have HB:=zH hb1;have HW1:=zH hW1;clear hst hR hb1 hW1 hxs;go_enter func89,ntmps89
 go_upto_region 2 with(fail)
 rw[HW1.out]
 go_wp2_with fail
 go_loopw [4] (fun k wr=>∃j:Nat,j≤11∧k= .int .i64 (j:Int)∧(∀x∈xs.take j,(x==s)=false)∧wr=W1) (fun k _=>11-(intOf k).toNat)
 case atStart=>exact⟨0,Hg _,rfl,by simp,rfl⟩
 case round=>
  obtain⟨j,hj,rfl,hz,rfl⟩:=hrel
  by_cases hjl:j<11
  ·obtain⟨x,hy⟩:∃y,xs[j]?=some y:=⟨_,GN (by omega)⟩
   obtain⟨g1,off,hA,hg1,q1⟩:=HS.out (by intro e;rw[e] at hl;simp at hl);simp only[Option.some.injEq,Addr.mk.injEq,and_true] at hA;obtain⟨rfl,rfl⟩:=hA;have d0:wr.cell? ⟨N,j,none⟩=some (.string x):=by have:=q1 j x hy;rwa [Hf] at this
   have hjI:(j:Int)<11:=by omega
   have HZ:=zH hz;have HY:=zH hy
   by_cases hd:x=s
   ·subst hd
    have HRR:Ia (R=true):=by unfold Ia;rw[←HR.out,List.any_eq_true];exact⟨x,GV HY.out,by simp⟩
    clear hz hy q1;go_wp2;go_ret;rw[HRR.out];exact⟨rfl,HB.out⟩
   ·have hd':¬(x.toList=s.toList):=fun e=>hd (eq_of_beq (by rw[beq_toListBytes,e];simp))
    have hd1:(x.toList==s.toList)=false:=by simpa using hd'
    clear hd';have HD:Ia ((x==s)=false):=by unfold Ia;simp[hd]
    clear hz hy q1 hd;go_wp2;exact⟨⟨j+1,by omega,by go_num,dE (p:=fun z:ByteArray=>z==s) HZ.out HY.out HD.out,by first|rfl|trivial⟩,by simp[intOf];omega⟩
  ·have hje:j=11:=by omega
   subst hje;rw[show(11:Nat)=xs.length from hl.symm,Ha] at hz;have HRR:Ia (R=false):=by unfold Ia;rw[←HR.out];exact wS hz
   clear hz;go_wp2;go_ret;rw[HRR.out];exact⟨rfl,HB.out⟩
theorem wT (m:Mo)(p:Bool)(s:ByteArray)(w:H5)(hn:m.ss.length≤maxLen)(h:aG St.cells 4 w w.heap.size m.sA m.ss):
  zP 85 #[.agg m.cells,.agg #[.bool p,.string s]] w (.bool (m.known (p,s))):=by
 obtain⟨R,hR⟩:=zE (m.known (p,s));rw[hR];have HR:Ia (R=if p=true then decide (0≤m.stIx s) else s==ByteArray.empty):=by rw[←hR];rfl
 have HEQ:=zH (dC p false s ByteArray.empty);obtain⟨N,hN⟩:=zE w.heap.size;obtain⟨W1,hW1⟩:=zE ((w.alloc (.cells m.cells 25)).alloc (.cells #[.bool p,.string s] 32));have hb1:=EA hW1;have hs1:W1.heap.size=N+2:=by rw[←hW1];simp[hN]
 have hr1:=xV hW1 hN;have hr2:=zV hW1 hN;have HK:Ia (∀W,H9 W1.heap.size W1 W→W.cell? ⟨N,0,none⟩=some (.slice m.sA m.ss.length m.sC)∧W.cell? ⟨N,1,none⟩=some (.slice m.fA m.fs.length m.fC)∧W.cell? ⟨N+1,0,none⟩=some (.bool p)∧W.cell? ⟨N+1,1,none⟩=some (.string s)∧H9 w.heap.size w W):=fun W hW=>by
  have q1:=(hW.block N (by omega)).trans hr1;have q2:=(hW.block (N+1) (by omega)).trans hr2;exact⟨by rw[cell_of_row _ _ _ _ _ _ q1];rfl,by rw[cell_of_row _ _ _ _ _ _ q1];rfl,by rw[cell_of_row _ _ _ _ _ _ q2];rfl,by rw[cell_of_row _ _ _ _ _ _ q2];rfl,hb1.trans (hW.mono hb1.size)⟩
 obtain⟨c0,c1,c2,c3,_⟩:=HK.out W1 (Hw _ _);have HST:=zH (gY m s W1 hn (h.grow hb1));have HB:=zH hb1;have hW1':=hW1;simp only[Mo.cells] at hW1' HST;have HW1:=zH hW1';simp only[Mo.cells];clear hb1 hr1 hr2 hW1 hW1' h hR;cases p with
 |false=>
  have he:(ByteArray.empty).toList=([]:List UInt8):=by simp[ByteArray.toList,ByteArray.toList.loop]
  by_cases hs:s.toList=[]
  ·have HRR:Ia (R=true):=by unfold Ia;rw[HR.out,if_neg (by simp),beq_toListBytes,he,hs];rfl
   clear HR HEQ;go_enter func85,ntmps85
   go_upto_region 1 with(fail)
   rw[HW1.out];go_wp2;go_ret;rw[HRR.out];exact⟨rfl,HB.out⟩
  ·have HRR:Ia (R=false):=by unfold Ia;rw[HR.out,if_neg (by simp),beq_toListBytes,he,beq_eq_false_iff_ne];exact hs
   clear HR HEQ;go_enter func85,ntmps85
   go_upto_region 1 with(fail)
   rw[HW1.out];go_wp2;go_ret;rw[HRR.out];exact⟨rfl,HB.out⟩
 |true=>
  have HRR:Ia (R=decide (0≤m.stIx s)):=by unfold Ia;rw[HR.out,if_pos rfl]
  obtain⟨x,hx⟩:=zE (m.stIx s);rw[hx] at HST HRR;clear HR HEQ hx
  by_cases hx0:0≤x
  ·go_enter func85,ntmps85
   go_upto_region 1 with(fail)
   rw[HW1.out]
   go_wp2_with fail
   go_at_call 84;refine HST.out.mono ?_;rintro e w2 ⟨rfl,hb2⟩;have HB2:=zH (HB.out.trans (hb2.mono HB.out.size));clear hb2 c0 c1 c2 c3;go_wp2;go_ret;rw[HRR.out];exact⟨by simp[hx0],HB2.out⟩
  ·go_enter func85,ntmps85
   go_upto_region 1 with(fail)
   rw[HW1.out]
   go_wp2_with fail
   go_at_call 84;refine HST.out.mono ?_;rintro e w2 ⟨rfl,hb2⟩;have HB2:=zH (HB.out.trans (hb2.mono HB.out.size));clear c0 c1 c2 c3;obtain⟨_,_,c2,c3,_⟩:=HK.out w2 hb2;clear hb2;go_wp2;go_ret;rw[HRR.out];exact⟨by simp,HB2.out⟩
theorem iJ (m:Mo)(g:Fn)(v f:Int)(w:H5)(h:nC w m g)(hv:isVar g.vs.length v=true)(hk:m.known (ax g.vs v)=true):
  zP 127 #[.agg m.cells,.agg g.cells,.int .i64 v,.int .i64 f] w (.tuple #[uO (aH m g.vs v f).1,.int .i64 (aH m g.vs v f).2]):=by
 have HS:Ia (∀W s,H9 w.heap.size w W→zP 84 #[.agg m.cells,.string s] W (.int .i64 (m.stIx s))):=
  fun W s hW=>gY m s W h.mo.ns (h.mo.below hW).srow
 simp only[Mo.cells] at HS;have HF:Ia (aH m g.vs v f=(if (ax g.vs v).1=false then(bF,7) else match m.ss[(m.stIx (ax g.vs v).2).toNat]? with
  |none=>(bF,15)
  |some s=>if f<0 then(bF,15) else match s.fs[f.toNat]? with
   |none=>(bF,15)
   |some x=>(x.ty,0):Ty×Int)):=rfl
 have HJ:=zH h;have HK:=zH hk;obtain⟨kv,vb,vo,xv,rfl,hkv,hvA,hvb,htv,hv0,hv1⟩:=dN h.vars hv;obtain⟨⟨b,s⟩,ht⟩:∃t,ax g.vs (kv:Int)=t:=⟨_,rfl⟩
 rw[ht] at htv;simp only[Prod.mk.injEq] at htv;rw[←htv.1] at hv0;rw[←htv.2] at hv1;rw[ht] at HF HK;obtain⟨F,hF⟩:=zE (aH m g.vs (kv:Int) f);rw[hF] at HF⊢;have hst:=fun w c hc=>
  run_storeCells_new (P:=prog) w 32 c #[.bool b,.string s] (by show _=some 2;kernel_rfl) hc (by simp[Value.oneCell'])
 have hnv:=h.nv;have hvl:=h.vl;unfold maxLen at hvl;have hkvI:(kv:Int)<(g.vs.length:Int):=by omega
 simp only[Mo.cells,Fn.cells,dQ.cells];rw[hnv,hvA];clear h hv hk ht hF htv hnv hvA;obtain⟨N,hN⟩:=zE w.heap.size;obtain⟨Wa,hWa⟩:=zE (w.alloc (.cells #[.slice m.sA m.ss.length m.sC,.slice m.fA m.fs.length m.fC] 25));have hba:=gZ hWa hN;have hsa:Wa.heap.size=N+1:=by rw[←hWa];simp[hN]
 have hra:Wa.heap[N]?=some (.cells #[.slice m.sA m.ss.length m.sC,.slice m.fA m.fs.length m.fC] 25 (0,0)):=by rw[←hWa,←hN];exact alloc_at _ _
 obtain⟨Wb,hWb⟩:=zE (Wa.alloc (.cells #[.string g.c.nm,.int .i64 g.c.par,.slice (some ⟨vb,vo,none⟩) g.vs.length g.c.varsC,.bool g.c.rp,.string g.c.rto,.int .i64 g.c.rcl,.slice g.c.fromA g.c.nfrom g.c.fromC,.slice g.c.insA g.c.ins.length g.c.insC] 38));have hbb:H9 (N+1) Wa Wb:=by rw[←hWb,←hsa];exact(Hw _ _).alloc (He _) _
 have hsb:Wb.heap.size=N+2:=by rw[←hWb];simp[hsa]
 have hrb:Wb.heap[N+1]?=some (.cells #[.string g.c.nm,.int .i64 g.c.par,.slice (some ⟨vb,vo,none⟩) g.vs.length g.c.varsC,.bool g.c.rp,.string g.c.rto,.int .i64 g.c.rcl,.slice g.c.fromA g.c.nfrom g.c.fromC,.slice g.c.insA g.c.ins.length g.c.insC] 38 (0,0)):=by rw[←hWb,←hsa];exact alloc_at _ _
 obtain⟨W1,hW1⟩:=zE (Wb.alloc (.cells #[.bool false,.string ⟨#[]⟩] 32));have hbc:H9 (N+2) Wb W1:=by rw[←hW1,←hsb];exact(Hw _ _).alloc (He _) _
 have hs1:W1.heap.size=N+3:=by rw[←hW1];simp[hsb]
 have hr2:W1.heap[N+2]?=some (.cells #[.bool false,.string ⟨#[]⟩] 32 (0,0)):=by rw[←hW1,←hsb];exact alloc_at _ _
 have hr1:=(hbc.block (N+1) (by omega)).trans hrb;have hr0:=(hbc.block N (by omega)).trans ((hbb.block N (by omega)).trans hra);have hb1:=(hba.trans (hbb.mono (by omega))).trans (hbc.mono (by omega));have c0:=zR hr1 2 (.slice (some ⟨vb,vo,none⟩) g.vs.length g.c.varsC);have c1:W1.cell? ⟨vb,vo+kv*3,none⟩=some (.bool b):=by rw[hb1.cell (p:=⟨vb,_,none⟩) (show vb<N by omega)];exact hv0
 have c2:W1.cell? ⟨vb,vo+kv*3+1,none⟩=some (.string s):=by rw[hb1.cell (p:=⟨vb,_,none⟩) (show vb<N by omega)];exact hv1
 obtain⟨W3,hW3⟩:=zE (W1.alloc (.cells #[.bool b,.string s] 32));have hb13:=gK hW3;have hs3:W3.heap.size=N+4:=by rw[←hW3];simp[hs1]
 have hr3:=(hb13.block N (by omega)).trans hr0;have hr4:=(hb13.block (N+2) (by omega)).trans hr2;have hr5:W3.heap[N+3]?=some (.cells #[.bool b,.string s] 32 (0,0)):=by rw[←hW3,←hs1];exact alloc_at _ _
 have HB3:Ia (H9 N w W3):=hb1.trans (hb13.mono (by omega));have HKEEP:Ia (∀W,H9 W3.heap.size W3 W→W.cell? ⟨N,0,none⟩=some (.slice m.sA m.ss.length m.sC)∧W.cell? ⟨N,1,none⟩=some (.slice m.fA m.fs.length m.fC)∧W.cell? ⟨N+3,0,none⟩=some (.bool b)∧W.cell? ⟨N+3,1,none⟩=some (.string s)∧
   W.cell? ⟨N+2,0,none⟩=some (.bool false)∧W.cell? ⟨N+2,1,none⟩=some (.string ⟨#[]⟩)∧W.frozen? ⟨N+2,0,none⟩=false∧W.frozen? ⟨N+2,1,none⟩=false∧N+2<W.heap.size):=by
  intro W hW;have q3:=(hW.block N (by omega)).trans hr3;have q4:=(hW.block (N+2) (by omega)).trans hr4;have q5:=(hW.block (N+3) (by omega)).trans hr5;refine⟨?_, ?_, ?_, ?_, ?_, ?_, ?_, ?_,(GR.1 q4).1⟩
  ·rw[cell_of_row _ _ _ _ _ _ q3];rfl
  ·rw[cell_of_row _ _ _ _ _ _ q3];rfl
  ·rw[cell_of_row _ _ _ _ _ _ q5];rfl
  ·rw[cell_of_row _ _ _ _ _ _ q5];rfl
  ·rw[cell_of_row _ _ _ _ _ _ q4];rfl
  ·rw[cell_of_row _ _ _ _ _ _ q4];rfl
  ·exact frozen_of_row _ _ _ _ _ q4
  ·exact frozen_of_row _ _ _ _ _ q4
 have HR4:Ia (∀W,H9 W3.heap.size W3 W→W.heap[N+2]?=some (.cells #[.bool false,.string ⟨#[]⟩] 32 (0,0))):=fun W hW=>(hW.block (N+2) (by omega)).trans hr4;have HN:=zH hN;have HW3:=zH hW3;have HW1:Ia (((w.alloc (.cells #[.slice m.sA m.ss.length m.sC,.slice m.fA m.fs.length m.fC] 25)).alloc (.cells #[.string g.c.nm,.int .i64 g.c.par,.slice (some ⟨vb,vo,none⟩) g.vs.length g.c.varsC,.bool g.c.rp,.string g.c.rto,.int .i64 g.c.rcl,.slice g.c.fromA g.c.nfrom g.c.fromC,.slice g.c.insA g.c.ins.length g.c.insC] 38)).alloc (.cells #[.bool false,.string ⟨#[]⟩] 32)=W1):=by unfold Ia;rw[hWa,hWb,hW1]
 clear hWa hba hsa hra hWb hbb hsb hrb hW1 hbc hr0 hr1 hr2 hb1 hW3 hb13 hr3 hr4 hr5 hv0 hv1 hvb;go_enter func127,ntmps127
 go_upto_region 1 with(fail)
 rw[HW1.out];clear HW1 hN
 go_upto_region 2 with(fail)
 rw[HW3.out];clear HW3 hst c0 c1 c2 hs1;obtain⟨k0,k1,k2,k3,k4,k5,k6,k7,hN1⟩:=HKEEP.out W3 (Hw _ _);cases b with
 |false=>
  have HFF:Ia (F=(bF,7)):=by rw[HF.out];rfl
  clear HF;go_wp2;(try simp only[Exit.inBlock,Exit.then]);refine bodyPost_ret (aN rfl _ _ (N+2) 32 _ (0,0) _ rfl (dW (HR4.out W3 (Hw _ _))) underlying32 (by kernel_rfl)) rfl ?_;rw[HFF.out,HN.out];exact⟨rfl,(HB3.out.setCell (by show N≤N+2;omega) _).setCell (by show N≤N+2;omega) _⟩
 |true=>
  obtain⟨k,st,hk1,hk2⟩:=yJ HK.out rfl;obtain⟨b0,off,hA,hb0,hc0⟩:=HJ.out.mo.srow (by intro e;rw[e] at hk2;simp at hk2);have hkl:=(GQ.1 hk2).1;have hkI:(k:Int)<(m.ss.length:Int):=by omega
  have hb0N:b0<N:=by have:=HN.out;omega
  have m4:∀p:BW W3,p.w.cell? ⟨b0,off+k*4+1,none⟩=some (.slice st.s.fA st.fs.length st.s.fC):=fun p=>by
   rw[(HB3.out.trans (p.h.mono (by omega))).cell (p:=⟨b0,_,none⟩) hb0N];have:=hc0 k st hk2 1 _ rfl;rw[(HJ.out.mo.sin st (GV hk2)).nf] at this;exact this
  have HSC:Ia (∀p:BW W3,zP 84 #[.agg #[.slice (some ⟨b0,off,none⟩) m.ss.length m.sC,.slice m.fA m.fs.length m.fC],.string s] p.w (.int .i64 (k:Int))):=by
   intro p;have:=HS.out p.w s (by rw[HN.out];exact HB3.out.trans (p.h.mono (by omega)));rw[hk1,hA] at this;exact this
  have HFS:Ia (F=(if f<0 then(bF,15) else match st.fs[f.toNat]? with
   |none=>(bF,15)
   |some x=>(x.ty,0):Ty×Int)):=by
   unfold Ia;rw[HF.out,if_neg (by simp)]
   show(match m.ss[(m.stIx s).toNat]? with
    |none=>(bF,15)
    |some s=>if f<0 then(bF,15) else match s.fs[f.toNat]? with
     |none=>(bF,15)
     |some x=>(x.ty,0):Ty×Int)=_
   rw[hk1,Ho,hk2]
  have HIN:Ia (st.inn w):=HJ.out.mo.sin st (GV hk2);have hfl90:=HIN.out.len;unfold maxLen at hfl90;rw[hA] at k0 HKEEP;have m0:∀p:BW W3,p.w.cell? ⟨N,0,none⟩=some (.slice (some ⟨b0,off,none⟩) m.ss.length m.sC):=fun p=>(HKEEP.out p.w p.h).1;have m1:∀p:BW W3,p.w.cell? ⟨N,1,none⟩=some (.slice m.fA m.fs.length m.fC):=fun p=>(HKEEP.out p.w p.h).2.1;have m2:∀p:BW W3,p.w.cell? ⟨N+3,0,none⟩=some (.bool true):=fun p=>(HKEEP.out p.w p.h).2.2.1;have m3:∀p:BW W3,p.w.cell? ⟨N+3,1,none⟩=some (.string s):=fun p=>(HKEEP.out p.w p.h).2.2.2.1;clear HF HK hk1 hk2 hA hb0 hc0 HJ HS
  go_wp2_with fail
  clear k0 k1 k2 k3 k4 k5 k6 k7 hN1;refine zQ ?_
  repeat (go_big_quiet_step (first|(go_at_call 84;exact bg (HSC.out _))))
  refine wpQuiet_nil ?_;rintro _ ⟨p,rfl⟩;obtain⟨w11,h11⟩:=p
  show Exit.then _ _ _ _ w11
  obtain⟨_,_,_,_,j4,j5,j6,j7,hN2⟩:=HKEEP.out w11 h11;have hr11:=HR4.out w11 h11;have HB11:Ia (H9 N w w11):=HB3.out.trans (h11.mono (by omega));have HR11:=zH hr11;clear h11 HKEEP HR4 HSC hr11 m0 m1 m2 m3 m4
  by_cases hf0:f<0
  ·have HFF:Ia (F=(bF,15)):=by unfold Ia;rw[HFS.out,if_pos hf0]
   clear HFS;go_wp2;(try simp only[Exit.inBlock,Exit.then]);refine bodyPost_ret (aN rfl _ _ (N+2) 32 _ (0,0) _ rfl (dW HR11.out) underlying32 (by kernel_rfl)) rfl ?_;rw[HFF.out,HN.out];exact⟨rfl,(HB11.out.setCell (by show N≤N+2;omega) _).setCell (by show N≤N+2;omega) _⟩
  obtain⟨q,rfl⟩:∃q:Nat,f=(q:Int):=⟨f.toNat,by omega⟩
  rw[if_neg hf0,Ho] at HFS
  by_cases hfl:q<st.fs.length
  ·obtain⟨x,hx⟩:∃x,st.fs[q]?=some x:=⟨_,GN hfl⟩
   have HFF:Ia (F=(x.ty,0)):=by unfold Ia;rw[HFS.out,hx]
   obtain⟨b1,off1,hA1,hb1,hc1⟩:=HIN.out.row (by intro e;rw[e] at hfl;simp at hfl);have hb1N:b1<N:=by have:=HN.out;omega
   have e1:w11.cell? ⟨b1,off1+q*5+1,none⟩=some (.bool x.ptr):=by rw[HB11.out.cell (p:=⟨b1,_,none⟩) hb1N];exact hc1 q x hx 1 _ rfl
   have e2:w11.cell? ⟨b1,off1+q*5+1+1,none⟩=some (.string x.tgt):=by rw[HB11.out.cell (p:=⟨b1,_,none⟩) hb1N];exact hc1 q x hx 2 _ rfl
   have hqI:(q:Int)<(st.fs.length:Int):=by omega
   rw[hA1];clear HFS hx hc1 hb1 hA1 hf0 hfl;go_wp2;(try simp only[Exit.inBlock,Exit.then]);refine bodyPost_ret (aN rfl _ _ (N+2) 32 _ (0,0) _ rfl (dW HR11.out) underlying32 (by kernel_rfl)) rfl ?_;rw[HFF.out,HN.out];exact⟨rfl,(HB11.out.setCell (by show N≤N+2;omega) _).setCell (by show N≤N+2;omega) _⟩
  ·have HFF:Ia (F=(bF,15)):=by unfold Ia;rw[HFS.out,List.getElem?_eq_none (by omega)]
   have hqI:(st.fs.length:Int)≤(q:Int):=by omega
   clear HFS hf0 hfl;go_wp2;(try simp only[Exit.inBlock,Exit.then]);refine bodyPost_ret (aN rfl _ _ (N+2) 32 _ (0,0) _ rfl (dW HR11.out) underlying32 (by kernel_rfl)) rfl ?_;rw[HFF.out,HN.out];exact⟨rfl,(HB11.out.setCell (by show N≤N+2;omega) _).setCell (by show N≤N+2;omega) _⟩
theorem CB {w W1:H5}{a b c:Array Value}{ta tb tc:TypeId}(h:((w.alloc (.cells a ta)).alloc (.cells b tb)).alloc (.cells c tc)=W1):
  H9 w.heap.size w W1∧W1.heap.size=w.heap.size+3∧W1.heap[w.heap.size]?=some (.cells a ta (0,0))∧W1.heap[w.heap.size+1]?=some (.cells b tb (0,0))∧W1.heap[w.heap.size+2]?=some (.cells c tc (0,0)):=by
 subst h;refine⟨(((Hw _ _).alloc (He _) _).alloc (by simp) _).alloc (by simp;omega) _,by simp, ?_, ?_, ?_⟩
 ·rw[Hy _ _ _ (by simp;omega),Hy _ _ _ (by simp)];exact alloc_at _ _
 ·rw[Hy _ _ _ (by simp)]
  have:=alloc_at (w.alloc (.cells a ta)) (.cells b tb)
  rwa [Hu] at this
 ·have:=alloc_at ((w.alloc (.cells a ta)).alloc (.cells b tb)) (.cells c tc)
  rwa [Hu,Hu] at this
def gc (g:Fn)(ao:Option Addr):Array Value:=#[.string g.c.nm,.int .i64 g.c.par,.slice ao g.vs.length g.c.varsC,.bool g.c.rp,.string g.c.rto,.int .i64 g.c.rcl,.slice g.c.fromA g.c.nfrom g.c.fromC,.slice g.c.insA g.c.ins.length g.c.insC]
theorem jO {g:Fn}{ao:Option Addr}(h:g.c.nvars=g.vs.length)(e:g.c.varsA=ao):g.cells=gc g ao:=by
 unfold Fn.cells dQ.cells gc;rw[h,e]
theorem wU (m:Mo)(g:Fn)(i:Ins)(w:H5)(h:nC w m g)(hop:i.op=7)(ha:isVar g.vs.length i.a=true)(ho:isVar g.vs.length i.d=true)(hk:m.known (ax g.vs i.a)=true):
  zP 90 #[.agg m.cells,.agg g.cells,.agg i.cells] w (.int .i64 (cu m g.vs i i.d false)):=by
 have HF:Ia (∀W,H9 w.heap.size w W→zP 127 #[.agg m.cells,.agg g.cells,.int .i64 i.a,.int .i64 i.f] W (.tuple #[uO (aH m g.vs i.a i.f).1,.int .i64 (aH m g.vs i.a i.f).2])):=fun W hW=>iJ m g i.a i.f W (h.below hW) ha hk;have HE:Ia (cu m g.vs i i.d false=if (aH m g.vs i.a i.f).2≠0 then(aH m g.vs i.a i.f).2 else bM ((aH m g.vs i.a i.f).1==ax g.vs i.d&&(aH m g.vs i.a i.f).1.1==false) 7):=rfl;obtain⟨ka,vb,vo,xa,hka,hka2,hvA,hvb,hta,ha0,ha1⟩:=dN h.vars ha;obtain⟨kd,vb2,vo2,xd,hkd,hkd2,hvA2,_,htd,hd0,hd1⟩:=dN h.vars ho;rw[hvA] at hvA2;simp only[Option.some.injEq,Addr.mk.injEq,and_true] at hvA2;obtain⟨rfl,rfl⟩:=hvA2;rw[htd] at HE;obtain⟨R,hR⟩:=zE (cu m g.vs i i.d false);rw[hR] at HE⊢;obtain⟨⟨⟨b,s⟩,z⟩,hz⟩:∃F,aH m g.vs i.a i.f=F:=⟨_,rfl⟩
 rw[hz] at HE HF;unfold uO at HF;have hst:∀(w:H5)(c:Array Value),c.size=2→(storeCells ⟨w.heap.size,0,none⟩ [.bool b,.string s] 0).run prog (w.alloc (.cells c 32))= .ok () (w.alloc (.cells #[.bool b,.string s] 32)):=fun w c hc=>
  run_storeCells_new (P:=prog) w 32 c #[.bool b,.string s] (by show _=some 2;kernel_rfl) hc (by simp[Value.oneCell'])
 have hst2:∀(w:H5)(c:Array Value),c.size=2→(storeCells ⟨w.heap.size,0,none⟩ [.bool xa.ptr,.string xa.tgt] 0).run prog (w.alloc (.cells c 32))= .ok () (w.alloc (.cells #[.bool xa.ptr,.string xa.tgt] 32)):=fun w c hc=>
  run_storeCells_new (P:=prog) w 32 c #[.bool xa.ptr,.string xa.tgt] (by show _=some 2;kernel_rfl) hc (by simp[Value.oneCell'])
 have hnv:=h.nv;have hvl:=h.vl;unfold maxLen at hvl;have hkaI:(ka:Int)<(g.vs.length:Int):=by omega
 have hkdI:(kd:Int)<(g.vs.length:Int):=by omega
 have hgc:=jO hnv hvA;rw[hgc] at HF⊢;simp only[Mo.cells,Ins.cells] at HF⊢;rw[hka] at HF;rw[hop,hka,hkd];simp only[gc] at HF⊢;obtain⟨N,hN⟩:=zE w.heap.size;obtain⟨W1,hW1⟩:=zE (((w.alloc (.cells m.cells 25)).alloc (.cells (gc g (some ⟨vb,vo,none⟩)) 38)).alloc (.cells i.cells 42));obtain⟨hb1,hs1,r0,r1,r2⟩:=CB hW1;rw[hN] at hb1 hs1 r0 r1 r2;have HR1:Ia (W1.heap[N+1]?=some (.cells #[.string g.c.nm,.int .i64 g.c.par,.slice (some ⟨vb,vo,none⟩) g.vs.length g.c.varsC,.bool g.c.rp,.string g.c.rto,.int .i64 g.c.rcl,.slice g.c.fromA g.c.nfrom g.c.fromC,.slice g.c.insA g.c.ins.length g.c.insC] 38 (0,0))):=r1;have HK:Ia (∀W,H9 (N+3) W1 W→W.cell? ⟨N+1,2,none⟩=some (.slice (some ⟨vb,vo,none⟩) g.vs.length g.c.varsC)∧W.cell? ⟨N+2,0,none⟩=some (.int .i64 7)∧W.cell? ⟨N+2,2,none⟩=some (.int .i64 (ka:Int))∧W.cell? ⟨N+2,1,none⟩=some (.int .i64 (kd:Int))∧
   W.cell? ⟨vb,vo+ka*3,none⟩=some (.bool xa.ptr)∧W.cell? ⟨vb,vo+ka*3+1,none⟩=some (.string xa.tgt)∧W.cell? ⟨vb,vo+kd*3,none⟩=some (.bool xd.ptr)∧W.cell? ⟨vb,vo+kd*3+1,none⟩=some (.string xd.tgt)∧H9 N w W):=fun W hW=>by
  have p1:=(hW.block (N+1) (by omega)).trans r1;have p2:=(hW.block (N+2) (by omega)).trans r2;have hbw:=hb1.trans (hW.mono (by omega));refine⟨?_, ?_, ?_, ?_, ?_, ?_, ?_, ?_,hbw⟩
  ·rw[cell_of_row _ _ _ _ _ _ p1];rfl
  ·rw[cell_of_row _ _ _ _ _ _ p2,←hop];rfl
  ·rw[cell_of_row _ _ _ _ _ _ p2,←hka];rfl
  ·rw[cell_of_row _ _ _ _ _ _ p2,←hkd];rfl
  ·rw[hbw.cell (p:=⟨vb,_,none⟩) (show vb<N by omega)];exact ha0
  ·rw[hbw.cell (p:=⟨vb,_,none⟩) (show vb<N by omega)];exact ha1
  ·rw[hbw.cell (p:=⟨vb,_,none⟩) (show vb<N by omega)];exact hd0
  ·rw[hbw.cell (p:=⟨vb,_,none⟩) (show vb<N by omega)];exact hd1
 have c0:=zR r0 0 (.slice m.sA m.ss.length m.sC);have c1:=zR r0 1 (.slice m.fA m.fs.length m.fC);have c2:W1.cell? ⟨N+2,2,none⟩=some (.int .i64 (ka:Int)):=by rw[cell_of_row _ _ _ _ _ _ r2,←hka];rfl
 have c3:=zR r2 4 (.int .i64 i.f);have hW1':=hW1;simp only[Mo.cells,Ins.cells,gc] at hW1';rw[hop,hka] at hW1';rw[hkd] at hW1';have HW1:=zH hW1';have HN:=zH hN;have HB1:=zH hb1;have HS1:=zH hs1;rw[hN] at HF;clear h ha ho hk hop hka hkd hvA hvb hta htd ha0 ha1 hd0 hd1 hR hz hgc hW1 hW1' hb1 r0 r1 r2 hnv hkd2 hka2 hs1;go_enter func90,ntmps90
 go_upto_region 1 with(fail)
 rw[HW1.out]
 go_upto_region 2 with(first
  |(refine wpList_load_row rfl 38 _ rfl (N+1) rfl 38 _ (0,0) _ HR1.out underlying38 rfl (by kernel_rfl) ?_)
  |(go_at_call 127;refine(HF.out _ HB1.out).mono ?_;rintro e w2 ⟨rfl,hb2⟩;have HB2:=zH hb2))
 clear c0 c1 c2 c3 HW1;obtain⟨T,hT⟩:=zE w2.heap.size;obtain⟨W3,hW3⟩:=zE (w2.alloc (.cells #[.bool b,.string s] 32));rw[hT,hW3];have hTN:N+3≤T:=by have:=HB2.out.size;rw[HS1.out] at this;omega
 have hb12:H9 (N+3) W1 w2:=by have:=HB2.out;rwa [HS1.out] at this
 have hb13:H9 (N+3) W1 W3:=by rw[←hW3];exact hb12.alloc (by omega) _
 have hs3:W3.heap.size=T+1:=by rw[←hW3];simp[hT]
 have hr3:W3.heap[T]?=some (.cells #[.bool b,.string s] 32 (0,0)):=by rw[←hW3,←hT];exact alloc_at _ _
 by_cases hz:z=0
 ·subst hz
  have HRR:Ia (R=bM (((b,s):Ty)==(xd.ptr,xd.tgt)&&b==false) 7):=by unfold Ia;rw[HE.out,if_neg (by simp)]
  obtain⟨W5,hW5⟩:=zE (W3.alloc (.cells #[.bool xa.ptr,.string xa.tgt] 32));have hb15:H9 (N+3) W1 W5:=by rw[←hW5];exact hb13.alloc (by omega) _
  have hs5:W5.heap.size=T+2:=by rw[←hW5];simp[hs3]
  have hr5:W5.heap[T+1]?=some (.cells #[.bool xa.ptr,.string xa.tgt] 32 (0,0)):=by rw[←hW5,←hs3];exact alloc_at _ _
  have hr35:W5.heap[T]?=some (.cells #[.bool b,.string s] 32 (0,0)):=by rw[←hW5,Hy _ _ _ (by omega)];exact hr3
  obtain⟨c0,c1,c2,c3,c4,c5,c6,c7,_⟩:=HK.out W3 hb13;have HW5:=zH hW5;have HB5:=zH hb15;have HR5:=zH hr5;have HR35:=zH hr35;have HS5:=zH hs5;have HB13:=zH hb13;obtain⟨d,hdd⟩:=zE (((b,s):Ty)==(xd.ptr,xd.tgt));have heq:∀w,(Op.equalIn 10000 32 (.agg #[.bool b,.string s]) (.agg #[.bool xd.ptr,.string xd.tgt])).run prog w= .ok d w:=fun w=>by rw[dC,hdd]
  rw[hdd] at HRR;have d0:((0:Int) != 0)=false:=rfl;clear hst hW5 hb15 hr5 hr35 hs5 hW3 hb13 hb12 HB2 hdd HE HF
  go_upto_region 5 with(fail)
  rw[HW5.out];clear c0 c1 c2 c3 c4 c5 c6 c7 hst2 hr3 HW5;obtain⟨c0,c1,c2,c3,c4,c5,c6,c7,_⟩:=HK.out W5 HB5.out;have k0:=zR HR5.out 0 (.bool xa.ptr);have k1:=zR HR5.out 1 (.string xa.tgt);have f0:W5.frozen? ⟨T+1,0,none⟩=false:=frozen_of_row _ _ _ _ _ HR5.out;have f1:W5.frozen? ⟨T+1,1,none⟩=false:=frozen_of_row _ _ _ _ _ HR5.out;have hlt:T+1<W5.heap.size:=by have:=HS5.out;omega
  go_upto_region 8 with(fail)
  obtain⟨W6,hW6⟩:=zE ((W5.setCell ⟨T+1,0,none⟩ (.bool xd.ptr)).setCell ⟨T+1,1,none⟩ (.string xd.tgt));rw[hW6];have hr6:W6.heap[T+1]?=some (.cells #[.bool xd.ptr,.string xd.tgt] 32 (0,0)):=by rw[←hW6];exact dW HR5.out
  have hb56:H9 (T+1) W5 W6:=by rw[←hW6];exact((Hw _ _).setCell (by show T+1≤T+1;omega) _).setCell (by show T+1≤T+1;omega) _
  have hr36:W6.heap[T]?=some (.cells #[.bool b,.string s] 32 (0,0)):=(hb56.block T (by omega)).trans HR35.out;have hb16:H9 (N+3) W1 W6:=HB5.out.trans (hb56.mono (by omega));clear c0 c1 c2 c3 c4 c5 c6 c7 k0 k1 f0 f1 hlt hW6;obtain⟨_,c1,_,_,_,_,_,_,hbw⟩:=HK.out W6 hb16;have k0:=zR hr6 0 (.bool xd.ptr);have k1:=zR hr6 1 (.string xd.tgt);have k2:=zR hr36 0 (.bool b);have k3:=zR hr36 1 (.string s);have HBW:=zH hbw;have HO:Ia (∀x,zP 51 #[.bool x,.int .i64 7] W6 (.int .i64 (bM (!x) 7))):=fun x=>bn x 7 W6;have HBF:Ia (∀w9,H9 W6.heap.size W6 w9→H9 N w w9):=fun w9 h9=>HBW.out.trans (h9.mono (by have:=HBW.out.size;rw[HN.out] at this;exact this));clear hr6 hr36 hb56 hb16 hbw;cases d<;>cases b<;>(go_wp2_with (go_at_call 51;refine(HO.out _).mono ?_;rintro e w7 ⟨rfl,hb7⟩;have HB7:=zH hb7;clear hb7);go_ret;rw[HRR.out,HN.out];exact⟨rfl,HBF.out _ HB7.out⟩)
 ·have HRR:Ia (R=z):=by unfold Ia;rw[HE.out,if_pos hz]
  have hzb:(z != 0)=true:=by rw[bne_iff_ne];exact hz
  have HBW:Ia (H9 N w W3):=(HK.out W3 hb13).2.2.2.2.2.2.2.2;clear HE HF HK hz hst hst2 hr3 hb13 hb12 hW3;go_wp2;go_ret;rw[HRR.out,HN.out];exact⟨rfl,HBW.out⟩
theorem wV (m:Mo)(g:Fn)(i:Ins)(w:H5)(h:nC w m g)(hop:i.op=8)(ha:isVar g.vs.length i.a=true)(ho:isVar g.vs.length i.b=true)(hk:m.known (ax g.vs i.a)=true):
  zP 90 #[.agg m.cells,.agg g.cells,.agg i.cells] w (.int .i64 (cu m g.vs i i.b false)):=by
 have HF:Ia (∀W,H9 w.heap.size w W→zP 127 #[.agg m.cells,.agg g.cells,.int .i64 i.a,.int .i64 i.f] W (.tuple #[uO (aH m g.vs i.a i.f).1,.int .i64 (aH m g.vs i.a i.f).2])):=fun W hW=>iJ m g i.a i.f W (h.below hW) ha hk;have HE:Ia (cu m g.vs i i.b false=if (aH m g.vs i.a i.f).2≠0 then(aH m g.vs i.a i.f).2 else bM ((aH m g.vs i.a i.f).1==ax g.vs i.b&&(aH m g.vs i.a i.f).1.1==false) 7):=rfl;obtain⟨ka,vb,vo,xa,hka,hka2,hvA,hvb,hta,ha0,ha1⟩:=dN h.vars ha;obtain⟨kd,vb2,vo2,xd,hkd,hkd2,hvA2,_,htd,hd0,hd1⟩:=dN h.vars ho;rw[hvA] at hvA2;simp only[Option.some.injEq,Addr.mk.injEq,and_true] at hvA2;obtain⟨rfl,rfl⟩:=hvA2;rw[htd] at HE;obtain⟨R,hR⟩:=zE (cu m g.vs i i.b false);rw[hR] at HE⊢;obtain⟨⟨⟨b,s⟩,z⟩,hz⟩:∃F,aH m g.vs i.a i.f=F:=⟨_,rfl⟩
 rw[hz] at HE HF;unfold uO at HF;have hst:∀(w:H5)(c:Array Value),c.size=2→(storeCells ⟨w.heap.size,0,none⟩ [.bool b,.string s] 0).run prog (w.alloc (.cells c 32))= .ok () (w.alloc (.cells #[.bool b,.string s] 32)):=fun w c hc=>
  run_storeCells_new (P:=prog) w 32 c #[.bool b,.string s] (by show _=some 2;kernel_rfl) hc (by simp[Value.oneCell'])
 have hst2:∀(w:H5)(c:Array Value),c.size=2→(storeCells ⟨w.heap.size,0,none⟩ [.bool xa.ptr,.string xa.tgt] 0).run prog (w.alloc (.cells c 32))= .ok () (w.alloc (.cells #[.bool xa.ptr,.string xa.tgt] 32)):=fun w c hc=>
  run_storeCells_new (P:=prog) w 32 c #[.bool xa.ptr,.string xa.tgt] (by show _=some 2;kernel_rfl) hc (by simp[Value.oneCell'])
 have hnv:=h.nv;have hvl:=h.vl;unfold maxLen at hvl;have hkaI:(ka:Int)<(g.vs.length:Int):=by omega
 have hkdI:(kd:Int)<(g.vs.length:Int):=by omega
 have hgc:=jO hnv hvA;rw[hgc] at HF⊢;simp only[Mo.cells,Ins.cells] at HF⊢;rw[hka] at HF;rw[hop,hka,hkd];simp only[gc] at HF⊢;obtain⟨N,hN⟩:=zE w.heap.size;obtain⟨W1,hW1⟩:=zE (((w.alloc (.cells m.cells 25)).alloc (.cells (gc g (some ⟨vb,vo,none⟩)) 38)).alloc (.cells i.cells 42));obtain⟨hb1,hs1,r0,r1,r2⟩:=CB hW1;rw[hN] at hb1 hs1 r0 r1 r2;have HR1:Ia (W1.heap[N+1]?=some (.cells #[.string g.c.nm,.int .i64 g.c.par,.slice (some ⟨vb,vo,none⟩) g.vs.length g.c.varsC,.bool g.c.rp,.string g.c.rto,.int .i64 g.c.rcl,.slice g.c.fromA g.c.nfrom g.c.fromC,.slice g.c.insA g.c.ins.length g.c.insC] 38 (0,0))):=r1;have HK:Ia (∀W,H9 (N+3) W1 W→W.cell? ⟨N+1,2,none⟩=some (.slice (some ⟨vb,vo,none⟩) g.vs.length g.c.varsC)∧W.cell? ⟨N+2,0,none⟩=some (.int .i64 8)∧W.cell? ⟨N+2,2,none⟩=some (.int .i64 (ka:Int))∧W.cell? ⟨N+2,3,none⟩=some (.int .i64 (kd:Int))∧
   W.cell? ⟨vb,vo+ka*3,none⟩=some (.bool xa.ptr)∧W.cell? ⟨vb,vo+ka*3+1,none⟩=some (.string xa.tgt)∧W.cell? ⟨vb,vo+kd*3,none⟩=some (.bool xd.ptr)∧W.cell? ⟨vb,vo+kd*3+1,none⟩=some (.string xd.tgt)∧H9 N w W):=fun W hW=>by
  have p1:=(hW.block (N+1) (by omega)).trans r1;have p2:=(hW.block (N+2) (by omega)).trans r2;have hbw:=hb1.trans (hW.mono (by omega));refine⟨?_, ?_, ?_, ?_, ?_, ?_, ?_, ?_,hbw⟩
  ·rw[cell_of_row _ _ _ _ _ _ p1];rfl
  ·rw[cell_of_row _ _ _ _ _ _ p2,←hop];rfl
  ·rw[cell_of_row _ _ _ _ _ _ p2,←hka];rfl
  ·rw[cell_of_row _ _ _ _ _ _ p2,←hkd];rfl
  ·rw[hbw.cell (p:=⟨vb,_,none⟩) (show vb<N by omega)];exact ha0
  ·rw[hbw.cell (p:=⟨vb,_,none⟩) (show vb<N by omega)];exact ha1
  ·rw[hbw.cell (p:=⟨vb,_,none⟩) (show vb<N by omega)];exact hd0
  ·rw[hbw.cell (p:=⟨vb,_,none⟩) (show vb<N by omega)];exact hd1
 have c0:=zR r0 0 (.slice m.sA m.ss.length m.sC);have c1:=zR r0 1 (.slice m.fA m.fs.length m.fC);have c2:W1.cell? ⟨N+2,2,none⟩=some (.int .i64 (ka:Int)):=by rw[cell_of_row _ _ _ _ _ _ r2,←hka];rfl
 have c3:=zR r2 4 (.int .i64 i.f);have hW1':=hW1;simp only[Mo.cells,Ins.cells,gc] at hW1';rw[hop,hka] at hW1';rw[hkd] at hW1';have HW1:=zH hW1';have HN:=zH hN;have HB1:=zH hb1;have HS1:=zH hs1;rw[hN] at HF;clear h ha ho hk hop hka hkd hvA hvb hta htd ha0 ha1 hd0 hd1 hR hz hgc hW1 hW1' hb1 r0 r1 r2 hnv hkd2 hka2 hs1;go_enter func90,ntmps90
 go_upto_region 1 with(fail)
 rw[HW1.out]
 go_upto_region 2 with(first
  |(refine wpList_load_row rfl 38 _ rfl (N+1) rfl 38 _ (0,0) _ HR1.out underlying38 rfl (by kernel_rfl) ?_)
  |(go_at_call 127;refine(HF.out _ HB1.out).mono ?_;rintro e w2 ⟨rfl,hb2⟩;have HB2:=zH hb2))
 clear c0 c1 c2 c3 HW1;obtain⟨T,hT⟩:=zE w2.heap.size;obtain⟨W3,hW3⟩:=zE (w2.alloc (.cells #[.bool b,.string s] 32));rw[hT,hW3];have hTN:N+3≤T:=by have:=HB2.out.size;rw[HS1.out] at this;omega
 have hb12:H9 (N+3) W1 w2:=by have:=HB2.out;rwa [HS1.out] at this
 have hb13:H9 (N+3) W1 W3:=by rw[←hW3];exact hb12.alloc (by omega) _
 have hs3:W3.heap.size=T+1:=by rw[←hW3];simp[hT]
 have hr3:W3.heap[T]?=some (.cells #[.bool b,.string s] 32 (0,0)):=by rw[←hW3,←hT];exact alloc_at _ _
 by_cases hz:z=0
 ·subst hz
  have HRR:Ia (R=bM (((b,s):Ty)==(xd.ptr,xd.tgt)&&b==false) 7):=by unfold Ia;rw[HE.out,if_neg (by simp)]
  obtain⟨W5,hW5⟩:=zE (W3.alloc (.cells #[.bool xa.ptr,.string xa.tgt] 32));have hb15:H9 (N+3) W1 W5:=by rw[←hW5];exact hb13.alloc (by omega) _
  have hs5:W5.heap.size=T+2:=by rw[←hW5];simp[hs3]
  have hr5:W5.heap[T+1]?=some (.cells #[.bool xa.ptr,.string xa.tgt] 32 (0,0)):=by rw[←hW5,←hs3];exact alloc_at _ _
  have hr35:W5.heap[T]?=some (.cells #[.bool b,.string s] 32 (0,0)):=by rw[←hW5,Hy _ _ _ (by omega)];exact hr3
  obtain⟨c0,c1,c2,c3,c4,c5,c6,c7,_⟩:=HK.out W3 hb13;have HW5:=zH hW5;have HB5:=zH hb15;have HR5:=zH hr5;have HR35:=zH hr35;have HS5:=zH hs5;have HB13:=zH hb13;obtain⟨d,hdd⟩:=zE (((b,s):Ty)==(xd.ptr,xd.tgt));have heq:∀w,(Op.equalIn 10000 32 (.agg #[.bool b,.string s]) (.agg #[.bool xd.ptr,.string xd.tgt])).run prog w= .ok d w:=fun w=>by rw[dC,hdd]
  rw[hdd] at HRR;have d0:((0:Int) != 0)=false:=rfl;clear hst hW5 hb15 hr5 hr35 hs5 hW3 hb13 hb12 HB2 hdd HE HF
  go_upto_region 5 with(fail)
  rw[HW5.out];clear c0 c1 c2 c3 c4 c5 c6 c7 hst2 hr3 HW5;obtain⟨c0,c1,c2,c3,c4,c5,c6,c7,_⟩:=HK.out W5 HB5.out;have k0:=zR HR5.out 0 (.bool xa.ptr);have k1:=zR HR5.out 1 (.string xa.tgt);have f0:W5.frozen? ⟨T+1,0,none⟩=false:=frozen_of_row _ _ _ _ _ HR5.out;have f1:W5.frozen? ⟨T+1,1,none⟩=false:=frozen_of_row _ _ _ _ _ HR5.out;have hlt:T+1<W5.heap.size:=by have:=HS5.out;omega
  go_upto_region 8 with(fail)
  obtain⟨W6,hW6⟩:=zE ((W5.setCell ⟨T+1,0,none⟩ (.bool xd.ptr)).setCell ⟨T+1,1,none⟩ (.string xd.tgt));rw[hW6];have hr6:W6.heap[T+1]?=some (.cells #[.bool xd.ptr,.string xd.tgt] 32 (0,0)):=by rw[←hW6];exact dW HR5.out
  have hb56:H9 (T+1) W5 W6:=by rw[←hW6];exact((Hw _ _).setCell (by show T+1≤T+1;omega) _).setCell (by show T+1≤T+1;omega) _
  have hr36:W6.heap[T]?=some (.cells #[.bool b,.string s] 32 (0,0)):=(hb56.block T (by omega)).trans HR35.out;have hb16:H9 (N+3) W1 W6:=HB5.out.trans (hb56.mono (by omega));clear c0 c1 c2 c3 c4 c5 c6 c7 k0 k1 f0 f1 hlt hW6;obtain⟨_,c1,_,_,_,_,_,_,hbw⟩:=HK.out W6 hb16;have k0:=zR hr6 0 (.bool xd.ptr);have k1:=zR hr6 1 (.string xd.tgt);have k2:=zR hr36 0 (.bool b);have k3:=zR hr36 1 (.string s);have HBW:=zH hbw;have HO:Ia (∀x,zP 51 #[.bool x,.int .i64 7] W6 (.int .i64 (bM (!x) 7))):=fun x=>bn x 7 W6;have HBF:Ia (∀w9,H9 W6.heap.size W6 w9→H9 N w w9):=fun w9 h9=>HBW.out.trans (h9.mono (by have:=HBW.out.size;rw[HN.out] at this;exact this));clear hr6 hr36 hb56 hb16 hbw;cases d<;>cases b<;>(go_wp2_with (go_at_call 51;refine(HO.out _).mono ?_;rintro e w7 ⟨rfl,hb7⟩;have HB7:=zH hb7;clear hb7);go_ret;rw[HRR.out,HN.out];exact⟨rfl,HBF.out _ HB7.out⟩)
 ·have HRR:Ia (R=z):=by unfold Ia;rw[HE.out,if_pos hz]
  have hzb:(z != 0)=true:=by rw[bne_iff_ne];exact hz
  have HBW:Ia (H9 N w W3):=(HK.out W3 hb13).2.2.2.2.2.2.2.2;clear HE HF HK hz hst hst2 hr3 hb13 hb12 hW3;go_wp2;go_ret;rw[HRR.out,HN.out];exact⟨rfl,HBW.out⟩
theorem tF (m:Mo)(g:Fn)(i:Ins)(w:H5)(h:nC w m g)(hop:i.op=10)(ha:isVar g.vs.length i.a=true)(ho:isVar g.vs.length i.d=true)(hk:m.known (ax g.vs i.a)=true):
  zP 90 #[.agg m.cells,.agg g.cells,.agg i.cells] w (.int .i64 (cu m g.vs i i.d true)):=by
 have HF:Ia (∀W,H9 w.heap.size w W→zP 127 #[.agg m.cells,.agg g.cells,.int .i64 i.a,.int .i64 i.f] W (.tuple #[uO (aH m g.vs i.a i.f).1,.int .i64 (aH m g.vs i.a i.f).2])):=fun W hW=>iJ m g i.a i.f W (h.below hW) ha hk;have HE:Ia (cu m g.vs i i.d true=if (aH m g.vs i.a i.f).2≠0 then(aH m g.vs i.a i.f).2 else bM ((aH m g.vs i.a i.f).1==ax g.vs i.d&&(aH m g.vs i.a i.f).1.1==true) 7):=rfl;obtain⟨ka,vb,vo,xa,hka,hka2,hvA,hvb,hta,ha0,ha1⟩:=dN h.vars ha;obtain⟨kd,vb2,vo2,xd,hkd,hkd2,hvA2,_,htd,hd0,hd1⟩:=dN h.vars ho;rw[hvA] at hvA2;simp only[Option.some.injEq,Addr.mk.injEq,and_true] at hvA2;obtain⟨rfl,rfl⟩:=hvA2;rw[htd] at HE;obtain⟨R,hR⟩:=zE (cu m g.vs i i.d true);rw[hR] at HE⊢;obtain⟨⟨⟨b,s⟩,z⟩,hz⟩:∃F,aH m g.vs i.a i.f=F:=⟨_,rfl⟩
 rw[hz] at HE HF;unfold uO at HF;have hst:∀(w:H5)(c:Array Value),c.size=2→(storeCells ⟨w.heap.size,0,none⟩ [.bool b,.string s] 0).run prog (w.alloc (.cells c 32))= .ok () (w.alloc (.cells #[.bool b,.string s] 32)):=fun w c hc=>
  run_storeCells_new (P:=prog) w 32 c #[.bool b,.string s] (by show _=some 2;kernel_rfl) hc (by simp[Value.oneCell'])
 have hst2:∀(w:H5)(c:Array Value),c.size=2→(storeCells ⟨w.heap.size,0,none⟩ [.bool xa.ptr,.string xa.tgt] 0).run prog (w.alloc (.cells c 32))= .ok () (w.alloc (.cells #[.bool xa.ptr,.string xa.tgt] 32)):=fun w c hc=>
  run_storeCells_new (P:=prog) w 32 c #[.bool xa.ptr,.string xa.tgt] (by show _=some 2;kernel_rfl) hc (by simp[Value.oneCell'])
 have hnv:=h.nv;have hvl:=h.vl;unfold maxLen at hvl;have hkaI:(ka:Int)<(g.vs.length:Int):=by omega
 have hkdI:(kd:Int)<(g.vs.length:Int):=by omega
 have hgc:=jO hnv hvA;rw[hgc] at HF⊢;simp only[Mo.cells,Ins.cells] at HF⊢;rw[hka] at HF;rw[hop,hka,hkd];simp only[gc] at HF⊢;obtain⟨N,hN⟩:=zE w.heap.size;obtain⟨W1,hW1⟩:=zE (((w.alloc (.cells m.cells 25)).alloc (.cells (gc g (some ⟨vb,vo,none⟩)) 38)).alloc (.cells i.cells 42));obtain⟨hb1,hs1,r0,r1,r2⟩:=CB hW1;rw[hN] at hb1 hs1 r0 r1 r2;have HR1:Ia (W1.heap[N+1]?=some (.cells #[.string g.c.nm,.int .i64 g.c.par,.slice (some ⟨vb,vo,none⟩) g.vs.length g.c.varsC,.bool g.c.rp,.string g.c.rto,.int .i64 g.c.rcl,.slice g.c.fromA g.c.nfrom g.c.fromC,.slice g.c.insA g.c.ins.length g.c.insC] 38 (0,0))):=r1;have HK:Ia (∀W,H9 (N+3) W1 W→W.cell? ⟨N+1,2,none⟩=some (.slice (some ⟨vb,vo,none⟩) g.vs.length g.c.varsC)∧W.cell? ⟨N+2,0,none⟩=some (.int .i64 10)∧W.cell? ⟨N+2,2,none⟩=some (.int .i64 (ka:Int))∧W.cell? ⟨N+2,1,none⟩=some (.int .i64 (kd:Int))∧
   W.cell? ⟨vb,vo+ka*3,none⟩=some (.bool xa.ptr)∧W.cell? ⟨vb,vo+ka*3+1,none⟩=some (.string xa.tgt)∧W.cell? ⟨vb,vo+kd*3,none⟩=some (.bool xd.ptr)∧W.cell? ⟨vb,vo+kd*3+1,none⟩=some (.string xd.tgt)∧H9 N w W):=fun W hW=>by
  have p1:=(hW.block (N+1) (by omega)).trans r1;have p2:=(hW.block (N+2) (by omega)).trans r2;have hbw:=hb1.trans (hW.mono (by omega));refine⟨?_, ?_, ?_, ?_, ?_, ?_, ?_, ?_,hbw⟩
  ·rw[cell_of_row _ _ _ _ _ _ p1];rfl
  ·rw[cell_of_row _ _ _ _ _ _ p2,←hop];rfl
  ·rw[cell_of_row _ _ _ _ _ _ p2,←hka];rfl
  ·rw[cell_of_row _ _ _ _ _ _ p2,←hkd];rfl
  ·rw[hbw.cell (p:=⟨vb,_,none⟩) (show vb<N by omega)];exact ha0
  ·rw[hbw.cell (p:=⟨vb,_,none⟩) (show vb<N by omega)];exact ha1
  ·rw[hbw.cell (p:=⟨vb,_,none⟩) (show vb<N by omega)];exact hd0
  ·rw[hbw.cell (p:=⟨vb,_,none⟩) (show vb<N by omega)];exact hd1
 have c0:=zR r0 0 (.slice m.sA m.ss.length m.sC);have c1:=zR r0 1 (.slice m.fA m.fs.length m.fC);have c2:W1.cell? ⟨N+2,2,none⟩=some (.int .i64 (ka:Int)):=by rw[cell_of_row _ _ _ _ _ _ r2,←hka];rfl
 have c3:=zR r2 4 (.int .i64 i.f);have hW1':=hW1;simp only[Mo.cells,Ins.cells,gc] at hW1';rw[hop,hka] at hW1';rw[hkd] at hW1';have HW1:=zH hW1';have HN:=zH hN;have HB1:=zH hb1;have HS1:=zH hs1;rw[hN] at HF;clear h ha ho hk hop hka hkd hvA hvb hta htd ha0 ha1 hd0 hd1 hR hz hgc hW1 hW1' hb1 r0 r1 r2 hnv hkd2 hka2 hs1;go_enter func90,ntmps90
 go_upto_region 1 with(fail)
 rw[HW1.out]
 go_upto_region 2 with(first
  |(refine wpList_load_row rfl 38 _ rfl (N+1) rfl 38 _ (0,0) _ HR1.out underlying38 rfl (by kernel_rfl) ?_)
  |(go_at_call 127;refine(HF.out _ HB1.out).mono ?_;rintro e w2 ⟨rfl,hb2⟩;have HB2:=zH hb2))
 clear c0 c1 c2 c3 HW1;obtain⟨T,hT⟩:=zE w2.heap.size;obtain⟨W3,hW3⟩:=zE (w2.alloc (.cells #[.bool b,.string s] 32));rw[hT,hW3];have hTN:N+3≤T:=by have:=HB2.out.size;rw[HS1.out] at this;omega
 have hb12:H9 (N+3) W1 w2:=by have:=HB2.out;rwa [HS1.out] at this
 have hb13:H9 (N+3) W1 W3:=by rw[←hW3];exact hb12.alloc (by omega) _
 have hs3:W3.heap.size=T+1:=by rw[←hW3];simp[hT]
 have hr3:W3.heap[T]?=some (.cells #[.bool b,.string s] 32 (0,0)):=by rw[←hW3,←hT];exact alloc_at _ _
 by_cases hz:z=0
 ·subst hz
  have HRR:Ia (R=bM (((b,s):Ty)==(xd.ptr,xd.tgt)&&b==true) 7):=by unfold Ia;rw[HE.out,if_neg (by simp)]
  obtain⟨W5,hW5⟩:=zE (W3.alloc (.cells #[.bool xa.ptr,.string xa.tgt] 32));have hb15:H9 (N+3) W1 W5:=by rw[←hW5];exact hb13.alloc (by omega) _
  have hs5:W5.heap.size=T+2:=by rw[←hW5];simp[hs3]
  have hr5:W5.heap[T+1]?=some (.cells #[.bool xa.ptr,.string xa.tgt] 32 (0,0)):=by rw[←hW5,←hs3];exact alloc_at _ _
  have hr35:W5.heap[T]?=some (.cells #[.bool b,.string s] 32 (0,0)):=by rw[←hW5,Hy _ _ _ (by omega)];exact hr3
  obtain⟨c0,c1,c2,c3,c4,c5,c6,c7,_⟩:=HK.out W3 hb13;have HW5:=zH hW5;have HB5:=zH hb15;have HR5:=zH hr5;have HR35:=zH hr35;have HS5:=zH hs5;have HB13:=zH hb13;obtain⟨d,hdd⟩:=zE (((b,s):Ty)==(xd.ptr,xd.tgt));have heq:∀w,(Op.equalIn 10000 32 (.agg #[.bool b,.string s]) (.agg #[.bool xd.ptr,.string xd.tgt])).run prog w= .ok d w:=fun w=>by rw[dC,hdd]
  rw[hdd] at HRR;have d0:((0:Int) != 0)=false:=rfl;clear hst hW5 hb15 hr5 hr35 hs5 hW3 hb13 hb12 HB2 hdd HE HF
  go_upto_region 5 with(fail)
  rw[HW5.out];clear c0 c1 c2 c3 c4 c5 c6 c7 hst2 hr3 HW5;obtain⟨c0,c1,c2,c3,c4,c5,c6,c7,_⟩:=HK.out W5 HB5.out;have k0:=zR HR5.out 0 (.bool xa.ptr);have k1:=zR HR5.out 1 (.string xa.tgt);have f0:W5.frozen? ⟨T+1,0,none⟩=false:=frozen_of_row _ _ _ _ _ HR5.out;have f1:W5.frozen? ⟨T+1,1,none⟩=false:=frozen_of_row _ _ _ _ _ HR5.out;have hlt:T+1<W5.heap.size:=by have:=HS5.out;omega
  go_upto_region 8 with(fail)
  obtain⟨W6,hW6⟩:=zE ((W5.setCell ⟨T+1,0,none⟩ (.bool xd.ptr)).setCell ⟨T+1,1,none⟩ (.string xd.tgt));rw[hW6];have hr6:W6.heap[T+1]?=some (.cells #[.bool xd.ptr,.string xd.tgt] 32 (0,0)):=by rw[←hW6];exact dW HR5.out
  have hb56:H9 (T+1) W5 W6:=by rw[←hW6];exact((Hw _ _).setCell (by show T+1≤T+1;omega) _).setCell (by show T+1≤T+1;omega) _
  have hr36:W6.heap[T]?=some (.cells #[.bool b,.string s] 32 (0,0)):=(hb56.block T (by omega)).trans HR35.out;have hb16:H9 (N+3) W1 W6:=HB5.out.trans (hb56.mono (by omega));clear c0 c1 c2 c3 c4 c5 c6 c7 k0 k1 f0 f1 hlt hW6;obtain⟨_,c1,_,_,_,_,_,_,hbw⟩:=HK.out W6 hb16;have k0:=zR hr6 0 (.bool xd.ptr);have k1:=zR hr6 1 (.string xd.tgt);have k2:=zR hr36 0 (.bool b);have k3:=zR hr36 1 (.string s);have HBW:=zH hbw;have HO:Ia (∀x,zP 51 #[.bool x,.int .i64 7] W6 (.int .i64 (bM (!x) 7))):=fun x=>bn x 7 W6;have HBF:Ia (∀w9,H9 W6.heap.size W6 w9→H9 N w w9):=fun w9 h9=>HBW.out.trans (h9.mono (by have:=HBW.out.size;rw[HN.out] at this;exact this));clear hr6 hr36 hb56 hb16 hbw;cases d<;>cases b<;>(go_wp2_with (go_at_call 51;refine(HO.out _).mono ?_;rintro e w7 ⟨rfl,hb7⟩;have HB7:=zH hb7;clear hb7);go_ret;rw[HRR.out,HN.out];exact⟨rfl,HBF.out _ HB7.out⟩)
 ·have HRR:Ia (R=z):=by unfold Ia;rw[HE.out,if_pos hz]
  have hzb:(z != 0)=true:=by rw[bne_iff_ne];exact hz
  have HBW:Ia (H9 N w W3):=(HK.out W3 hb13).2.2.2.2.2.2.2.2;clear HE HF HK hz hst hst2 hr3 hb13 hb12 hW3;go_wp2;go_ret;rw[HRR.out,HN.out];exact⟨rfl,HBW.out⟩
theorem tH (m:Mo)(g:Fn)(i:Ins)(w:H5)(h:nC w m g)(hop:i.op=11)(ha:isVar g.vs.length i.a=true)(ho:isVar g.vs.length i.b=true)(hk:m.known (ax g.vs i.a)=true):
  zP 90 #[.agg m.cells,.agg g.cells,.agg i.cells] w (.int .i64 (cu m g.vs i i.b true)):=by
 have HF:Ia (∀W,H9 w.heap.size w W→zP 127 #[.agg m.cells,.agg g.cells,.int .i64 i.a,.int .i64 i.f] W (.tuple #[uO (aH m g.vs i.a i.f).1,.int .i64 (aH m g.vs i.a i.f).2])):=fun W hW=>iJ m g i.a i.f W (h.below hW) ha hk;have HE:Ia (cu m g.vs i i.b true=if (aH m g.vs i.a i.f).2≠0 then(aH m g.vs i.a i.f).2 else bM ((aH m g.vs i.a i.f).1==ax g.vs i.b&&(aH m g.vs i.a i.f).1.1==true) 7):=rfl;obtain⟨ka,vb,vo,xa,hka,hka2,hvA,hvb,hta,ha0,ha1⟩:=dN h.vars ha;obtain⟨kd,vb2,vo2,xd,hkd,hkd2,hvA2,_,htd,hd0,hd1⟩:=dN h.vars ho;rw[hvA] at hvA2;simp only[Option.some.injEq,Addr.mk.injEq,and_true] at hvA2;obtain⟨rfl,rfl⟩:=hvA2;rw[htd] at HE;obtain⟨R,hR⟩:=zE (cu m g.vs i i.b true);rw[hR] at HE⊢;obtain⟨⟨⟨b,s⟩,z⟩,hz⟩:∃F,aH m g.vs i.a i.f=F:=⟨_,rfl⟩
 rw[hz] at HE HF;unfold uO at HF;have hst:∀(w:H5)(c:Array Value),c.size=2→(storeCells ⟨w.heap.size,0,none⟩ [.bool b,.string s] 0).run prog (w.alloc (.cells c 32))= .ok () (w.alloc (.cells #[.bool b,.string s] 32)):=fun w c hc=>
  run_storeCells_new (P:=prog) w 32 c #[.bool b,.string s] (by show _=some 2;kernel_rfl) hc (by simp[Value.oneCell'])
 have hst2:∀(w:H5)(c:Array Value),c.size=2→(storeCells ⟨w.heap.size,0,none⟩ [.bool xa.ptr,.string xa.tgt] 0).run prog (w.alloc (.cells c 32))= .ok () (w.alloc (.cells #[.bool xa.ptr,.string xa.tgt] 32)):=fun w c hc=>
  run_storeCells_new (P:=prog) w 32 c #[.bool xa.ptr,.string xa.tgt] (by show _=some 2;kernel_rfl) hc (by simp[Value.oneCell'])
 have hnv:=h.nv;have hvl:=h.vl;unfold maxLen at hvl;have hkaI:(ka:Int)<(g.vs.length:Int):=by omega
 have hkdI:(kd:Int)<(g.vs.length:Int):=by omega
 have hgc:=jO hnv hvA;rw[hgc] at HF⊢;simp only[Mo.cells,Ins.cells] at HF⊢;rw[hka] at HF;rw[hop,hka,hkd];simp only[gc] at HF⊢;obtain⟨N,hN⟩:=zE w.heap.size;obtain⟨W1,hW1⟩:=zE (((w.alloc (.cells m.cells 25)).alloc (.cells (gc g (some ⟨vb,vo,none⟩)) 38)).alloc (.cells i.cells 42));obtain⟨hb1,hs1,r0,r1,r2⟩:=CB hW1;rw[hN] at hb1 hs1 r0 r1 r2;have HR1:Ia (W1.heap[N+1]?=some (.cells #[.string g.c.nm,.int .i64 g.c.par,.slice (some ⟨vb,vo,none⟩) g.vs.length g.c.varsC,.bool g.c.rp,.string g.c.rto,.int .i64 g.c.rcl,.slice g.c.fromA g.c.nfrom g.c.fromC,.slice g.c.insA g.c.ins.length g.c.insC] 38 (0,0))):=r1;have HK:Ia (∀W,H9 (N+3) W1 W→W.cell? ⟨N+1,2,none⟩=some (.slice (some ⟨vb,vo,none⟩) g.vs.length g.c.varsC)∧W.cell? ⟨N+2,0,none⟩=some (.int .i64 11)∧W.cell? ⟨N+2,2,none⟩=some (.int .i64 (ka:Int))∧W.cell? ⟨N+2,3,none⟩=some (.int .i64 (kd:Int))∧
   W.cell? ⟨vb,vo+ka*3,none⟩=some (.bool xa.ptr)∧W.cell? ⟨vb,vo+ka*3+1,none⟩=some (.string xa.tgt)∧W.cell? ⟨vb,vo+kd*3,none⟩=some (.bool xd.ptr)∧W.cell? ⟨vb,vo+kd*3+1,none⟩=some (.string xd.tgt)∧H9 N w W):=fun W hW=>by
  have p1:=(hW.block (N+1) (by omega)).trans r1;have p2:=(hW.block (N+2) (by omega)).trans r2;have hbw:=hb1.trans (hW.mono (by omega));refine⟨?_, ?_, ?_, ?_, ?_, ?_, ?_, ?_,hbw⟩
  ·rw[cell_of_row _ _ _ _ _ _ p1];rfl
  ·rw[cell_of_row _ _ _ _ _ _ p2,←hop];rfl
  ·rw[cell_of_row _ _ _ _ _ _ p2,←hka];rfl
  ·rw[cell_of_row _ _ _ _ _ _ p2,←hkd];rfl
  ·rw[hbw.cell (p:=⟨vb,_,none⟩) (show vb<N by omega)];exact ha0
  ·rw[hbw.cell (p:=⟨vb,_,none⟩) (show vb<N by omega)];exact ha1
  ·rw[hbw.cell (p:=⟨vb,_,none⟩) (show vb<N by omega)];exact hd0
  ·rw[hbw.cell (p:=⟨vb,_,none⟩) (show vb<N by omega)];exact hd1
 have c0:=zR r0 0 (.slice m.sA m.ss.length m.sC);have c1:=zR r0 1 (.slice m.fA m.fs.length m.fC);have c2:W1.cell? ⟨N+2,2,none⟩=some (.int .i64 (ka:Int)):=by rw[cell_of_row _ _ _ _ _ _ r2,←hka];rfl
 have c3:=zR r2 4 (.int .i64 i.f);have hW1':=hW1;simp only[Mo.cells,Ins.cells,gc] at hW1';rw[hop,hka] at hW1';rw[hkd] at hW1';have HW1:=zH hW1';have HN:=zH hN;have HB1:=zH hb1;have HS1:=zH hs1;rw[hN] at HF;clear h ha ho hk hop hka hkd hvA hvb hta htd ha0 ha1 hd0 hd1 hR hz hgc hW1 hW1' hb1 r0 r1 r2 hnv hkd2 hka2 hs1;go_enter func90,ntmps90
 go_upto_region 1 with(fail)
 rw[HW1.out]
 go_upto_region 2 with(first
  |(refine wpList_load_row rfl 38 _ rfl (N+1) rfl 38 _ (0,0) _ HR1.out underlying38 rfl (by kernel_rfl) ?_)
  |(go_at_call 127;refine(HF.out _ HB1.out).mono ?_;rintro e w2 ⟨rfl,hb2⟩;have HB2:=zH hb2))
 clear c0 c1 c2 c3 HW1;obtain⟨T,hT⟩:=zE w2.heap.size;obtain⟨W3,hW3⟩:=zE (w2.alloc (.cells #[.bool b,.string s] 32));rw[hT,hW3];have hTN:N+3≤T:=by have:=HB2.out.size;rw[HS1.out] at this;omega
 have hb12:H9 (N+3) W1 w2:=by have:=HB2.out;rwa [HS1.out] at this
 have hb13:H9 (N+3) W1 W3:=by rw[←hW3];exact hb12.alloc (by omega) _
 have hs3:W3.heap.size=T+1:=by rw[←hW3];simp[hT]
 have hr3:W3.heap[T]?=some (.cells #[.bool b,.string s] 32 (0,0)):=by rw[←hW3,←hT];exact alloc_at _ _
 by_cases hz:z=0
 ·subst hz
  have HRR:Ia (R=bM (((b,s):Ty)==(xd.ptr,xd.tgt)&&b==true) 7):=by unfold Ia;rw[HE.out,if_neg (by simp)]
  obtain⟨W5,hW5⟩:=zE (W3.alloc (.cells #[.bool xa.ptr,.string xa.tgt] 32));have hb15:H9 (N+3) W1 W5:=by rw[←hW5];exact hb13.alloc (by omega) _
  have hs5:W5.heap.size=T+2:=by rw[←hW5];simp[hs3]
  have hr5:W5.heap[T+1]?=some (.cells #[.bool xa.ptr,.string xa.tgt] 32 (0,0)):=by rw[←hW5,←hs3];exact alloc_at _ _
  have hr35:W5.heap[T]?=some (.cells #[.bool b,.string s] 32 (0,0)):=by rw[←hW5,Hy _ _ _ (by omega)];exact hr3
  obtain⟨c0,c1,c2,c3,c4,c5,c6,c7,_⟩:=HK.out W3 hb13;have HW5:=zH hW5;have HB5:=zH hb15;have HR5:=zH hr5;have HR35:=zH hr35;have HS5:=zH hs5;have HB13:=zH hb13;obtain⟨d,hdd⟩:=zE (((b,s):Ty)==(xd.ptr,xd.tgt));have heq:∀w,(Op.equalIn 10000 32 (.agg #[.bool b,.string s]) (.agg #[.bool xd.ptr,.string xd.tgt])).run prog w= .ok d w:=fun w=>by rw[dC,hdd]
  rw[hdd] at HRR;have d0:((0:Int) != 0)=false:=rfl;clear hst hW5 hb15 hr5 hr35 hs5 hW3 hb13 hb12 HB2 hdd HE HF
  go_upto_region 5 with(fail)
  rw[HW5.out];clear c0 c1 c2 c3 c4 c5 c6 c7 hst2 hr3 HW5;obtain⟨c0,c1,c2,c3,c4,c5,c6,c7,_⟩:=HK.out W5 HB5.out;have k0:=zR HR5.out 0 (.bool xa.ptr);have k1:=zR HR5.out 1 (.string xa.tgt);have f0:W5.frozen? ⟨T+1,0,none⟩=false:=frozen_of_row _ _ _ _ _ HR5.out;have f1:W5.frozen? ⟨T+1,1,none⟩=false:=frozen_of_row _ _ _ _ _ HR5.out;have hlt:T+1<W5.heap.size:=by have:=HS5.out;omega
  go_upto_region 8 with(fail)
  obtain⟨W6,hW6⟩:=zE ((W5.setCell ⟨T+1,0,none⟩ (.bool xd.ptr)).setCell ⟨T+1,1,none⟩ (.string xd.tgt));rw[hW6];have hr6:W6.heap[T+1]?=some (.cells #[.bool xd.ptr,.string xd.tgt] 32 (0,0)):=by rw[←hW6];exact dW HR5.out
  have hb56:H9 (T+1) W5 W6:=by rw[←hW6];exact((Hw _ _).setCell (by show T+1≤T+1;omega) _).setCell (by show T+1≤T+1;omega) _
  have hr36:W6.heap[T]?=some (.cells #[.bool b,.string s] 32 (0,0)):=(hb56.block T (by omega)).trans HR35.out;have hb16:H9 (N+3) W1 W6:=HB5.out.trans (hb56.mono (by omega));clear c0 c1 c2 c3 c4 c5 c6 c7 k0 k1 f0 f1 hlt hW6;obtain⟨_,c1,_,_,_,_,_,_,hbw⟩:=HK.out W6 hb16;have k0:=zR hr6 0 (.bool xd.ptr);have k1:=zR hr6 1 (.string xd.tgt);have k2:=zR hr36 0 (.bool b);have k3:=zR hr36 1 (.string s);have HBW:=zH hbw;have HO:Ia (∀x,zP 51 #[.bool x,.int .i64 7] W6 (.int .i64 (bM (!x) 7))):=fun x=>bn x 7 W6;have HBF:Ia (∀w9,H9 W6.heap.size W6 w9→H9 N w w9):=fun w9 h9=>HBW.out.trans (h9.mono (by have:=HBW.out.size;rw[HN.out] at this;exact this));clear hr6 hr36 hb56 hb16 hbw;cases d<;>cases b<;>(go_wp2_with (go_at_call 51;refine(HO.out _).mono ?_;rintro e w7 ⟨rfl,hb7⟩;have HB7:=zH hb7;clear hb7);go_ret;rw[HRR.out,HN.out];exact⟨rfl,HBF.out _ HB7.out⟩)
 ·have HRR:Ia (R=z):=by unfold Ia;rw[HE.out,if_pos hz]
  have hzb:(z != 0)=true:=by rw[bne_iff_ne];exact hz
  have HBW:Ia (H9 N w W3):=(HK.out W3 hb13).2.2.2.2.2.2.2.2;clear HE HF HK hz hst hst2 hr3 hb13 hb12 hW3;go_wp2;go_ret;rw[HRR.out,HN.out];exact⟨rfl,HBW.out⟩
theorem yX (m:Mo)(g:Fn)(i:Ins)(w:H5)(h:nC w m g)(hi:i.args_in w)(hal:i.args.length≤maxLen)(hd:isVar g.vs.length i.d=true)(ha:∀a∈i.args,isVar g.vs.length a=true):
  zP 91 #[.agg m.cells,.agg g.cells,.agg i.cells] w (.int .i64 (gU m g.vs i)):=by
 obtain⟨⟨_,ao2,n2,cap2,hm2⟩,ao,cap,hav,hrow⟩:=hi;have HA:Ia (ak w ao i.args):=hrow.at_;have HJ:=zH h;have HAV:=zH ha;have HAQ:=zH hav;have HE:Ia (gU m g.vs i=if i.f<0 then 15 else match m.fs[i.f.toNat]? with
  |none=>15
  |some g'=>if (i.args.length:Int)≠g'.c.par∨(g'.vs.length:Int)<g'.c.par then 7
   else if ig g.vs g'.vs 0 i.args=false then 7 else bM (ax g.vs i.d==g'.ret) 7):=rfl
 obtain⟨R,hR⟩:=zE (gU m g.vs i);rw[hR] at HE⊢;obtain⟨kd,vb,vo,xd,hkd,hkd2,hvA,hvb,htd,hd0,hd1⟩:=dN h.vars hd;have hnv:=h.nv;have hvl:=h.vl;unfold maxLen at hvl hal;have hkdI:(kd:Int)<(g.vs.length:Int):=by omega
 have hgc:=jO hnv hvA;rw[hgc];obtain⟨N,hN⟩:=zE w.heap.size;obtain⟨W1,hW1⟩:=zE (((w.alloc (.cells m.cells 25)).alloc (.cells (gc g (some ⟨vb,vo,none⟩)) 38)).alloc (.cells i.cells 42));obtain⟨hb1,hs1,r0,r1,r2⟩:=CB hW1;rw[hN] at hb1 hs1 r0 r1 r2;have i4:=zR r2 4 (.int .i64 i.f);have k1:=zR r0 1 (.slice m.fA m.fs.length m.fC);have HVC:Ia (∀(W:H5)(v:Int),H9 N w W→isVar g.vs.length v=true→∃(k:Nat) (x:Vr),v=(k:Int)∧k<g.vs.length∧ax g.vs v=(x.ptr,x.tgt)∧W.cell? ⟨vb,vo+k*3,none⟩=some (.bool x.ptr)∧W.cell? ⟨vb,vo+k*3+1,none⟩=some (.string x.tgt)):=by
  intro W v hW hv;obtain⟨k,b,off,x,r1,r2,r3,r4,r5,r6,r7⟩:=dN h.vars hv;rw[hvA] at r3;simp only[Option.some.injEq,Addr.mk.injEq,and_true] at r3;obtain⟨rfl,rfl⟩:=r3;exact⟨k,x,r1,r2,r5,by rw[hW.cell (p:=⟨vb,_,none⟩) (show vb<N by omega)];exact r6,by rw[hW.cell (p:=⟨vb,_,none⟩) (show vb<N by omega)];exact r7⟩
 have hW1':=hW1;simp only[Mo.cells,Ins.cells,gc] at hW1';simp only[Mo.cells,Ins.cells,gc];rw[hkd];rw[hkd] at hW1';have HW1:=zH hW1';have HB1:=zH hb1;have HR0:=zH r0;have HR1:=zH r1;have HR2:=zH r2;have HN:=zH hN;have HS1:=zH hs1;have HHKD:=zH hkd;have HTD:=zH htd;clear hR h hrow hd ha hm2 hav hW1 hW1' hb1 r0 r1 r2 hkd htd hd0 hd1 hvA hgc hnv hvb hkd2
 by_cases hf0:i.f<0
 ·have HRR:Ia (R=15):=by unfold Ia;rw[HE.out,if_pos hf0]
  clear HE;go_enter func91,ntmps91
  go_upto_region 1 with(fail)
  rw[HW1.out];go_wp2;go_ret;rw[HRR.out];exact⟨rfl,by first|exact HB1.out|(rw[HN.out];exact HB1.out)⟩
 obtain⟨F,hF⟩:∃F:Nat,i.f=(F:Int):=⟨i.f.toNat,by omega⟩
 rw[hF] at i4
 by_cases hfl:F<m.fs.length
 rotate_left
 ·have HRR:Ia (R=15):=by unfold Ia;rw[HE.out,if_neg hf0,hF,Ho,List.getElem?_eq_none (by omega)]
  have hFI:(m.fs.length:Int)≤(F:Int):=by omega
  clear HE hfl hf0 hF;go_enter func91,ntmps91
  go_upto_region 1 with(fail)
  rw[HW1.out];go_wp2;go_ret;rw[HRR.out];exact⟨rfl,by first|exact HB1.out|(rw[HN.out];exact HB1.out)⟩
 obtain⟨f,hfx⟩:∃f,m.fs[F]?=some f:=⟨_,GN hfl⟩
 have HE2:Ia (R=if (i.args.length:Int)≠f.c.par∨(f.vs.length:Int)<f.c.par then 7 else if ig g.vs f.vs 0 i.args=false then 7 else bM (ax g.vs i.d==f.ret) 7):=by
  unfold Ia;rw[HE.out,if_neg hf0,hF,Ho,hfx]
 have hfin:=HJ.out.mo.fin f (GV hfx);have HFI:=zH hfin;obtain⟨fb,foff,hfA,hfb,hfc⟩:=HJ.out.mo.frow (by intro e;rw[e] at hfl;simp at hfl);have hfbN:fb<N:=by have:=HN.out;omega
 have HFC:Ia (∀k u,f.cells.toList[k]?=some u→W1.cell? ((⟨fb,foff+F*8,none⟩:Addr).add k)=some u):=fun k u hu=>by
  rw[Addr.add_lit,HB1.out.cell (p:=⟨fb,_,none⟩) hfbN];exact hfc F f hfx k u hu
 have hFI:(F:Int)<(m.fs.length:Int):=by omega
 obtain⟨W2,hW2⟩:=zE (W1.alloc (.cells f.cells 38));have hst:∀(c:Array Value),c.size=8→(storeCells ⟨N+3,0,none⟩ f.cells.toList 0).run prog (W1.alloc (.cells c 38))= .ok () W2:=fun c hc=>by
  rw[←hW2,←HS1.out];exact run_storeCells_new (P:=prog) W1 38 c f.cells (by show _=some 8;kernel_rfl) hc (nD f)
 have hb2:H9 (N+3) W1 W2:=by rw[←hW2,←HS1.out];exact(Hw _ _).alloc (He _) _
 have hr3:W2.heap[N+3]?=some (.cells f.cells 38 (0,0)):=by rw[←hW2,←HS1.out];exact alloc_at _ _
 have hs2:W2.heap.size=N+4:=by rw[←hW2];simp[HS1.out]
 have HB2:Ia (H9 N w W2):=HB1.out.trans (hb2.mono (by omega));have HKEEP:Ia (∀W,H9 W2.heap.size W2 W→W.cell? ⟨N+1,2,none⟩=some (.slice (some ⟨vb,vo,none⟩) g.vs.length g.c.varsC)∧W.cell? ⟨N+2,1,none⟩=some (.int .i64 (kd:Int))∧W.cell? ⟨N+2,7,none⟩=some (.slice ao i.args.length cap)∧
   W.cell? ⟨N+3,1,none⟩=some (.int .i64 f.c.par)∧W.cell? ⟨N+3,2,none⟩=some (.slice f.c.varsA f.vs.length f.c.varsC)∧W.cell? ⟨N+3,3,none⟩=some (.bool f.c.rp)∧W.cell? ⟨N+3,3+1,none⟩=some (.string f.c.rto)∧H9 N w W):=by
  intro W hW;have q1:=(hW.block (N+1) (by omega)).trans ((hb2.block (N+1) (by omega)).trans HR1.out);have q2:=(hW.block (N+2) (by omega)).trans ((hb2.block (N+2) (by omega)).trans HR2.out);have q3:=(hW.block (N+3) (by omega)).trans hr3;refine⟨?_, ?_, ?_, ?_, ?_, ?_, ?_,HB2.out.trans (hW.mono (by omega))⟩
  ·rw[cell_of_row _ _ _ _ _ _ q1];rfl
  ·rw[cell_of_row _ _ _ _ _ _ q2,←HHKD.out];rfl
  ·rw[cell_of_row _ _ _ _ _ _ q2,←HAQ.out];rfl
  ·rw[cell_of_row _ _ _ _ _ _ q3];rfl
  ·rw[cell_of_row _ _ _ _ _ _ q3,←hfin.nvars];rfl
  ·rw[cell_of_row _ _ _ _ _ _ q3];rfl
  ·rw[cell_of_row _ _ _ _ _ _ q3];rfl
 obtain⟨j2,j1,j7,c1,c2,c3,c4,_⟩:=HKEEP.out W2 (Hw _ _);have HFV:Ia (∀(W:H5)(v:Int),H9 W2.heap.size W2 W→isVar f.vs.length v=true→∃(k b off:Nat) (x:Vr),v=(k:Int)∧k<f.vs.length∧f.c.varsA=some ⟨b,off,none⟩∧b<W2.heap.size∧ax f.vs v=(x.ptr,x.tgt)∧W.cell? ⟨b,off+k*3,none⟩=some (.bool x.ptr)∧W.cell? ⟨b,off+k*3+1,none⟩=some (.string x.tgt)):=by
  intro W v hW hv;have hWW:H9 w.heap.size w W:=by rw[HN.out];exact HB2.out.trans (hW.mono (by omega))
  obtain⟨k,b,off,x,r1,r2,r3,r4,r5,r6,r7⟩:=dN (HFI.out.vars) hv;exact⟨k,b,off,x,r1,r2,r3,by omega,r5,by rw[hWW.cell (p:=⟨b,_,none⟩) r4];exact r6,by rw[hWW.cell (p:=⟨b,_,none⟩) r4];exact r7⟩
 have HW2:=zH hW2;have HS2:=zH hs2;rw[hfA] at k1;rw[hfA] at HW1⊢;have hs1':W1.heap.size=N+3:=HS1.out;clear HE hf0 hF hfl hfx hfin hfA hfc hb2 hr3 HR1 HR2 HR0 hfb hW2;have hx63:i.args.length≤9223372036854775807:=by omega
 go_enter func91,ntmps91
 go_upto_region 1 with(fail)
 rw[HW1.out];clear HW1
 go_upto_region 4 with(first
  |(refine ay rfl 38 _ rfl ⟨fb,foff+F*8,none⟩ rfl f.cells _ HFC.out underlying38 rfl (by kernel_rfl) ?_))
 clear hst i4 k1 HFC hs1'
 by_cases hpar:(i.args.length:Int)=f.c.par
 rotate_left
 ·have HRR:Ia (R=7):=by unfold Ia;rw[HE2.out,if_pos (.inl hpar)]
  have hpb:((i.args.length:Int) != f.c.par)=true:=by rw[bne_iff_ne];exact hpar
  clear HE2;go_wp2;go_ret;rw[HRR.out,HN.out];exact⟨rfl,HB2.out⟩
 by_cases hpv:(f.vs.length:Int)<f.c.par
 ·have HRR:Ia (R=7):=by unfold Ia;rw[HE2.out,if_pos (.inr hpv)]
  rw[←hpar] at hpv c1;clear HE2;go_wp2;go_ret;rw[HRR.out,HN.out];exact⟨rfl,HB2.out⟩
 have HE3:Ia (R=if ig g.vs f.vs 0 i.args=false then 7 else bM (ax g.vs i.d==f.ret) 7):=by
  unfold Ia;rw[HE2.out,if_neg (fun h=>by rcases h with h|h;exact h hpar;exact hpv h)]
 rw[←hpar] at hpv c1;have hlv:i.args.length≤f.vs.length:=by omega
 clear HE2 hpar
 go_upto_region 6 with(fail)
 clear c1 c2 c3 c4 j1 j2 j7
 go_wp2_with fail
 go_loopw [8] (fun c wr=>∃j:Nat,j≤i.args.length∧c= .int .i64 (j:Int)∧(∀k a,k<j→i.args[k]?=some a→(ax g.vs a==ax f.vs (k:Int))=true)∧H9 W2.heap.size W2 wr) (fun c _=>i.args.length-(intOf c).toNat)
 case atStart=>exact⟨0,Hg _,rfl,fun k a hk=>absurd hk (by omega),Hw _ _⟩
 case round=>
  obtain⟨j,hj,rfl,hall,hb⟩:=hrel;have HB:=zH hb;have HALL:=zH hall;obtain⟨j2,j1,j7,c1,c2,c3,c4,hbN⟩:=HKEEP.out wr hb;have HBN:=zH hbN
  by_cases hjl:j<i.args.length
  ·obtain⟨y,hy⟩:∃y,i.args[j]?=some y:=⟨_,GN hjl⟩
   obtain⟨ab,aoff,hao,hab,hac⟩:=(HA.out.below (by rw[HN.out];exact hbN)) (by intro e;rw[e] at hjl;simp at hjl)
   have d1:wr.cell? ⟨ab,aoff+j,none⟩=some (.int .i64 y):=hac j y hy;have hyv:isVar g.vs.length y=true:=HAV.out y (GV hy);obtain⟨ky,xy,hky,hkyl,hty1,e0,e1⟩:=HVC.out wr y hbN hyv;obtain⟨k',b,off,x,hkj,hkl,hvA,hbl,hty,x0,x1⟩:=HFV.out wr (j:Int) hb (dX.2 ⟨by omega,by omega⟩);obtain rfl:k'=j:=by omega
   obtain⟨d,hdd⟩:=zE (((xy.ptr,xy.tgt):Ty)==(x.ptr,x.tgt));have heq:∀w,(Op.equalIn 10000 32 (.agg #[.bool xy.ptr,.string xy.tgt]) (.agg #[.bool x.ptr,.string x.tgt])).run prog w= .ok d w:=fun w=>by rw[dC,hdd]
   have HDD:Ia ((ax g.vs y==ax f.vs (k':Int))=d):=by unfold Ia;rw[hty1,hty];exact hdd
   have HY:=zH hy;have hkI:(k':Int)<(i.args.length:Int):=by omega
   have hkV:(k':Int)<(f.vs.length:Int):=by omega
   have hkG:(ky:Int)<(g.vs.length:Int):=by omega
   subst hao;rw[hvA] at c2;rw[hky] at d1;clear hall hb hbN hy hac hyv hvA hty hty1 hdd hjl hky c1 c3 c4 j1;cases d with
   |true=>
    go_wp2_with fail
    go_quiet (fail)
    go_wp2;go_roundw
    case rel=>
     refine⟨k'+1,by omega,by go_num,fun k a hk hka=> ?_,below_drewN HB.out _⟩
     by_cases e:k=k'
     ·subst e
      rw[HY.out] at hka;obtain rfl:=Hl hka;exact HDD.out
     ·exact HALL.out k a (by omega) hka
    case measure=>simp[intOf];omega
   |false=>
    have HRR:Ia (R=7):=by
     unfold Ia;rw[HE3.out,if_pos];cases hc:ig g.vs f.vs 0 i.args with
     |false=>rfl
     |true=>
      have:=(jM _ _ _ _).1 hc k' y HY.out;rw[Hf,HDD.out] at this;cases this
    go_wp2_with fail
    go_quiet (fail)
    go_wp2;go_ret;rw[HRR.out,HN.out];exact⟨rfl,below_drewN HBN.out _⟩
  ·have hje:j=i.args.length:=by omega
   subst hje;have HE4:Ia (R=bM (ax g.vs i.d==f.ret) 7):=by
    unfold Ia;rw[HE3.out,if_neg];rw[(jM _ _ _ _).2 (fun k a hk=>by rw[Hf];exact HALL.out k a (GQ.1 hk).1 hk)];decide
   have hkdv:isVar g.vs.length (kd:Int)=true:=dX.2 ⟨by omega,hkdI⟩;obtain⟨d,hdd⟩:=zE (((xd.ptr,xd.tgt):Ty)==(f.c.rp,f.c.rto));have heq:∀w,(Op.equalIn 10000 32 (.agg #[.bool xd.ptr,.string xd.tgt]) (.agg #[.bool f.c.rp,.string f.c.rto])).run prog w= .ok d w:=fun w=>by rw[dC,hdd]
   have HRR:Ia (R=bM d 7):=by unfold Ia;rw[HE4.out,HTD.out,←hdd];rfl
   have HJW:Ia (∀p:BW wr,_):=fun p:BW wr=>HKEEP.out p.w (HB.out.trans (p.h.mono HB.out.size));have HXD:Ia (∀p:BW wr,p.w.cell? ⟨vb,vo+kd*3,none⟩=some (.bool xd.ptr)∧p.w.cell? ⟨vb,vo+kd*3+1,none⟩=some (.string xd.tgt)):=fun p=>by
    obtain⟨k,x,q1,_,q2,q3,q4⟩:=HVC.out p.w (kd:Int) (HJW.out p).2.2.2.2.2.2.2 hkdv;obtain rfl:kd=k:=by omega
    rw[←HHKD.out,HTD.out] at q2;simp only[Prod.mk.injEq] at q2;rw[q2.1,q2.2];exact⟨q3,q4⟩
   have g0:∀p:BW wr,p.w.cell? ⟨N+1,2,none⟩=some (.slice (some ⟨vb,vo,none⟩) g.vs.length g.c.varsC):=fun p=>(HJW.out p).1;have g1:∀p:BW wr,p.w.cell? ⟨N+2,1,none⟩=some (.int .i64 (kd:Int)):=fun p=>(HJW.out p).2.1;have g3:∀p:BW wr,p.w.cell? ⟨N+3,3,none⟩=some (.bool f.c.rp):=fun p=>(HJW.out p).2.2.2.2.2.1;have g4:∀p:BW wr,p.w.cell? ⟨N+3,3+1,none⟩=some (.string f.c.rto):=fun p=>(HJW.out p).2.2.2.2.2.2.1;have g5:∀p:BW wr,p.w.cell? ⟨vb,vo+kd*3,none⟩=some (.bool xd.ptr):=fun p=>(HXD.out p).1;have g6:∀p:BW wr,p.w.cell? ⟨vb,vo+kd*3+1,none⟩=some (.string xd.tgt):=fun p=>(HXD.out p).2;have HO:Ia (∀(p:BW wr) x,zP 51 #[.bool x,.int .i64 7] p.w (.int .i64 (bM (!x) 7))):=fun p x=>bn x 7 p.w;clear hall hb hbN hdd HE3 HE4 HFV c1 c2 c3 c4 j1 j2 hkdv;cases d<;>
    (go_wp2_with fail
     clear j7;refine zQ ?_
     repeat (go_big_quiet_step (first|(go_at_call 51;exact bg (HO.out _ _))))
     refine wpQuiet_nil ?_;rintro _ ⟨p,rfl⟩;have HBF:=zH (HJW.out p).2.2.2.2.2.2.2;clear g0 g1 g3 g4 g5 g6;go_wp2;go_ret;rw[HRR.out,HN.out];exact⟨rfl,HBF.out⟩)
theorem ak.lit (w:H5)(cs:Array Value)(xs:List Int){B:Nat}(hB:B=w.heap.size)(h:cs=(xs.map (Value.int .i64)).toArray):ak (w.alloc (.cells cs 3)) (some ⟨B,0,none⟩) xs:=by
 subst hB h;intro _;refine⟨w.heap.size,0,rfl,by simp,fun i u hi=> ?_⟩;rw[Hf,World.cell?_alloc_new];simp[hi]
theorem wW (op:Int)(xs:List Int)(n:Nat)(hn:n=xs.length)(hl:xs.length≤90000)(W:H5)(ao:Option Addr)(h:ak W ao xs):
  zS 126 #[.int .i64 op,.slice ao n n] W (.bool (decide (op∈xs))):=by
 subst hn;exact Cv W _ ao xs op hl h
theorem qa (i:Ins)(w:H5)(hok:i.ok):zP 86 #[.agg i.cells] w (.tuple #[.int .i64 (az i).1,.bool (az i).2]):=by
 obtain⟨op,d,a,b,f,n,sign,argsV,modeV,tgt,els,ln,cl,args⟩:=i;obtain⟨⟨ao,cap,h1⟩,ao2,n2,cap2,h2⟩:=hok;simp only at h1 h2;subst h1 h2;simp only[Ins.cells,az];have HD:Ia (∀(W:H5) ao,ak W ao [1,2,3,4,5,7,9,10,12,14,15]→zS 126 #[.int .i64 op,.slice ao 11 11] W (.bool (pV op))):=
  fun W ao h=>wW op [1,2,3,4,5,7,9,10,12,14,15] 11 rfl (by simp) W ao h
 cases hd:pV op with
 |true=>
  go_enter func86,ntmps86
  go_wp2_with (go_at_call 126;refine(HD.out _ _ (ak.lit _ _ _ (by simp) rfl)).mono ?_;rintro e w' ⟨rfl,rfl⟩)
  go_ret2
  exact⟨rfl,((Hw _ _).alloc (He _) _).alloc (by simp) _⟩
 |false=>
  go_enter func86,ntmps86
  go_wp2_with (go_at_call 126;refine(HD.out _ _ (ak.lit _ _ _ (by simp) rfl)).mono ?_;rintro e w' ⟨rfl,rfl⟩)
  go_ret2
  exact⟨rfl,((Hw _ _).alloc (He _) _).alloc (by simp) _⟩
theorem qV (i:Ins)(w:H5)(hin:i.args_in w)(hl:i.args.length≤40):Calls prog 88 #[.agg i.cells] w (iR w (readsOf i)):=by
 obtain⟨op,d,a,b,f,n,sign,argsV,modeV,tgt,els,ln,cl,args⟩:=i;obtain⟨⟨_,ao2,n2,cap2,h2⟩,ao,cap,h1,hrow⟩:=hin;simp only at h1 h2 hrow hl;subst h1 h2;simp only[Ins.cells,readsOf];have HA:Ia (∀(W:H5) ao,ak W ao [3,4,6,7,8,9,10,11,13,14,17,18]→zS 126 #[.int .i64 op,.slice ao 12 12] W (.bool (sZ op))):=
  fun W ao h=>wW op [3,4,6,7,8,9,10,11,13,14,17,18] 12 rfl (by simp) W ao h
 have HB:Ia (∀(W:H5) ao,ak W ao [4,8,11]→zS 126 #[.int .i64 op,.slice ao 3 3] W (.bool (qN op))):=
  fun W ao h=>wW op [4,8,11] 3 rfl (by simp) W ao h
 have HROW:=zH hrow.at_;clear hrow;obtain⟨N,hN⟩:=zE w.heap.size;obtain⟨W1,hW1⟩:=zE (w.alloc (.cells #[.int .i64 op,.int .i64 d,.int .i64 a,.int .i64 b,.int .i64 f,.int .i64 n,.string sign,.slice ao args.length cap,.slice ao2 n2 cap2,.int .i64 tgt,.int .i64 els,.int .i64 ln,.int .i64 cl] 42));have hb1:=gZ hW1 hN;have hs1:W1.heap.size=N+1:=by rw[←hW1];simp[hN]
 have hr1:W1.heap[N]?=some (.cells #[.int .i64 op,.int .i64 d,.int .i64 a,.int .i64 b,.int .i64 f,.int .i64 n,.string sign,.slice ao args.length cap,.slice ao2 n2 cap2,.int .i64 tgt,.int .i64 els,.int .i64 ln,.int .i64 cl] 42 (0,0)):=by
  rw[←hW1,←hN];exact alloc_at _ _
 have HK:Ia (∀W,Ext (fun k=>N+1≤k) W1 W→W.cell? ⟨N,0,none⟩=some (.int .i64 op)∧W.cell? ⟨N,2,none⟩=some (.int .i64 a)∧W.cell? ⟨N,3,none⟩=some (.int .i64 b)∧W.cell? ⟨N,7,none⟩=some (.slice ao args.length cap)∧N<W.heap.size∧H9 N w W∧ak W ao args):=by
  intro W hx;have h4:=hx.heap hr1 (by omega);have hbW:H9 N w W:=hb1.trans ((hx.below (B:=N+1) (by omega) (fun k hk=>hk)).mono (by omega));refine⟨?_, ?_, ?_, ?_,(GR.1 h4).1,hbW,HROW.out.below (by rw[hN];exact hbW)⟩<;>(rw[cell_of_row _ _ _ _ _ _ h4];rfl)
 have HS1:=zH hs1;have HW1:=zH hW1;have hs1':N+1≤W1.heap.size:=by omega
 clear hb1 hs1 hr1 hW1 HROW
 by_cases h15:op=15
 ·subst h15
  have ea:sZ 15=false:=by decide
  have eb:qN 15=false:=by decide
  rw[ea,eb,if_neg (by decide),if_neg (by decide),if_pos rfl];rw[ea] at HA;rw[eb] at HB;simp only[List.nil_append];clear ea eb;go_enter func88,ntmps88
  go_wp2_with fail
  go_at_call 126;rw[HW1.out];refine(HA.out _ _ (ak.lit _ _ _ (by have:=HS1.out;omega) rfl)).mono ?_;rintro e w2 ⟨rfl,hw2⟩;have hx2:Ext (fun k=>N+1≤k) W1 w2:=by rw[←hw2];exact(Ext.refl _ _).alloc _
  obtain⟨k0,k2,k3,k7,hlt,hbN,hat⟩:=HK.out w2 hx2;have HX2:=zH hx2;have HAT2:=zH hat;have HBN2:=zH hbN;clear hw2 hx2 hat hbN
  go_wp2_with fail
  go_at_call 126;refine(HB.out _ _ (ak.lit _ _ _ rfl rfl)).mono ?_;rintro e w4 ⟨rfl,hw4⟩;have hx4:Ext (fun k=>N+1≤k) W1 w4:=by rw[←hw4];exact HX2.out.alloc _
  have hy4:=gK hw4;obtain⟨k0,k2,k3,k7,hlt,hbN,hat⟩:=HK.out w4 hx4;have HX4:=zH hx4;have HY4:=zH hy4;have HAT4:=zH hat;have HBN4:=zH hbN;clear hw4 hx4 hy4 hat hbN;have hlt1:N<w4.heap.size+1:=by omega
  go_wp2_with (at_builtin;refine aJ rfl (.tmp 25) (.tmp 27) rfl (N+1) (.slice none 0 0) [] rfl (aU.nil _ _) _ args cap rfl HAT4.out ?c51 ?c52 ?_)
  case c51=>first|omega|(simp<;>omega)|simp
  case c52=>first|omega|(simp<;>omega)|simp
  intro v5 w5 hown5 hgrow5;obtain⟨ao5,cap5,rfl⟩:=hown5.isSlice;have hx5:Ext (fun k=>N+1≤k) W1 w5:=HX4.out.trans (Ext.of_grown hgrow5 (fun k hk=> .inl (by first|(have h3:=((aU.nil _ _).lt k hk).1;exact h3)|(simp[Value.ownBlock] at hk)))) (fun j hj=> .inl hj);have HG:Ia (iR w args (.returned (.slice ao5 args.length cap5)) w5):=⟨_,_,rfl,by rw[hN];exact aU.mono (by simpa using hown5) (Nat.le_succ N),by rw[hN];exact(HK.out w5 hx5).2.2.2.2.2.1⟩
  clear hown5 hgrow5 hx5
  try simp only[List.nil_append]
  go_wp2;go_ret;exact HG.out
 ·have h15':(op==15)=false:=by simpa using h15
  rw[if_neg h15,List.append_nil];clear h15;cases ha:sZ op with
  |false=>
   have hb:qN op=false:=by
    cases h:qN op with
    |false=>rfl
    |true=>rw[BM h] at ha;cases ha
   rw[hb,if_neg (by decide),if_neg (by decide)];rw[ha] at HA;rw[hb] at HB;clear ha hb;go_enter func88,ntmps88
   go_wp2_with fail
   go_at_call 126;rw[HW1.out];refine(HA.out _ _ (ak.lit _ _ _ (by have:=HS1.out;omega) rfl)).mono ?_;rintro e w2 ⟨rfl,hw2⟩;have hx2:Ext (fun k=>N+1≤k) W1 w2:=by rw[←hw2];exact(Ext.refl _ _).alloc _
   obtain⟨k0,k2,k3,k7,hlt,hbN,hat⟩:=HK.out w2 hx2;have HX2:=zH hx2;have HAT2:=zH hat;have HBN2:=zH hbN;clear hw2 hx2 hat hbN
   go_wp2_with fail
   go_at_call 126;refine(HB.out _ _ (ak.lit _ _ _ rfl rfl)).mono ?_;rintro e w4 ⟨rfl,hw4⟩;have hx4:Ext (fun k=>N+1≤k) W1 w4:=by rw[←hw4];exact HX2.out.alloc _
   have hy4:=gK hw4;obtain⟨k0,k2,k3,k7,hlt,hbN,hat⟩:=HK.out w4 hx4;have HX4:=zH hx4;have HY4:=zH hy4;have HAT4:=zH hat;have HBN4:=zH hbN;clear hw4 hx4 hy4 hat hbN;go_wp2;go_ret;exact⟨none,0,rfl,aU.nil _ _,by first|exact HBN4.out|(rw[hN];exact HBN4.out)⟩
  |true=>
   rw[ha] at HA;cases hb:qN op with
   |false=>
    rw[if_pos rfl,if_neg (by decide),List.append_nil];rw[hb] at HB;clear ha hb;go_enter func88,ntmps88
    go_wp2_with fail
    go_at_call 126;rw[HW1.out];refine(HA.out _ _ (ak.lit _ _ _ (by have:=HS1.out;omega) rfl)).mono ?_;rintro e w2 ⟨rfl,hw2⟩;have hx2:Ext (fun k=>N+1≤k) W1 w2:=by rw[←hw2];exact(Ext.refl _ _).alloc _
    obtain⟨k0,k2,k3,k7,hlt,hbN,hat⟩:=HK.out w2 hx2;have HX2:=zH hx2;have HAT2:=zH hat;have HBN2:=zH hbN;clear hw2 hx2 hat hbN;have hlt1:N<w2.heap.size+1:=by omega
    go_wp2_with (at_builtin;refine aJ rfl (.tmp 8) (.tmp 11) rfl (N+1) (.slice none 0 0) [] rfl (aU.nil _ _) _ [a] 1 rfl (ak.one _ _ rfl) ?c31 ?c32 ?_)
    case c31=>first|omega|(simp<;>omega)|simp
    case c32=>first|omega|(simp<;>omega)|simp
    intro v3 w3 hown3 hgrow3;obtain⟨ao3,cap3,rfl⟩:=hown3.isSlice;have hx3:Ext (fun k=>N+1≤k) W1 w3:=(HX2.out.alloc _).trans (Ext.of_grown hgrow3 (fun k hk=> .inl (by first|(have h3:=((aU.nil _ _).lt k hk).1;exact h3)|(simp[Value.ownBlock] at hk)))) (fun j hj=> .inl hj);obtain⟨k0,k2,k3,k7,hlt,_,_⟩:=HK.out w3 hx3;have HX3:=zH hx3;have HO3:Ia (aU w3 (N+1) (.slice ao3 [a].length cap3) [a]):=by unfold Ia;simpa using hown3
    clear hown3 hgrow3 hx3
    try simp only[List.nil_append]
    go_wp2_with fail
    go_at_call 126;refine(HB.out _ _ (ak.lit _ _ _ rfl rfl)).mono ?_;rintro e w4 ⟨rfl,hw4⟩;have hx4:Ext (fun k=>N+1≤k) W1 w4:=by rw[←hw4];exact HX3.out.alloc _
    have hy4:=gK hw4;obtain⟨k0,k2,k3,k7,hlt,hbN,hat⟩:=HK.out w4 hx4;have HX4:=zH hx4;have HY4:=zH hy4;have HAT4:=zH hat;have HBN4:=zH hbN;clear hw4 hx4 hy4 hat hbN;have HG:Ia (iR w [a] (.returned (.slice ao3 [a].length cap3)) w4):=⟨_,_,rfl,by rw[hN];exact aU.mono (ownsRow_below HO3.out HY4.out) (Nat.le_succ N),by rw[hN];exact HBN4.out⟩
    go_wp2;go_ret;exact HG.out
   |true=>
    rw[if_pos rfl,if_pos rfl];rw[hb] at HB;clear ha hb;go_enter func88,ntmps88
    go_wp2_with fail
    go_at_call 126;rw[HW1.out];refine(HA.out _ _ (ak.lit _ _ _ (by have:=HS1.out;omega) rfl)).mono ?_;rintro e w2 ⟨rfl,hw2⟩;have hx2:Ext (fun k=>N+1≤k) W1 w2:=by rw[←hw2];exact(Ext.refl _ _).alloc _
    obtain⟨k0,k2,k3,k7,hlt,hbN,hat⟩:=HK.out w2 hx2;have HX2:=zH hx2;have HAT2:=zH hat;have HBN2:=zH hbN;clear hw2 hx2 hat hbN;have hlt1:N<w2.heap.size+1:=by omega
    go_wp2_with (at_builtin;refine aJ rfl (.tmp 8) (.tmp 11) rfl (N+1) (.slice none 0 0) [] rfl (aU.nil _ _) _ [a] 1 rfl (ak.one _ _ rfl) ?c31 ?c32 ?_)
    case c31=>first|omega|(simp<;>omega)|simp
    case c32=>first|omega|(simp<;>omega)|simp
    intro v3 w3 hown3 hgrow3;obtain⟨ao3,cap3,rfl⟩:=hown3.isSlice;have hx3:Ext (fun k=>N+1≤k) W1 w3:=(HX2.out.alloc _).trans (Ext.of_grown hgrow3 (fun k hk=> .inl (by first|(have h3:=((aU.nil _ _).lt k hk).1;exact h3)|(simp[Value.ownBlock] at hk)))) (fun j hj=> .inl hj);obtain⟨k0,k2,k3,k7,hlt,_,_⟩:=HK.out w3 hx3;have HX3:=zH hx3;have HO3:Ia (aU w3 (N+1) (.slice ao3 [a].length cap3) [a]):=by unfold Ia;simpa using hown3
    clear hown3 hgrow3 hx3
    try simp only[List.nil_append]
    go_wp2_with fail
    go_at_call 126;refine(HB.out _ _ (ak.lit _ _ _ rfl rfl)).mono ?_;rintro e w4 ⟨rfl,hw4⟩;have hx4:Ext (fun k=>N+1≤k) W1 w4:=by rw[←hw4];exact HX3.out.alloc _
    have hy4:=gK hw4;obtain⟨k0,k2,k3,k7,hlt,hbN,hat⟩:=HK.out w4 hx4;have HX4:=zH hx4;have HY4:=zH hy4;have HAT4:=zH hat;have HBN4:=zH hbN;clear hw4 hx4 hy4 hat hbN;have HO4:Ia (aU w4 (N+1) (.slice ao3 1 cap3) [a]):=ownsRow_below HO3.out HY4.out;have hlt1:N<w4.heap.size+1:=by omega
    go_wp2_with (at_builtin;refine aJ rfl (.tmp 17) (.tmp 20) rfl (N+1) (.slice ao3 1 cap3) [a] rfl (ownsRow_below HO4.out ((Hw _ _).alloc (He _) _)) _ [b] 1 rfl (ak.one _ _ rfl) ?c51 ?c52 ?_)
    case c51=>first|omega|(simp<;>omega)|simp
    case c52=>first|omega|(simp<;>omega)|simp
    intro v5 w5 hown5 hgrow5;obtain⟨ao5,cap5,rfl⟩:=hown5.isSlice;have hx5:Ext (fun k=>N+1≤k) W1 w5:=(HX4.out.alloc _).trans (Ext.of_grown hgrow5 (fun k hk=> .inl (by first|(have h3:=(HO4.out.lt k hk).1;exact h3)|(simp[Value.ownBlock] at hk)))) (fun j hj=> .inl hj);obtain⟨k0,k2,k3,k7,hlt,hbN,_⟩:=HK.out w5 hx5;have HG:Ia (iR w [a,b] (.returned (.slice ao5 [a,b].length cap5)) w5):=⟨_,_,rfl,by rw[hN];exact aU.mono (by simpa using hown5) (Nat.le_succ N),by rw[hN];exact hbN⟩
    clear hown5 hgrow5 hx5 hbN
    try simp only[List.cons_append,List.nil_append]
    go_wp2;go_ret;exact HG.out
end Go.Proofs.YtjomgckjhcfbgaaGreat
