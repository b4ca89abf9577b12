/- Walks. -/
import Derived.Test.YtjomgckjhcfbgaaGreatS13
set_option maxRecDepth 100000
set_option maxHeartbeats 64000000
set_option linter.all false
namespace Go.Proofs.YtjomgckjhcfbgaaGreat
open Go.RowKit
open _root_.List renaming getElem?_eq_getElem→GN,getElem?_eq_some_iff→GQ,mem_of_getElem?→GV,take_length→Ha,mem_singleton→Hq
open _root_.Nat renaming zero_le→Hg
open _root_.Option renaming some.inj→Hl
open Go.RowKit.Below renaming refl→Hw
open Go renaming World→H5
open Go.RowKit renaming Below→H9,Hid→Ia
open Tryz
theorem tT (m:Mo)(g:Fn)(i:Ins)(w:H5)(h:nC w m g)(hi:i.args_in w)(hal:i.args.length≤40)(hkn:∀v,isVar g.vs.length v=true→m.known (ax g.vs v)=true)(hop:i.op=17):
  zP 49 #[.agg m.cells,.agg g.cells,.agg i.cells] w (.int .i64 (aC m g i)):=by
 obtain⟨ao,N,W1,hN,hs1,hW1,HN,HS1,HGC,HAO,HBX,HBN,HJ,HAI,HHS,HWR,HRD,HRL⟩:=fF h hi hal;obtain⟨wD,bD,bR,o1,o2,HNR,HBD,HBR,HWD,HWO,HTH⟩:=fJ (g:=g) (i:=i) (by omega) (by omega);rw[HGC.out];simp only[Mo.cells,gc,Ins.cells] at hW1⊢;have HW1:=zH hW1;obtain⟨R,hR⟩:=zE (aC m g i);rw[hR];have HR:=zH hR;have HHJ:=zH h;have HOP:=zH hop;have hx1:=HBX.out W1 (Hw _ _);have HR2:=zH hx1.ir;clear h hi hal hkn hW1 hR hop;have hs1':W1.heap.size=N+3:=hs1;go_enter func49,ntmps49
 go_upto_region 1 with(fail)
 rw[HW1.out];clear HW1 hx1 hN
 go_upto_region 2 with(first
  |(refine wpList_load_row rfl 42 _ rfl (N+2) rfl 42 _ (0,0) _ HR2.out underlying42 rfl (by kernel_rfl) ?_)
  |(go_at_call 86;refine(HWR.out _).mono ?_;rintro e w2 ⟨rfl,hb2⟩;have HB2:=zH hb2;clear hb2))
 have hb2:H9 (N+3) W1 w2:=by have:=HB2.out;rwa [hs1'] at this
 have i0:=(HBX.out w2 hb2).i0;have HB2':=zH hb2;clear hb2 hs1' hs1 HB2;rw[HWO.out]
 go_upto_region 4 with(fail)
 clear i0 o1 o2;obtain⟨S,hS⟩:∃S:H5→Prop,S=H9 (N+3) W1:=⟨_,rfl⟩
 have HSB:Ia (∀w',S w'↔H9 (N+3) W1 w'):=fun w'=>by rw[hS]
 have HSC:Ia (∀w',S w'→∀j u,(#[.string g.c.nm,.int .i64 g.c.par,.slice ao g.vs.length g.c.varsC,.bool g.c.rp,.string g.c.rto,.int .i64 g.c.rcl,.slice g.c.fromA g.c.nfrom g.c.fromC,.slice g.c.insA g.c.ins.length g.c.insC]:Array Value).toList[j]?=some u→w'.cell? ((⟨N+1,0,none⟩:Addr).add j)=some u):=fun w' h=>cK (HBX.out w' ((HSB.out w').1 h)).gr;have HSI:Ia (∀w',S w'→∀j u,(#[.int .i64 i.op,.int .i64 i.d,.int .i64 i.a,.int .i64 i.b,.int .i64 i.f,.int .i64 i.n,.string i.sign,i.argsV,i.modeV,.int .i64 i.tI,.int .i64 i.els,.int .i64 i.ln,.int .i64 i.cl]:Array Value).toList[j]?=some u→w'.cell? ((⟨N+1+1,0,none⟩:Addr).add j)=some u):=fun w' h=>cK (HBX.out w' ((HSB.out w').1 h)).ir;have HSS:Ia (∀w',S w'→True∧True):=fun _ _=>⟨trivial,trivial⟩
 clear hS
 go_cut [7,37] from 23 to 37 (fun d b wc=>d= .int .i64 (if wD=true then(i.d,true) else(0,false)).1∧b= .bool (!(bR&&(!wD||bD)))∧H9 (N+3) W1 wc)
 case first=>
  have hS0:S w2.drew:=(HSB.out _).2 HB2'.out.drew;cases wD with
  |true=>
   simp only[if_true];refine aj 5 S (by kernel_rfl) ?_;refine zT 0 rfl HSS.out ?_
   try go_simp
   refine zT 1 rfl HSS.out ?_
   try go_simp
   refine zL 2 rfl 38 ⟨N+1,0,none⟩ HSC.out underlying38 ?_
   try go_simp
   refine zT 3 rfl HSS.out ?_
   try go_simp
   refine zO 4 rfl fun K' hK=> ?_;go_simp;have hS4:∀c,S (w2.alloc c).drew:=fun c=>(HSB.out _).2 ((HB2'.out.alloc (by have:=HB2'.out.size;rw[HS1.out] at this;exact this) _).drew);have hat4:ak (w2.alloc (.cells #[.int .i64 i.d] 3)).drew (some ⟨w2.heap.size,0,none⟩) [i.d]:=ak.one w2 i.d rfl;refine hK _ _ (hS4 _) ?_;clear hK
   try go_simp
   refine zK rfl fun K' hK=> ?_;go_simp;go_at_call 87;refine(HHS.out _ (some ⟨w2.heap.size,0,none⟩) 1 [i.d] (by simp) hat4).mono ?_;rintro e w5 ⟨rfl,hb5⟩;have hS5:S w5:=(HSB.out _).2 (((HSB.out _).1 (hS4 _)).trans (hb5.mono (by have:=((HSB.out _).1 (hS4 (.cells #[.int .i64 i.d] 3))).size;rw[HS1.out] at this;exact this)));rw[HBD.out];refine hK _ _ ?_;clear hK hb5 hS4 hS0 hat4
   try go_simp
   cases bD with
   |false=>
    refine aZ 6 rfl (by kernel_rfl) (by kernel_rfl) (·=w5) rfl ?_;dsimp only[List.drop]
    repeat (go_big_quiet_step (fail))
    refine wpQuiet_nil ?_;rintro _ rfl;go_wp2
    go_meet
    case rel=>exact⟨rfl,by simp,(HSB.out _).1 hS5⟩
   |true=>
    refine ek (S:=S) (k:=12) _ _ _ _ ?_;refine zT 6 rfl HSS.out ?_
    try go_simp
    refine zT 7 rfl HSS.out ?_
    try go_simp
    refine zT 8 rfl HSS.out ?_
    try go_simp
    refine zL 9 rfl 38 ⟨N+1,0,none⟩ HSC.out underlying38 ?_
    try go_simp
    refine zL 10 rfl 42 ⟨N+1+1,0,none⟩ HSI.out underlying42 ?_
    try go_simp
    refine zO 11 rfl fun K' hK=> ?_;go_simp;go_at_call 88;refine(HRD.out _ ((HSB.out _).1 (by assumption))).mono ?_;rintro e w7 ⟨ro,rc,rfl,hro,hb7⟩;have hS7:S w7:=(HSB.out _).2 (((HSB.out _).1 (by assumption)).trans (hb7.mono (by have:=((HSB.out _).1 (by assumption)).size;rw[HS1.out] at this;exact this)));have hat7:=hro.at_;refine hK _ _ hS7 ?_;clear hK hro hb7
    try go_simp
    refine zK rfl fun K' hK=> ?_;go_simp;go_at_call 87;refine(HHS.out _ _ _ _ HRL.out hat7).mono ?_;rintro e w8 ⟨rfl,hb8⟩;have hS8:=((HSB.out _).1 hS7).trans (hb8.mono (by have:=((HSB.out _).1 hS7).size;rw[HS1.out] at this;exact this));rw[HBR.out];refine hK _ _ ?_;clear hK hat7 hb8
    try go_simp
    refine aZ 13 rfl (by kernel_rfl) (by kernel_rfl) (·=w8) rfl ?_;dsimp only[List.drop]
    repeat (go_big_quiet_step (fail))
    refine wpQuiet_nil ?_;rintro _ rfl;go_wp2
    go_meet
    case rel=>exact⟨rfl,by simp,hS8⟩
  |false=>
    simp only[Bool.false_eq_true,if_false];refine aj 12 S (by kernel_rfl) ?_;refine zT 0 rfl HSS.out ?_
    try go_simp
    refine zT 1 rfl HSS.out ?_
    try go_simp
    refine zN 2 rfl ?_
    try go_simp
    refine zN 3 rfl ?_
    try go_simp
    refine zN 4 rfl ?_
    try go_simp
    refine zN 5 rfl ?_
    try go_simp
    refine zN 6 rfl ?_
    try go_simp
    refine zT 7 rfl HSS.out ?_
    try go_simp
    refine zT 8 rfl HSS.out ?_
    try go_simp
    refine zL 9 rfl 38 ⟨N+1,0,none⟩ HSC.out underlying38 ?_
    try go_simp
    refine zL 10 rfl 42 ⟨N+1+1,0,none⟩ HSI.out underlying42 ?_
    try go_simp
    refine zO 11 rfl fun K' hK=> ?_;go_simp;go_at_call 88;refine(HRD.out _ ((HSB.out _).1 (by assumption))).mono ?_;rintro e w7 ⟨ro,rc,rfl,hro,hb7⟩;have hS7:S w7:=(HSB.out _).2 (((HSB.out _).1 (by assumption)).trans (hb7.mono (by have:=((HSB.out _).1 (by assumption)).size;rw[HS1.out] at this;exact this)));have hat7:=hro.at_;refine hK _ _ hS7 ?_;clear hK hro hb7
    try go_simp
    refine zK rfl fun K' hK=> ?_;go_simp;go_at_call 87;refine(HHS.out _ _ _ _ HRL.out hat7).mono ?_;rintro e w8 ⟨rfl,hb8⟩;have hS8:=((HSB.out _).1 hS7).trans (hb8.mono (by have:=((HSB.out _).1 hS7).size;rw[HS1.out] at this;exact this));rw[HBR.out];refine hK _ _ ?_;clear hK hat7 hb8
    try go_simp
    refine aZ 13 rfl (by kernel_rfl) (by kernel_rfl) (·=w8) rfl ?_;dsimp only[List.drop]
    repeat (go_big_quiet_step (fail))
    refine wpQuiet_nil ?_;rintro _ rfl;go_wp2
    go_meet
    case rel=>exact⟨rfl,by simp,hS8⟩
 case rest=>
  obtain⟨rfl,rfl,hbc⟩:=hcut;have HBF:=zH (HBN.out wc hbc);have hx:=HBX.out wc hbc;have HV:Ia (∀v,isVar g.vs.length v=true→∃(k b off:Nat) (x:Vr),v=(k:Int)∧k<g.vs.length∧ao=some ⟨b,off,none⟩∧ax g.vs v=(x.ptr,x.tgt)∧∀W,H9 (N+3) W1 W→W.cell? ⟨b,off+k*3,none⟩=some (.bool x.ptr)∧W.cell? ⟨b,off+k*3+1,none⟩=some (.string x.tgt)):=fun v hv=>by
   obtain⟨k,b,off,x,q1,q2,q3,q4,q5,q6,q7⟩:=dN HHJ.out.vars hv;refine⟨k,b,off,x,q1,q2,by rw[←HAO.out];exact q3,q5,fun W hW=> ?_⟩;have hbn:=HBN.out W hW;rw[HN.out] at q4;exact⟨by rw[hbn.cell (p:=⟨b,_,none⟩) (show b<N by omega)];exact q6,by rw[hbn.cell (p:=⟨b,_,none⟩) (show b<N by omega)];exact q7⟩
  have hvl:=HHJ.out.vl;unfold maxLen at hvl;have HO:Ia (∀W b f,zP 51 #[.bool b,.int .i64 f] W (.int .i64 (bM (!b) f))):=fun W b f=>bn b f W;have HBO:Ia (∀W W':H5,H9 (N+3) W1 W→H9 W.heap.size W W'→H9 N w W'):=fun W W' h1 h2=>HBN.out W' (h1.trans (h2.mono (by have:=h1.size;rw[HS1.out] at this;exact this)));obtain⟨B,hB⟩:=zE (bR&&(!wD||bD));rw[hB];cases B with
  |false=>
   have HRR:Ia (R=15):=by unfold Ia;rw[←HR.out];unfold aC;rw[if_neg HNR.out,if_pos (by rw[HTH.out];exact hB)]
   clear hx HV hB;obtain⟨wv,hwv⟩:=zE ((if wD=true then(i.d,true) else(0,false)):Int×Bool);rw[hwv,Bool.not_false];clear hwv HWO;go_wp2;go_ret;rw[HRR.out,HN.out];exact⟨rfl,HBF.out⟩
  |true=>
  rw[Bool.not_true];clear HSB HSC HSI HSS HB2' HWO HWR HR2;have hop:=HOP.out
  ·
   have ew:wD=false:=by rw[←HWD.out,hop];decide
   subst ew;have ebR:bR=true:=by simpa using hB
   have hav:isVar g.vs.length i.a=true:=fD (by rw[HBR.out];exact ebR) (by rw[hop];decide);have hE:=dZ HR HNR HTH (by rw[ebR];simp);have i0:=hx.i0;rw[hop] at i0;have g7:=hx.g7;have g2:=hx.g2;have i2:=hx.i2;obtain⟨ka,vba,voa,xa,hka,hkla,hva,hta,hca⟩:=HV.out i.a hav;have HaC:=zH hca;obtain⟨a0,a1⟩:=hca wc hbc;clear hca;have hkIa:(ka:Int)<(g.vs.length:Int):=by omega
   subst hva;rw[hka] at i2;obtain⟨pa,hpa⟩:=zE xa.ptr;rw[hpa] at a0 hta;have i9:=hx.i9;have i10:=hx.i10;obtain⟨n,hn⟩:=zE g.c.ins.length;obtain⟨t,ht⟩:=zE i.tI;obtain⟨u,hu⟩:=zE i.els;rw[ht] at i9;rw[hu] at i10;rw[hn] at g7;have HRR:Ia (R=if isVar n t&&isVar n u then bM (!pa) 7 else 15):=by unfold Ia;rw[hE];simp[hop,hn,ht,hu,dR,hta]
   clear hop hE hB hx HBX HV
   by_cases t0:t<0
   ·have e0:decide (t<0)=true:=decide_eq_true t0
    have HRQ:Ia (R=15):=by unfold Ia;rw[HRR.out,if_neg (by unfold isVar;simp;omega)]
    clear HRR;go_wp2;go_ret;rw[HRQ.out,HN.out];exact⟨rfl,HBF.out⟩
   have e0:decide (t<0)=false:=decide_eq_false t0
   by_cases t1:(n:Int)≤t
   ·have e1:decide ((n:Int)≤t)=true:=decide_eq_true t1
    have HRQ:Ia (R=15):=by unfold Ia;rw[HRR.out,if_neg (by unfold isVar;simp;omega)]
    clear HRR;go_wp2;go_ret;rw[HRQ.out,HN.out];exact⟨rfl,HBF.out⟩
   have e1:decide ((n:Int)≤t)=false:=decide_eq_false t1
   by_cases u0:u<0
   ·have e2:decide (u<0)=true:=decide_eq_true u0
    have HRQ:Ia (R=15):=by unfold Ia;rw[HRR.out,if_neg (by unfold isVar;simp;omega)]
    clear HRR;go_wp2;go_ret;rw[HRQ.out,HN.out];exact⟨rfl,HBF.out⟩
   have e2:decide (u<0)=false:=decide_eq_false u0
   by_cases u1:(n:Int)≤u
   ·have e3:decide ((n:Int)≤u)=true:=decide_eq_true u1
    have HRQ:Ia (R=15):=by unfold Ia;rw[HRR.out,if_neg (by unfold isVar;simp;omega)]
    clear HRR;go_wp2;go_ret;rw[HRQ.out,HN.out];exact⟨rfl,HBF.out⟩
   have e3:decide ((n:Int)≤u)=false:=decide_eq_false u1;have HRQ:Ia (R=bM (!pa) 7):=by unfold Ia;rw[HRR.out,if_pos (by rw[dX.2 ⟨by omega,by omega⟩,dX.2 ⟨by omega,by omega⟩];rfl)]
   clear HRR
   go_wp2_with (go_at_call 51;refine(HO.out _ _ _).mono ?_;rintro e w9 ⟨rfl,hb9⟩;have HB9:=zH (HBO.out _ _ hbc hb9);clear hb9)
   go_ret;rw[HRQ.out,HN.out];exact⟨rfl,HB9.out⟩
theorem qW (m:Mo)(g:Fn)(i:Ins)(w:H5)(h:nC w m g)(hi:i.args_in w)(hal:i.args.length≤40)(hkn:∀v,isVar g.vs.length v=true→m.known (ax g.vs v)=true):
  zP 49 #[.agg m.cells,.agg g.cells,.agg i.cells] w (.int .i64 (aC m g i)):=by
 by_cases h0:i.op<1∨18<i.op
 ·exact tJ m g i w h hi hal hkn h0
 by_cases h1:i.op=1∨i.op=2∨i.op=3∨i.op=5∨i.op=6
 ·exact tK m g i w h hi hal hkn h1
 by_cases h2:i.op=4∨i.op=13∨i.op=14∨i.op=16
 ·exact tL m g i w h hi hal hkn h2
 by_cases h3:i.op=9∨i.op=12∨i.op=18
 ·exact tN m g i w h hi hal hkn h3
 by_cases h4:i.op=15
 ·exact tQ m g i w h hi hal hkn h4
 by_cases h5:i.op=17
 ·exact tT m g i w h hi hal hkn h5
 ·exact tO m g i w h hi hal hkn (by omega)
theorem yY {α:Type}{nm:α→ByteArray}{xs:List α}(h:∀(q:Nat)(x:α),xs[q]?=some x→fZ (fun y=>nm y==nm x) xs=(q:Int)):(xs.map nm).Nodup:=by
 rw[List.Nodup,List.pairwise_map,List.pairwise_iff_getElem];intro i j hi hj hij e;have h1:=h j xs[j] (GN hj);unfold fZ at h1;have h2:xs.findIdx (fun y=>nm y==nm xs[j])≤i:=by
  apply Nat.le_of_not_lt;intro hlt;have:=List.not_of_lt_findIdx hlt;simp[e] at this
 rw[if_pos (by omega)] at h1;omega
theorem uT {α:Type}{nm:α→ByteArray}{xs:List α}{q:Nat}{x:α}(hx:xs[q]?=some x)(h:fZ (fun y=>nm y==nm x) xs≠(q:Int)):¬(xs.map nm).Nodup:=by
 intro hn;rw[List.Nodup,List.pairwise_map,List.pairwise_iff_getElem] at hn;obtain⟨hq,e⟩:=GQ.1 hx;refine h (iH (j:=q) (y:=x) (fun z hz=> ?_) hx (by simp));obtain⟨i,hi,ez⟩:=List.mem_take_iff_getElem.1 hz;have:=hn i q (by omega) hq (by omega);rw[←ez,beq_eq_false_iff_ne,←e];exact this
def wY (l:List Fd)(k:Nat):Prop:=((l.take k).map Fd.nm).Nodup
theorem wY.next {l:List Fd}{k:Nat}{x:Fd}(h:wY l k)(hx:l[k]?=some x)(hz:∀z∈l.take k,(z.nm==x.nm)=false):wY l (k+1):=by
 unfold wY;obtain⟨hk,e⟩:=GQ.1 hx;rw[List.take_add_one,hx,List.map_append,List.nodup_append];refine⟨h,by simp,fun a ha b hb=> ?_⟩;obtain⟨z,hz',rfl⟩:=List.mem_map.1 ha;simp only[Option.toList_some,List.map_cons,List.map_nil,Hq] at hb;subst hb;have:=hz z hz'
 rwa [beq_eq_false_iff_ne] at this
theorem yZ {m:Mo}{s:St}{j k:Nat}{x y:Fd}(hs:s∈m.ss)(hx:s.fs[j]?=some x)(hy:s.fs[k]?=some y)(hjk:j<k)(e:x.nm=y.nm):di m=true:=by
 have hn:¬(s.fs.map Fd.nm).Nodup:=by
  intro hn;rw[List.Nodup,List.pairwise_map,List.pairwise_iff_getElem] at hn;obtain⟨h1,e1⟩:=GQ.1 hx;obtain⟨h2,e2⟩:=GQ.1 hy;exact hn j k h1 h2 hjk (by rw[e1,e2];exact e)
 unfold di;rw[Bool.or_eq_true,Bool.or_eq_true,List.any_eq_true];exact .inl (.inl ⟨s,hs,decide_eq_true hn⟩)
theorem wZ {m:Mo}(h:¬(m.ss.map fun s=>s.s.nm).Nodup):di m=true:=by
 unfold di;rw[Bool.or_eq_true,Bool.or_eq_true];exact .inl (.inr (decide_eq_true h))
theorem Bd {m:Mo}(h:¬(m.fs.map fun f=>f.c.nm).Nodup):di m=true:=by
 unfold di;rw[Bool.or_eq_true,Bool.or_eq_true];exact .inr (decide_eq_true h)
theorem Be {m:Mo}(h1:∀s∈m.ss,wY s.fs s.fs.length)(h2:(m.ss.map fun s=>s.s.nm).Nodup)(h3:(m.fs.map fun f=>f.c.nm).Nodup):di m=false:=by
 unfold di;rw[decide_eq_false (not_not_intro h2),decide_eq_false (not_not_intro h3),Bool.or_false,Bool.or_false,List.any_eq_false];intro s hs;have:=h1 s hs;unfold wY at this;rw[Ha] at this;simp[this]
theorem xc (m:Mo)(w:H5)(hmo:m.inn w)(hsl:m.ss.length≤90000)(hfl:m.fs.length≤90000)(hfd:∀s∈m.ss,s.fs.length≤90000):
  zP 47 #[.agg m.cells] w (.bool (di m)):=by
 obtain⟨R,hR⟩:=zE (di m);rw[hR];have HR:=zH hR;obtain⟨N,hN⟩:=zE w.heap.size;obtain⟨W1,hW1⟩:=zE (w.alloc (.cells m.cells 25));have hb1:=gK hW1;have hs1:W1.heap.size=N+1:=by rw[←hW1];simp[hN]
 have hr1:W1.heap[N]?=some (.cells m.cells 25 (0,0)):=by rw[←hW1,←hN];exact alloc_at _ _
 have HK:Ia (∀W,H9 W1.heap.size W1 W→W.cell? ⟨N,0,none⟩=some (.slice m.sA m.ss.length m.sC)∧W.cell? ⟨N,1,none⟩=some (.slice m.fA m.fs.length m.fC)∧m.inn W∧H9 w.heap.size w W):=fun W hW=>by
  have q1:=(hW.block N (by omega)).trans hr1;have h3:=hb1.trans (hW.mono hb1.size);exact⟨by rw[cell_of_row _ _ _ _ _ _ q1];rfl,by rw[cell_of_row _ _ _ _ _ _ q1];rfl,hmo.below h3,h3⟩
 have HST:=zH fun W hW nm=>gY m nm W hmo.ns (HK.out W hW).2.2.1.srow;have HFU:Ia (∀W,H9 W1.heap.size W1 W→∀nm,zP 50 #[.agg #[.slice m.sA m.ss.length m.sC,.slice m.fA m.fs.length m.fC],.string nm] W (.int .i64 (m.fnIx nm))):=fun W hW nm=>mf m nm W hmo.nf (HK.out W hW).2.2.1.frow;have HFD:=zH hfd;have hW1':=hW1;simp only[Mo.cells] at hW1';have HW1:=zH hW1';have HS1:=zH hs1;simp only[Mo.cells];clear hmo hfd hW1 hW1' hb1 hr1 hR hs1;obtain⟨c0,c1,_,_⟩:=HK.out W1 (Hw _ _);go_enter func47,ntmps47
 go_upto_region 1 with(fail)
 rw[HW1.out]
 go_wp2_with fail
 go_loopw [3] (fun k wr=>∃j:Nat,j≤m.ss.length∧k= .int .i64 (j:Int)∧(∀(q:Nat)(s:St),q<j→m.ss[q]?=some s→m.stIx s.s.nm=(q:Int)∧wY s.fs s.fs.length)∧H9 W1.heap.size W1 wr) (fun k _=>m.ss.length-(intOf k).toNat)
 case atStart=>exact⟨0,Hg _,rfl,fun q s hq=>absurd hq (Nat.not_lt_zero _),Hw _ _⟩
 case round=>
  rename H5=>wo;clear c0 c1;obtain⟨j,hj,rfl,hz,hb⟩:=hrel;obtain⟨c0,c1,hmi,hbw⟩:=HK.out wo hb;have HZ:=zH hz;have HB:=zH hb;have HBW:=zH hbw
  by_cases hjl:j<m.ss.length
  ·obtain⟨s,hs⟩:∃y,m.ss[j]?=some y:=⟨_,GN hjl⟩
   have hsm:=GV hs;obtain⟨g1,off,hA,hg1,q1⟩:=hmi.srow (by intro e;rw[e] at hjl;simp at hjl);have HD:Ia (∀W,H9 wo.heap.size wo W→W.cell? ⟨N,0,none⟩=some (.slice (some ⟨g1,off,none⟩) m.ss.length m.sC)∧W.cell? ⟨N,1,none⟩=some (.slice m.fA m.fs.length m.fC)∧W.cell? ⟨g1,off+j*4,none⟩=some (.string s.s.nm)∧W.cell? ⟨g1,off+j*4+1,none⟩=some (.slice s.s.fA s.fs.length s.s.fC)∧H9 W1.heap.size W1 W∧s.inn W):=fun W hW=>by
    have h:=HB.out.trans (hW.mono HB.out.size);obtain⟨k0,k1,k2,_⟩:=HK.out W h;refine⟨by rw[←hA];exact k0,k1,by rw[hW.cell (p:=⟨g1,_,none⟩) hg1];exact q1 j s hs 0 _ rfl, ?_,h,k2.sin s hsm⟩;rw[hW.cell (p:=⟨g1,_,none⟩) hg1,←(hmi.sin s hsm).nf];exact q1 j s hs 1 _ rfl
   have hjI:(j:Int)<(m.ss.length:Int):=by omega
   have HS:=zH hs;have HSM:=zH hsm;have hfd:=HFD.out s hsm;obtain⟨x,hx⟩:=zE (m.stIx s.s.nm);have HX:=zH hx;have HC:Ia (∀p:BW wo,zP 84 #[.agg #[.slice (some ⟨g1,off,none⟩) m.ss.length m.sC,.slice m.fA m.fs.length m.fC],.string s.s.nm] p.w (.int .i64 x)):=fun p=>by
    rw[←hA,←hx];exact HST.out p.w (HD.out p.w p.h).2.2.2.2.1 s.s.nm
   have m0:∀p:BW wo,p.w.cell? ⟨N,0,none⟩=some (.slice (some ⟨g1,off,none⟩) m.ss.length m.sC):=fun p=>(HD.out p.w p.h).1;have m1:∀p:BW wo,p.w.cell? ⟨N,1,none⟩=some (.slice m.fA m.fs.length m.fC):=fun p=>(HD.out p.w p.h).2.1;have m2:∀p:BW wo,p.w.cell? ⟨g1,off+j*4,none⟩=some (.string s.s.nm):=fun p=>(HD.out p.w p.h).2.2.1;clear hz hb hbw hs hsm hmi hx
   go_wp2_with fail
   clear c0 c1 q1;refine zQ ?_
   repeat (go_big_quiet_step (first|(go_at_call 84;exact bg (HC.out _))))
   refine wpQuiet_nil ?_;rintro _ ⟨p,rfl⟩
   by_cases hxj:x=(j:Int)
   ·subst hxj
    obtain⟨W2,h2w⟩:=p
    show Exit.then _ _ _ _ W2
    obtain⟨c0,c1,c2,c3,hb2,hsi⟩:=HD.out W2 h2w;have HB2:=zH hb2;have H2W:=zH h2w;clear m0 m1 m2 hb2 h2w hsi
    go_wp2_with fail
    go_loopw [5] (fun k wr2=>∃i:Nat,i≤s.fs.length∧k= .int .i64 (i:Int)∧wY s.fs i∧H9 wo.heap.size wo wr2) (fun k _=>s.fs.length-(intOf k).toNat)
    case atStart=>exact⟨0,Hg _,rfl,by unfold wY;simp,H2W.out⟩
    case round=>
     obtain⟨i,hi,rfl,hnd,hbr⟩:=hrel;have HND:=zH hnd;have HBR:=zH hbr;clear c0 c1 c2 c3 hnd
     by_cases hil:i<s.fs.length
     ·obtain⟨y,hy⟩:∃y,s.fs[i]?=some y:=⟨_,GN hil⟩
      obtain⟨f1,fo,hfA,_,_⟩:=(HD.out wr hbr).2.2.2.2.2.row (by intro e;rw[e] at hil;simp at hil);have HFC:Ia (∀W,H9 wo.heap.size wo W→∀(q:Nat)(z:Fd),s.fs[q]?=some z→W.cell? ⟨f1,fo+q*5,none⟩=some (.string z.nm)):=fun W hW q z hz=>by
       obtain⟨f2,fo2,hfA2,_,q2⟩:=(HD.out W hW).2.2.2.2.2.row (by intro e;rw[e] at hil;simp at hil);rw[hfA] at hfA2;simp only[Option.some.injEq,Addr.mk.injEq,and_true] at hfA2;rw[hfA2.1,hfA2.2];exact q2 q z hz 0 _ rfl
      have hiI:(i:Int)<(s.fs.length:Int):=by omega
      have HY:=zH hy;have HFA:=zH hfA;rw[hfA];clear hy hbr hfA
      go_wp2_with fail
      go_loopw [6] (fun k wr3=>∃q:Nat,q≤i∧k= .int .i64 (q:Int)∧(∀z∈s.fs.take q,(z.nm==y.nm)=false)∧H9 wo.heap.size wo wr3) (fun k _=>i-(intOf k).toNat)
      case atStart=>exact⟨0,Hg _,rfl,by simp,HBR.out⟩
      case round=>
       obtain⟨q,hq,rfl,hz,hb3⟩:=hrel;have HZ3:=zH hz;have HB3:=zH hb3
       by_cases hql:q<i
       ·obtain⟨x,hx⟩:∃y,s.fs[q]?=some y:=⟨_,GN (by omega)⟩
        have d0:wr.cell? ⟨f1,fo+q*5,none⟩=some (.string x.nm):=HFC.out wr hb3 q x hx;have d1:wr.cell? ⟨f1,fo+i*5,none⟩=some (.string y.nm):=HFC.out wr hb3 i y HY.out;have hqI:(q:Int)<(i:Int):=by omega
        have hqI2:(q:Int)<(s.fs.length:Int):=by omega
        have HX3:=zH hx
        by_cases hd:x.nm=y.nm
        ·have HRR:Ia (R=true):=by unfold Ia;rw[←HR.out];exact yZ HSM.out HX3.out HY.out hql hd
         have HBF:Ia (H9 w.heap.size w wr):=(HK.out wr (HB.out.trans (hb3.mono HB.out.size))).2.2.2;rw[hd] at d0;clear hz hx hb3;go_wp2
         go_quiet (fail)
         go_wp2;go_ret;rw[HRR.out];exact⟨rfl,below_drewN HBF.out _⟩
        ·have hd':¬(x.nm.toList=y.nm.toList):=fun e=>hd (eq_of_beq (by rw[beq_toListBytes,e];simp))
         have hd1:(x.nm.toList==y.nm.toList)=false:=by simpa using hd'
         clear hd';have HDD:Ia ((x.nm==y.nm)=false):=by unfold Ia;simp[hd]
         clear hz hx hb3 hd;go_wp2
         go_quiet (fail)
         go_wp2;go_roundw
         case rel=>exact⟨q+1,by omega,by go_num,dE (p:=fun z:Fd=>z.nm==y.nm) HZ3.out HX3.out HDD.out,below_drewN HB3.out _⟩
         case measure=>simp[intOf];omega
       ·have hqe:q=i:=by omega
        subst hqe;clear hz hb3;go_wp2;go_roundw
        case rel=>exact⟨q+1,by omega,by go_num,HND.out.next HY.out HZ3.out,HB3.out⟩
        case measure=>simp[intOf];omega
     ·have hie:i=s.fs.length:=by omega
      subst hie;clear hbr;go_wp2;go_roundw
      case rel=>exact⟨j+1,by omega,by go_num,fun q t hq ht=>by
       rcases Nat.lt_or_ge q j with h|h
       ·exact HZ.out q t h ht
       ·have e:q=j:=by omega
        rw[e,HS.out] at ht;rw[←Hl ht,e];exact⟨HX.out,HND.out⟩,HB.out.trans (HBR.out.mono HB.out.size)⟩
      case measure=>simp[intOf];omega
   ·have HRR:Ia (R=true):=by unfold Ia;rw[←HR.out];exact wZ (uT (nm:=fun t:St=>t.s.nm) HS.out (fun e=>hxj (by rw[←HX.out];exact e)))
    have hxj':(x != (j:Int))=true:=by rw[bne_iff_ne];exact hxj
    have HBF:Ia (H9 w.heap.size w p.w):=(HK.out p.w (HD.out p.w p.h).2.2.2.2.1).2.2.2;clear m0 m1 m2;go_wp2;go_ret;rw[HRR.out];exact⟨rfl,HBF.out⟩
  ·have hje:j=m.ss.length:=by omega
   subst hje;clear hz hb hbw hmi
   go_wp2_with fail
   clear c0 c1
   go_loopw [7] (fun k wr=>∃i:Nat,i≤m.fs.length∧k= .int .i64 (i:Int)∧(∀(q:Nat)(f:Fn),q<i→m.fs[q]?=some f→m.fnIx f.c.nm=(q:Int))∧H9 W1.heap.size W1 wr) (fun k _=>m.fs.length-(intOf k).toNat)
   case atStart=>exact⟨0,Hg _,rfl,fun q s hq=>absurd hq (Nat.not_lt_zero _),HB.out⟩
   case round=>
    obtain⟨i,hi,rfl,hz,hb⟩:=hrel;obtain⟨c0,c1,hmi,hbw⟩:=HK.out wr hb;have HZ2:=zH hz;have HB2:=zH hb;have HBW2:=zH hbw
    by_cases hil:i<m.fs.length
    ·obtain⟨f,hs⟩:∃y,m.fs[i]?=some y:=⟨_,GN hil⟩
     obtain⟨g1,off,hA,hg1,q1⟩:=hmi.frow (by intro e;rw[e] at hil;simp at hil);have HD:Ia (∀W,H9 wr.heap.size wr W→W.cell? ⟨N,0,none⟩=some (.slice m.sA m.ss.length m.sC)∧W.cell? ⟨N,1,none⟩=some (.slice (some ⟨g1,off,none⟩) m.fs.length m.fC)∧W.cell? ⟨g1,off+i*8,none⟩=some (.string f.c.nm)∧H9 W1.heap.size W1 W):=fun W hW=>by
      have h:=HB2.out.trans (hW.mono HB2.out.size);obtain⟨k0,k1,_,_⟩:=HK.out W h;exact⟨k0,by rw[←hA];exact k1,by rw[hW.cell (p:=⟨g1,_,none⟩) hg1];exact q1 i f hs 0 _ rfl,h⟩
     have hiI:(i:Int)<(m.fs.length:Int):=by omega
     have HS:=zH hs;obtain⟨x,hx⟩:=zE (m.fnIx f.c.nm);have HX:=zH hx;have HC:Ia (∀p:BW wr,zP 50 #[.agg #[.slice m.sA m.ss.length m.sC,.slice (some ⟨g1,off,none⟩) m.fs.length m.fC],.string f.c.nm] p.w (.int .i64 x)):=fun p=>by
      rw[←hA,←hx];exact HFU.out p.w (HD.out p.w p.h).2.2.2 f.c.nm
     have m0:∀p:BW wr,p.w.cell? ⟨N,0,none⟩=some (.slice m.sA m.ss.length m.sC):=fun p=>(HD.out p.w p.h).1;have m1:∀p:BW wr,p.w.cell? ⟨N,1,none⟩=some (.slice (some ⟨g1,off,none⟩) m.fs.length m.fC):=fun p=>(HD.out p.w p.h).2.1;have m2:∀p:BW wr,p.w.cell? ⟨g1,off+i*8,none⟩=some (.string f.c.nm):=fun p=>(HD.out p.w p.h).2.2.1;clear hz hb hbw hs hmi hx
     go_wp2_with fail
     clear c0 c1 q1;refine zQ ?_
     repeat (go_big_quiet_step (first|(go_at_call 50;exact bg (HC.out _))))
     refine wpQuiet_nil ?_;rintro _ ⟨p,rfl⟩
     by_cases hxj:x=(i:Int)
     ·subst hxj
      clear m0 m1 m2;go_wp2;go_roundw
      case rel=>exact⟨i+1,by omega,by go_num,fun q t hq ht=>by
       rcases Nat.lt_or_ge q i with h|h
       ·exact HZ2.out q t h ht
       ·have e:q=i:=by omega
        rw[e,HS.out] at ht;rw[←Hl ht,e];exact HX.out,(HD.out p.w p.h).2.2.2⟩
      case measure=>simp[intOf];omega
     ·have HRR:Ia (R=true):=by unfold Ia;rw[←HR.out];exact Bd (uT (nm:=fun t:Fn=>t.c.nm) HS.out (fun e=>hxj (by rw[←HX.out];exact e)))
      have hxj':(x != (i:Int))=true:=by rw[bne_iff_ne];exact hxj
      have HBF:Ia (H9 w.heap.size w p.w):=(HK.out p.w (HD.out p.w p.h).2.2.2).2.2.2;clear m0 m1 m2;go_wp2;go_ret;rw[HRR.out];exact⟨rfl,HBF.out⟩
    ·have hie:i=m.fs.length:=by omega
     subst hie;have HRR:Ia (R=false):=by
      unfold Ia;rw[←HR.out];refine Be (fun s hs=> ?_) (yY (nm:=fun t:St=>t.s.nm) fun q s hs=> ?_) (yY (nm:=fun t:Fn=>t.c.nm) fun q f hf=> ?_)
      ·obtain⟨q,hq⟩:=List.mem_iff_getElem?.1 hs
       exact(HZ.out q s (GQ.1 hq).1 hq).2
      ·exact(HZ.out q s (GQ.1 hs).1 hs).1
      ·exact HZ2.out q f (GQ.1 hf).1 hf
     clear hz hb hbw hmi;go_wp2;go_ret;rw[HRR.out];exact⟨rfl,HBW2.out⟩
end Go.Proofs.YtjomgckjhcfbgaaGreat
