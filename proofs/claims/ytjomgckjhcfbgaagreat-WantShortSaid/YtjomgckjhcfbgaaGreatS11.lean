/- Walks. -/
import Derived.Laws.IdiomCopy
import Derived.Sort.LoopGhostIn
import Derived.Sort.QuietIn
import Derived.Test.YtjomgckjhcfbgaaGreatS10
set_option maxRecDepth 100000
set_option maxHeartbeats 64000000
set_option linter.all false
namespace Go.Proofs.YtjomgckjhcfbgaaGreat
open Go.RowKit
open _root_.List renaming getElem?_eq_getElem→GN,getElem?_eq_some_iff→GQ,mem_of_getElem?→GV,setIfInBounds_toArray→GX,set_cons_zero→GY,set_cons_succ→GZ,take_length→Ha
open _root_.Array renaming getElem?_eq_some_iff→GR
open _root_.Nat renaming le_refl→He,zero_le→Hg
open _root_.Option renaming some.inj→Hl
open _root_.Int renaming toNat_natCast→Ho
open Go.RowKit.Below renaming refl→Hw
open Go renaming World→H5
open Go.RowKit renaming Below→H9,Hid→Ia
open Tryz
section
attribute [local go_sem] Oper.semAt_some
private theorem D5 (p:Tmp)(v:Value)(t:Array Value):((#[p]:Array Tmp).zip #[v]).foldl (fun t (p,v)=>t.setIfInBounds p v) t=t.setIfInBounds p v:=by simp
theorem yT (m:Mo)(w:H5):Calls prog 95 #[.agg m.cells] w fun e w'=>
  e= .returned (.func (.func 134) #[] #[.pointer (some ⟨w.heap.size,0,none⟩)])∧w'=w.alloc (.cells m.cells 25):=by
 have hmf:∀(fn:Fn)(first cap:Array Value)(w:H5),True:=fun _ _ _ _=>trivial;clear hmf;go_enter func95,ntmps95;go_wp2;go_ret;exact⟨rfl,rfl⟩
def A7:Fn:=⟨⟨⟨#[]⟩,0,none,0,0,false,⟨#[]⟩,0,none,0,0,none,0,[]⟩,[],[],[]⟩
def qf (cs:Array Value):Nat→List Value→Array Value
 |_,[]=>cs
 |o,v::r=>qf (cs.setIfInBounds o v) (o+1) r
theorem nK {b:Nat}{t:TypeId}:∀(vs:List Value)(o:Nat)(w:H5)(cs:Array Value),w.heap[b]?=some (.cells cs t (0,0))→(w.setCells b o vs).heap[b]?=some (.cells (qf cs o vs) t (0,0))
 |[],_,_,_,h=>h
 |v::r,o,w,cs,h=>nK r (o+1) _ _ (heap_setCell_same w b o cs t v h)
theorem A8 (m:Mo)(g f:Fn):qf (jg m g) 2 f.cells.toList=jg m f:=by
 simp[qf,jg,Fn.cells,dQ.cells]
theorem FQ (m:Mo)(g:Fn):((jg m g).all fun x=>x.oneCell')=true:=by
 rw[←Array.all_toList];simp[jg,Value.oneCell']
theorem bY (tmps:Array Value)(w:H5)(ad:Addr)(v:Value)(ht:tmps[2]?=some (.pointer (some ad)))(hc:w.cell? ad=some v):(results Tryz.f53 tmps).run prog w= .ok v w:=by
 simp[results,go_sem,ht,hc]
structure iI (w:H5)(m:Mo):Prop where
 mo:m.inn w
 sl:m.ss.length≤90000
 fl:m.fs.length≤90000
 fd:∀s∈m.ss,s.fs.length≤90000
 vl:∀f∈m.fs,f.vs.length≤90000
 al:∀f∈m.fs,∀i∈f.c.ins,i.args.length≤40
theorem World.keptBut_ext (b:Nat):∀(vs:List Value)(o:Nat)(w:H5),Ext (·=b) w (w.setCells b o vs)
 |[],_,w=>Ext.refl _ w
 |v::r,o,w=>(Ext.set1 w b o v).trans (World.keptBut_ext b r (o+1) _) (fun _ hj=> .inl hj)
structure RI (m:Mo)(N:Nat)(XS:List Ty)(W5:H5)(pre:List Ty)(C:Nat→Prop)(W:H5):Prop where
 res:W.heap[N+1]?=some (.cells #[.int .i64 0] 27 (0,0))
 ext:Ext (fun k=>k=N+1) W5 W
 kn:∀t∈pre,m.known t=true
 own:(C=fun k=>k=N+1)∨∃(b:Nat) (t:Ty),C=(fun k=>k=N+1∨k=b)∧XS[pre.length]?=some t∧W5.heap.size≤b∧W.heap[b]?=some (.cells #[.bool t.1,.string t.2] 32 (0,0))
theorem RI.next {m:Mo}{N:Nat}{XS pre:List Ty}{W5 W W':H5}{C:Nat→Prop}(h:RI m N XS W5 pre C W)(hN:N+1<W5.heap.size)(hx:Ext (fun k=>W5.heap.size≤k∧¬C k) W W'):RI m N XS W5 pre C W':=by
 refine⟨hx.heap h.res (fun h=>by omega),h.ext.trans hx (fun j hj=> .inr hj.1),h.kn, ?_⟩;rcases h.own with e|⟨b,t,e,h1,h2,h3⟩
 ·exact .inl e
 ·exact .inr ⟨b,t,e,h1,h2,hx.heap h3 (fun h=>h.2 (by rw[e];exact .inr rfl))⟩
theorem RI.res_own {m:Mo}{N:Nat}{XS pre:List Ty}{W5 W:H5}{C:Nat→Prop}(h:RI m N XS W5 pre C W):C (N+1):=by
 rcases h.own with e|⟨b,t,e,_⟩
 ·rw[e]
 ·rw[e];exact .inl rfl
structure RX (m:Mo)(N:Nat)(W5:H5)(c:Code)(C:Nat→Prop)(W:H5):Prop where
 ret:c= .ret
 res:W.heap[N+1]?=some (.cells #[.int .i64 5] 27 (0,0))
 ext:Ext (fun k=>k=N+1) W5 W
 bad:(bN m).all m.known=false
 own:C (N+1)
theorem yU (m:Mo)(w:H5)(h:iI w m):
  zP 53 #[.agg m.cells] w (.int .i64 (gF m)):=by
 have HM:=zH h;obtain⟨R,hR⟩:=zE (gF m);have HR:Ia (R=if 30<m.ss.length∨60<m.fs.length then 2
  else if di m=true then 6
  else if (bN m).all m.known=false then 5
  else if aP (codeF m) m.fs≠0 then aP (codeF m) m.fs
  else bM (decide (0≤m.fnIx dB)&&(match m.fs[(m.fnIx dB).toNat]? with
   |some g=>decide (g.c.par=0)&& !g.c.rp
   |none=>false)) 9):=hR.symm
 rw[hR];clear h hR;obtain⟨N,hN⟩:=zE w.heap.size;obtain⟨W1,hW1⟩:=zE ((w.alloc (.cells m.cells 25)).alloc (.cells #[.int .i64 0] 27));have hb1:=uG hW1 hN;have hs1:W1.heap.size=N+2:=by rw[←hW1];simp[hN]
 have hr1:=xV hW1 hN;have hr2:=zV hW1 hN;obtain⟨W2,hW2⟩:=zE (W1.alloc (.cells (jg m A7) 184));have hst:∀(c:Array Value),c.size=10→(storeCells ⟨N+2,0,none⟩ (jg m A7).toList 0).run prog (W1.alloc (.cells c 184))= .ok () W2:=fun c hc=>by
  rw[←hW2,←hs1];exact run_storeCells_new (P:=prog) W1 184 c (jg m A7) (by show _=some 10;kernel_rfl) hc (FQ m A7)
 simp only[jg,A7,List.length_nil] at hst;have b0:=zR hr1 0 (.slice m.sA m.ss.length m.sC);have b1:=zR hr1 1 (.slice m.fA m.fs.length m.fC);have hb2:H9 (N+2) W1 W2:=by rw[←hW2,←hs1];exact(Hw _ _).alloc (He _) _
 have hs2:W2.heap.size=N+3:=by rw[←hW2];simp[hs1]
 have hr3:W2.heap[N+2]?=some (.cells (jg m A7) 184 (0,0)):=by rw[←hW2,←hs1];exact alloc_at _ _
 have HROWS:Ia (∀W,H9 (N+3) W2 W→W.heap[N]?=some (.cells m.cells 25 (0,0))∧W.heap[N+1]?=some (.cells #[.int .i64 0] 27 (0,0))∧W.heap[N+2]?=some (.cells (jg m A7) 184 (0,0))):=fun W hW=>
  ⟨(hW.block N (by omega)).trans ((hb2.block N (by omega)).trans hr1),(hW.block (N+1) (by omega)).trans ((hb2.block (N+1) (by omega)).trans hr2),(hW.block (N+2) (by omega)).trans hr3⟩
 have HB2:Ia (H9 N w W2):=hb1.trans (hb2.mono (by omega));have HR1:=zH hr1;have HN:=zH hN;have HFIN:Ia (∀(W:H5)(z:Int)(u:Value)(bs:List Nat),W.heap[N+1]?=some (.cells #[u] 27 (0,0))→H9 N w W→(∀b∈bs,N+2≤b)→∀w',Ext (·∈bs) (W.setCell ⟨N+1,0,none⟩ (.int .i64 z)) w'→w'.cell? ⟨N+1,0,none⟩=some (.int .i64 z)∧H9 N w w'):=by
  intro W z u bs h1 h2 h3 w' hx;have h4:=heap_setCell_same W (N+1) 0 _ _ (.int .i64 z) h1;have h5:=hx.heap h4 (fun h=>by have:=h3 _ h;omega);refine⟨by rw[cell_of_row _ _ _ _ _ _ h5];rfl, ?_⟩;have h6:Ext (N≤·) w (W.setCell ⟨N+1,0,none⟩ (.int .i64 z)):=(Ext.of_below h2).trans (Ext.set1 _ _ _ _) (fun j hj=> .inl (by show N≤j;omega));exact(h6.trans hx (fun j hj=> .inl (by show N≤j;have:=h3 _ hj;omega))).below (by omega) (fun k hk=>hk)
 have hW2':=hW2;simp only[jg,A7,List.length_nil] at hW2';have HW2:=zH hW2';clear hb1 hr1 hr2 hb2 hr3 hW2 hW2'
 (refine mR func53 rfl ?_
  simp only[ntmps53,List.size_toArray,List.length_cons,List.length_nil,Nat.reduceAdd,Nat.reduceSub,Array.replicate_succ,
   Array.replicate_zero,List.push_toArray,List.append_toArray,List.nil_append,List.cons_append])
 go_wp2_with fail
 go_step3
 go_upto_region 2 with(fail)
 rw[HW2.out];clear HW2;obtain⟨rw0,rw1,rw2⟩:=HROWS.out W2 (Hw _ _);have c0:=zR rw0 0 (.slice m.sA m.ss.length m.sC);have c1:=zR rw0 1 (.slice m.fA m.fs.length m.fC);have c2:=zR rw1 0 (.int .i64 0);have c3:=frozen_of_row _ _ 0 _ _ rw1;have HRW1:=zH rw1;clear rw0 rw1 rw2 b0 b1 hst
 by_cases g1:30<m.ss.length
 ·have HRR:Ia (R=2):=by unfold Ia;rw[HR.out,if_pos (.inl g1)]
  clear HR
  go_wp2_with fail
  refine⟨[],rfl,by simp,by simp,.int .i64 2,fun w' hx=> ?_⟩;obtain⟨h1,h2⟩:=HFIN.out W2 2 _ [] HRW1.out HB2.out (by simp) w' hx;exact⟨bY _ _ _ _ rfl h1,by rw[HRR.out],by first|exact h2|(rw[HN.out];exact h2)⟩
 by_cases g2:60<m.fs.length
 ·have HRR:Ia (R=2):=by unfold Ia;rw[HR.out,if_pos (.inr g2)]
  clear HR
  go_wp2_with fail
  refine⟨[],rfl,by simp,by simp,.int .i64 2,fun w' hx=> ?_⟩;obtain⟨h1,h2⟩:=HFIN.out W2 2 _ [] HRW1.out HB2.out (by simp) w' hx;exact⟨bY _ _ _ _ rfl h1,by rw[HRR.out],by first|exact h2|(rw[HN.out];exact h2)⟩
 have HR2:Ia (R=if di m=true then 6
  else if (bN m).all m.known=false then 5
  else if aP (codeF m) m.fs≠0 then aP (codeF m) m.fs
  else bM (decide (0≤m.fnIx dB)&&(match m.fs[(m.fnIx dB).toNat]? with
   |some g=>decide (g.c.par=0)&& !g.c.rp
   |none=>false)) 9):=by unfold Ia;rw[HR.out,if_neg (by omega)]
 clear HR;have HTW:=zH (yQ m W2 (HM.out.mo.below (by rw[HN.out];exact HB2.out)) HM.out.sl HM.out.fl HM.out.fd);obtain⟨tw,htw⟩:=zE (di m);rw[htw] at HTW HR2;have HROW0:Ia (W2.heap[N]?=some (.cells m.cells 25 (0,0))):=(HROWS.out W2 (Hw _ _)).1;clear htw;cases tw with
 |true=>
  have HRR:Ia (R=6):=by unfold Ia;rw[HR2.out,if_pos rfl]
  clear HR2
  go_upto_region 4 with(fail)
  go_wp2_with (first
   |(refine wpList_load_row rfl 25 _ rfl N rfl 25 m.cells (0,0) _ HROW0.out underlying25 rfl (by kernel_rfl) ?_)
   |(go_at_call 94;refine HTW.out.mono ?_;rintro e w3 ⟨rfl,hb3⟩;have q1:=(HROWS.out w3 (hb3.mono (by omega))).2.1;have c2:w3.cell? ⟨N+1,0,none⟩=some (.int .i64 0):=(cell_of_row _ _ _ _ _ _ q1).trans rfl;have c3:=frozen_of_row _ _ 0 _ _ q1;have HQ1:=zH q1;have HB3:=zH hb3;clear hb3 q1))
  refine⟨[],rfl,by simp,by simp,.int .i64 6,fun w' hx=> ?_⟩;obtain⟨h1,h2⟩:=HFIN.out w3 6 _ [] HQ1.out (HB2.out.trans (HB3.out.mono (by omega))) (by simp) w' hx;exact⟨bY _ _ _ _ rfl h1,by rw[HRR.out],by first|exact h2|(rw[HN.out];exact h2)⟩
 |false=>
  have HR3:Ia (R=if (bN m).all m.known=false then 5
   else if aP (codeF m) m.fs≠0 then aP (codeF m) m.fs
   else bM (decide (0≤m.fnIx dB)&&(match m.fs[(m.fnIx dB).toNat]? with
    |some g=>decide (g.c.par=0)&& !g.c.rp
    |none=>false)) 9):=by unfold Ia;rw[HR2.out];rfl
  clear HR2
  go_upto_region 6 with(first
   |(refine wpList_load_row rfl 25 _ rfl N rfl 25 m.cells (0,0) _ HROW0.out underlying25 rfl (by kernel_rfl) ?_)
   |(go_at_call 94;refine HTW.out.mono ?_;rintro e w3 ⟨rfl,hb3⟩;have hb33:H9 (N+3) W2 w3:=hb3.mono (by omega);have HB3:=zH hb33;clear hb3 hb33))
  have hs3:=HB3.out.size;have HROW3:Ia (w3.heap[N]?=some (.cells m.cells 25 (0,0))):=(HROWS.out w3 HB3.out).1;have HROW3b:Ia (w3.heap[N+1]?=some (.cells #[.int .i64 0] 27 (0,0))):=(HROWS.out w3 HB3.out).2.1;have HROW3c:Ia (w3.heap[N+2]?=some (.cells (jg m A7) 184 (0,0))):=(HROWS.out w3 HB3.out).2.2;have HBW3:Ia (H9 N w w3):=HB2.out.trans (HB3.out.mono (by omega));obtain⟨B,hB⟩:=zE w3.heap.size;obtain⟨W5,hW5⟩:=zE (w3.alloc (.cells m.cells 25));have HTY:Ia (Calls prog 95 #[.agg m.cells] w3 fun e w'=>e= .returned (.func (.func 134) #[] #[.pointer (some ⟨B,0,none⟩)])∧w'=W5):=by
   rw[←hB,←hW5];exact yT m w3
  have hx35:Ext (fun _=>False) w3 W5:=by rw[←hW5];exact(Ext.refl _ _).alloc _
  have hs5:W5.heap.size=B+1:=by rw[←hW5];simp[hB]
  have hrB:W5.heap[B]?=some (.cells m.cells 25 (0,0)):=by rw[←hW5,←hB];exact alloc_at _ _
  have hb35:=gZ hW5 hB;have HBW5:Ia (H9 N w W5):=HBW3.out.trans (hb35.mono (by omega));have HIT:Ia (Iter prog 134 #[.pointer (some ⟨B,0,none⟩)] uS (bN m) (mH N B) W5):=by
   have:=yS w W5 m B HM.out.mo (by rw[HN.out];exact HBW5.out) hrB HM.out.fd HM.out.vl HM.out.sl HM.out.fl;rw[HN.out] at this;exact this
  have HX35:=zH hx35;clear hx35 hb35 hrB hW5 c0 c1 c2 c3
  go_upto_region 7 with(first
   |(refine wpList_load_row rfl 25 _ rfl N rfl 25 m.cells (0,0) _ HROW3.out underlying25 rfl (by kernel_rfl) ?_)
   |(go_at_call 95;refine HTY.out.mono ?_;rintro e w6 ⟨rfl,hw6⟩;rw[hw6];clear hw6))
  have hN5:N+1<W5.heap.size:=by omega
  have hBN:N+3≤B:=by omega
  have HFX:Ia (∀(W:H5)(z:Int)(bs:List Nat),W.heap[N+1]?=some (.cells #[.int .i64 z] 27 (0,0))→Ext (N≤·) w W→(∀b∈bs,N+2≤b)→∀w',Ext (·∈bs) W w'→w'.cell? ⟨N+1,0,none⟩=some (.int .i64 z)∧H9 N w w'):=by
   intro W z bs h1 h2 h3 w' hx;have h5:=hx.heap h1 (fun h=>by have:=h3 _ h;omega);refine⟨by rw[cell_of_row _ _ _ _ _ _ h5];rfl, ?_⟩;exact(h2.trans hx (fun j hj=> .inl (by show N≤j;have:=h3 _ hj;omega))).below (by omega) (fun k hk=>hk)
  obtain⟨XS,hXS⟩:=zE (bN m);have HXS:=zH hXS;rw[hXS] at HIT;clear hXS;refine om (gf:=134) rfl func134 (by rfl) rfl HIT.out (Hw _ _) ?hRd (fun _=>rfl) (RI m N XS W5) (fun c _ C W=>RX m N W5 c C W) (fun pre C W W' h hx=>h.next hN5 hx) ?hIC ?hIx (fun k=>k=N+1) ?h0 ?hround ?hdone ?hstop
  case hRd=>
   rintro k (h|rfl)
   ·omega
   ·omega
  case hIC=>
   intro pre C W h k hk;rcases h.own with e|⟨b,t,e,h1,h2,h3⟩
   ·rw[e] at hk
    have hk:k=N+1:=hk;subst hk;exact⟨(GR.1 h.res).1,fun h=>by rcases h with h|h<;>omega⟩
   ·rw[e] at hk
    rcases hk with hk|hk
    ·subst hk
     exact⟨(GR.1 h.res).1,fun h=>by rcases h with h|h<;>omega⟩
    ·subst hk
     exact⟨(GR.1 h3).1,fun h=>by rcases h with h|h<;>omega⟩
  case hIx=>
   intro c pre C W W' h hx;exact⟨h.ret,hx.heap h.res (fun q=>by omega),h.ext.trans hx (fun j hj=> .inr hj.1),h.bad,h.own⟩
  case h0=>exact⟨HX35.out.heap HROW3b.out (fun h=>h),Ext.refl _ _,by simp,.inl rfl⟩
  case hround=>
   rintro l pre ⟨xb,xs⟩ C W hl hI hpre;unfold uS;rw[D5];simp only[GX,GY,GZ];have HI:=zH hI;have HPRE:=zH hpre;have hxn:XS[pre.length]?=some (xb,xs):=by
    obtain⟨t,ht⟩:=hpre;rw[←ht];simp
   have hsW:=hI.ext.size;obtain⟨b,hb⟩:=zE W.heap.size;obtain⟨W6,hW6⟩:=zE (W.alloc (.cells #[.bool xb,.string xs] 32));have hst6:∀(c:Array Value),c.size=2→(storeCells ⟨b,0,none⟩ [.bool xb,.string xs] 0).run prog (W.alloc (.cells c 32))= .ok () W6:=fun c hc=>by
    rw[←hW6,←hb];exact run_storeCells_new (P:=prog) W 32 c #[.bool xb,.string xs] (by show _=some 2;kernel_rfl) hc (by simp[Value.oneCell'])
   have hr6:W6.heap[b]?=some (.cells #[.bool xb,.string xs] 32 (0,0)):=by rw[←hW6,←hb];exact alloc_at _ _
   have hx6:Ext (fun _=>False) W W6:=by rw[←hW6];exact(Ext.refl _ _).alloc _
   have HI6:Ia (RI m N XS W5 pre (fun k=>k=N+1∨k=b) W6):=by
    have h:=HI.out;exact⟨hx6.heap h.res (fun h=>h),h.ext.trans hx6 (fun _ h=>h.elim),h.kn,.inr ⟨b,_,rfl,hxn,by omega,hr6⟩⟩
   have HX6:Ia (Ext C W W6):=hx6.mono (fun _ h=>h.elim);have HXN:=zH hxn;have HW6:=zH hW6;clear hI hpre hxn hr6 hx6;obtain⟨F,hF⟩:∃F,F=Fence.wide.inRound l:=⟨_,rfl⟩
   have HCI:Ia (∀(n f:Nat)(args:Array Value)(w:H5)(R:Ending→H5→Prop),Calls prog f args w R→CallsIn F n prog f args w R):=by
    intro n f args w R h;rw[hF];exact CallsIn.inRound l (callsIn_wide.2 h)
   have hFr:F.round=some l:=by rw[hF];rfl
   have hFf:∀f,F.fn f:=fun f=>by rw[hF];trivial
   have hFd:F.depth=none:=by rw[hF];rfl
   rw[←hF];clear hF
   gi_wp2
   refine⟨fun k=>k=N+1∨k=b, ?_,HI6.out,HX6.out, ?_⟩
   ·rintro k (rfl|rfl)
    ·exact .inl HI.out.res_own
    ·exact .inr (by omega)
   intro W₂ hI2 hl2;have hr2:W₂.heap[b]?=some (.cells #[.bool xb,.string xs] 32 (0,0)):=by
    rcases hI2.own with e|⟨b',t',e,h1,h2,h3⟩
    ·have q:=congrFun e b
     simp at q;omega
    ·have q:=congrFun e b
     simp at q;rcases q with q|q
     ·omega
     ·subst q
      rw[HXN.out] at h1;obtain rfl:=Hl h1;exact h3
   have hj2:W₂.heap[N+2]?=some (.cells (jg m A7) 184 (0,0)):=hI2.ext.heap (HX35.out.heap HROW3c.out (fun h=>h)) (by omega);have hb52:H9 N W5 W₂:=hI2.ext.below (by omega) (fun k hk=>by omega);have HBW2:Ia (H9 N w W₂):=HBW5.out.trans hb52;have hf2:=frozen_of_row _ _ 0 _ _ hI2.res;have hz2:W₂.cell? ⟨N+1,0,none⟩=some (.int .i64 0):=(cell_of_row _ _ _ _ _ _ hI2.res).trans rfl;have t0:W₂.cell? ⟨b,0,none⟩=some (.bool xb):=(cell_of_row _ _ _ _ _ _ hr2).trans rfl;have t1:W₂.cell? ⟨b,1,none⟩=some (.string xs):=(cell_of_row _ _ _ _ _ _ hr2).trans rfl;obtain⟨y0,y1,y2,y3,y4,y5,y6,y7,y8,y9⟩:=jk.of hj2;simp only[A7,List.length_nil] at y2 y3 y4 y5 y6 y7 y8 y9;obtain⟨d,hd⟩:=zE (m.known (xb,xs));have HKC:Ia (zP 96 #[.agg (jg m A7),.agg #[.bool xb,.string xs]] W₂ (.bool d)):=by
    rw[←hd];exact yK m A7 xb xs W₂ (HM.out.mo.below (by rw[HN.out];exact HBW2.out))
   have HD:=zH hd;have HI2:=zH hI2;have hbs2:=(GR.1 hr2).1;clear hr2 hj2 hb52 hI2 hd hl2;cases d with
   |true=>
    gi_wp2_with (gi_at_call 96;refine(HCI.out _ _ _ _ _ HKC.out).mono ?_;rintro e w7 ⟨rfl,hb7⟩;have HB7:=zH hb7;clear hb7)
    have h7:Ext (fun _=>False) W₂ w7:=Ext.of_below_size HB7.out;refine⟨fun k=>k=N+1,fun k hk=> .inl (.inl hk),⟨h7.heap HI2.out.res (fun h=>h),HI2.out.ext.trans h7 (fun _ h=>h.elim),fun t ht=> ?_,.inl rfl⟩,h7.mono (fun _ h=>h.elim)⟩;rcases List.mem_append.1 ht with h|h
    ·exact HI2.out.kn t h
    ·simp at h;subst h;exact HD.out
   |false=>
    gi_wp2_with (gi_at_call 96;refine(HCI.out _ _ _ _ _ HKC.out).mono ?_;rintro e w7 ⟨rfl,hb7⟩;have z7:w7.cell? ⟨N+1,0,none⟩=some (.int .i64 0):=(hb7.cell (p:=⟨N+1,0,none⟩) (by show N+1<_;omega)).trans hz2;have f7:w7.frozen? ⟨N+1,0,none⟩=false:=(hb7.frozen (p:=⟨N+1,0,none⟩) (by show N+1<_;omega)).trans hf2;have HB7:=zH hb7;clear hb7)
    have h7:Ext (fun _=>False) W₂ w7:=Ext.of_below_size HB7.out;have h8:Ext (·=N+1) w7 (w7.setCell ⟨N+1,0,none⟩ (.int .i64 5)):=Ext.set1 _ _ _ _;refine⟨fun k=>k=N+1,fun k hk=> .inl (.inl hk),⟨rfl, ?_,(HI2.out.ext.trans h7 (fun _ h=>h.elim)).trans h8 (fun j hj=> .inl hj), ?_,rfl⟩,(h7.mono (fun _ h=>h.elim)).trans h8 (fun j hj=> .inl (.inl hj))⟩
    ·have:=heap_setCell_same w7 (N+1) 0 _ _ (.int .i64 5) (h7.heap HI2.out.res (fun h=>h))
     simpa using this
    ·rw[HXS.out,List.all_eq_false]
     exact⟨(xb,xs),HPRE.out.subset (by simp),by rw[HD.out];simp⟩
  case hstop=>
   intro D c pre C W hD hCD hpre hix hdd;obtain⟨rfl,hres,hext,hbad,hown⟩:=hix;have HRR:Ia (R=5):=by unfold Ia;rw[HR3.out,if_pos hbad]
   have HDD:=zH hdd;have HXW:Ia (Ext (N≤·) w W):=(Ext.of_below HBW5.out).trans (hext.mono (M':=(N≤·)) (fun k hk=>by show N≤k;omega)) (fun j hj=> .inl hj);have HRES:=zH hres;clear hres hext hbad hown hdd hpre
   go_wp2_with fail
   refine⟨[D],rfl,by simp,by intro b hb;simp at hb;subst hb;exact HDD.out,.int .i64 5,fun w' hx=> ?_⟩;obtain⟨h1,h2⟩:=HFX.out W 5 [D] HRES.out HXW.out (by simp;omega) w' hx;exact⟨bY _ _ _ _ rfl h1,by rw[HRR.out],by first|exact h2|(rw[HN.out];exact h2)⟩
  case hdone=>
   intro D C W hD hCD hI hdd;have HKN:Ia (∀t∈bN m,m.known t=true):=by rw[HXS.out];exact hI.kn
   have HR4:Ia (R=if aP (codeF m) m.fs≠0 then aP (codeF m) m.fs
    else bM (decide (0≤m.fnIx dB)&&(match m.fs[(m.fnIx dB).toNat]? with
     |some g=>decide (g.c.par=0)&& !g.c.rp
     |none=>false)) 9):=by
    unfold Ia;rw[HR3.out,if_neg];rw[List.all_eq_true.2 HKN.out];decide
   have HDD:=zH hdd;have HXW:Ia (Ext (N≤·) w W):=(Ext.of_below HBW5.out).trans (hI.ext.mono (M':=(N≤·)) (fun k hk=>by show N≤k;omega)) (fun j hj=> .inl hj);have HRES:=zH hI.res;have HMOD:Ia (W.heap[N]?=some (.cells m.cells 25 (0,0))):=hI.ext.heap (HX35.out.heap HROW3.out (fun h=>h)) (by omega);have HJUD:Ia (W.heap[N+2]?=some (.cells (jg m A7) 184 (0,0))):=hI.ext.heap (HX35.out.heap HROW3c.out (fun h=>h)) (by omega);have hWs:N+3≤W.heap.size:=by have:=hI.ext.size;omega
   have HBWW:Ia (H9 N w W):=HXW.out.below (by omega) (fun k hk=>hk);have HDW:Ia (D<W.heap.size):=(GR.1 hdd).1;have m0:W.cell? ⟨N,0,none⟩=some (.slice m.sA m.ss.length m.sC):=(cell_of_row _ _ _ _ _ _ HMOD.out).trans rfl;have m1:W.cell? ⟨N,1,none⟩=some (.slice m.fA m.fs.length m.fC):=(cell_of_row _ _ _ _ _ _ HMOD.out).trans rfl;have HCD:=zH hCD;clear hI hdd hCD HR3 HIT HXS
   go_wp2_with fail
   go_step3
   go_wp2_with fail
   go_loopw [34] (fun c wr=>∃(j:Nat) (g:Fn),j≤m.fs.length∧c= .int .i64 (j:Int)∧(∀f∈m.fs.take j,codeF m f=0)∧Ext (fun k=>k=N+1∨k=N+2) W wr∧wr.heap[N+1]?=some (.cells #[.int .i64 0] 27 (0,0))∧wr.heap[N+2]?=some (.cells (jg m g) 184 (0,0))) (fun c _=>m.fs.length-(intOf c).toNat)
   case atStart=>exact⟨0,A7,Hg _,rfl,by simp,Ext.refl _ _,HRES.out,HJUD.out⟩
   case round=>
    clear m0 m1;obtain⟨j,g,hj,rfl,hz,hx,hres,hjud⟩:=hrel;have HZ:=zH hz;have HX:=zH hx;have HRS:=zH hres;have HJD:=zH hjud;have hsr:=hx.size;have HBR:Ia (H9 N w wr):=(HXW.out.trans (hx.mono (M':=(N≤·)) (fun k hk=>by show N≤k;omega)) (fun j hj=> .inl hj)).below (by omega) (fun k hk=>hk)
    by_cases hjl:j<m.fs.length
    ·obtain⟨f,hf⟩:∃f,m.fs[j]?=some f:=⟨_,GN hjl⟩
     have hfm:=GV hf;obtain⟨fb,foff,hfA,hfb,hfc⟩:=HM.out.mo.frow (by intro e;rw[e] at hjl;simp at hjl);have hfbN:fb<N:=by omega
     have HFC:Ia (∀k u,f.cells.toList[k]?=some u→wr.cell? ((⟨fb,foff+j*8,none⟩:Addr).add k)=some u):=fun k u hu=>by
      rw[Addr.add_lit,HBR.out.cell (p:=⟨fb,_,none⟩) hfbN];exact hfc j f hf k u hu
     obtain⟨P,hP⟩:=zE wr.heap.size;obtain⟨W3,hW3⟩:=zE (wr.alloc (.cells f.cells 38));have hst3:∀(c:Array Value),c.size=8→(storeCells ⟨P,0,none⟩ f.cells.toList 0).run prog (wr.alloc (.cells c 38))= .ok () W3:=fun c hc=>by
      rw[←hW3,←hP];exact run_storeCells_new (P:=prog) wr 38 c f.cells (by show _=some 8;kernel_rfl) hc (fw f)
     have hx3:Ext (fun _=>False) wr W3:=by rw[←hW3];exact(Ext.refl _ _).alloc _
     have HR3c:Ia (W3.heap[P]?=some (.cells f.cells 38 (0,0))):=by unfold Ia;rw[←hW3,←hP];exact alloc_at _ _
     have hj3:=hx3.heap hjud (fun h=>h);have hs3b:W3.heap.size=P+1:=by rw[←hW3];simp[hP]
     obtain⟨W4,hW4⟩:=zE (W3.setCells (N+2) 2 f.cells.toList);have hstm:(storeCells ⟨N+2,2,none⟩ f.cells.toList 0).run prog W3= .ok () W4:=by
      rw[←hW4];refine run_storeCells_cells (P:=prog) (N+2) 2 f.cells.toList 0 W3 (fun k hk=> ?_) (fun k hk=>frozen_of_row _ _ _ _ _ hj3) (fun v hv=> ?_)
      ·rw[cell_of_row _ _ _ _ _ _ hj3]
       have:k<8:=hk;rw[Array.getElem?_eq_getElem (by show 2+0+k<10;omega)];rfl
      ·have:=fw f
       rw[←Array.all_toList,List.all_eq_true] at this;exact this v hv
     have hj4:W4.heap[N+2]?=some (.cells (jg m f) 184 (0,0)):=by
      rw[←hW4,←A8 m g f];exact nK _ _ _ _ hj3
     have hx4:Ext (·=N+2) W3 W4:=by rw[←hW4];exact(World.keptBut_ext (N+2) _ _ _)
     have hr4:W4.heap[N+1]?=some (.cells #[.int .i64 0] 27 (0,0)):=hx4.heap (hx3.heap hres (fun h=>h)) (by omega);have HX4:Ia (Ext (fun k=>k=N+1∨k=N+2) W W4):=(HX.out.trans hx3 (fun _ h=>h.elim)).trans hx4 (fun k hk=> .inl (.inr hk));have HB4:Ia (H9 N w W4):=(HXW.out.trans (HX4.out.mono (M':=(N≤·)) (fun k hk=>by show N≤k;omega)) (fun j hj=> .inl hj)).below (by omega) (fun k hk=>hk);have HJ4:=zH hj4;have HR4b:=zH hr4;have hs4:=HX4.out.size;obtain⟨z,hzz⟩:=zE (codeF m f);have HCC:Ia (zP 97 #[.agg (jg m f)] W4 (.int .i64 z)):=by
      rw[←hzz];have hmi:=HM.out.mo.below (by rw[HN.out];exact HB4.out);exact AV m f W4 ⟨hmi,hmi.fin f hfm,HM.out.al f hfm,fun v hv=>HKN.out _ (by
       obtain⟨h0,h1⟩:=dX.1 hv;obtain⟨k,rfl⟩:∃k:Nat,v=(k:Int):=⟨v.toNat,by omega⟩
       obtain⟨x,hx⟩:∃x,f.vs[k]?=some x:=⟨_,GN (by omega)⟩
       have e:ax f.vs (k:Int)=x.ty:=by unfold ax;rw[Ho,hx]
       rw[e];unfold bN;exact List.mem_append.2 (.inr (List.mem_flatMap.2 ⟨f,hfm,List.mem_cons_of_mem _ (List.mem_map.2 ⟨x,GV hx,rfl⟩)⟩)))⟩
     have HZZ:=zH hzz;have HF:=zH hf;have hjI:(j:Int)<(m.fs.length:Int):=by omega
     rw[hfA];clear hz hx hres hjud hf hfm hfb hfc hW3 hx3 hj3 hW4 hj4 hx4 hr4 hzz
     by_cases hz0:z=0
     ·subst hz0
      go_wp2_with (first
       |(refine ay rfl 38 _ rfl ⟨fb,foff+j*8,none⟩ rfl f.cells _ HFC.out underlying38 rfl (by kernel_rfl) ?_)
       |(refine wpList_load_row rfl 38 _ rfl P rfl 38 f.cells (0,0) _ HR3c.out underlying38 rfl (by kernel_rfl) ?_)
       |(refine wpList_load_row rfl 184 _ rfl (N+2) rfl 184 (jg m f) (0,0) _ HJ4.out underlying184 rfl (by kernel_rfl) ?_)
       |(go_at_call 97;refine HCC.out.mono ?_;rintro e w7 ⟨rfl,hb7⟩;have q7:=kg hb7 HR4b.out;have z7:w7.cell? ⟨N+1,0,none⟩=some (.int .i64 0):=(cell_of_row _ _ _ _ _ _ q7).trans rfl;have f7:=frozen_of_row _ _ 0 _ _ q7;have n7:=(GR.1 q7).1;have HQ7:=zH q7;have HB7:=zH hb7;clear hb7 q7))
      have hxs:Ext (·=N+1) w7 (w7.setCell ⟨N+1,0,none⟩ (.int .i64 0)):=Ext.set1 _ _ _ _;have hx7:Ext (fun _=>False) W4 w7:=Ext.of_below_size HB7.out;refine⟨⟨j+1,f,by omega,by go_num,dx (p:=fun f=>codeF m f=0) HZ.out HF.out HZZ.out,(HX4.out.trans hx7 (fun _ h=>h.elim)).trans hxs (fun k hk=> .inl (.inl hk)), ?_,hxs.heap (hx7.heap HJ4.out (fun h=>h)) (by omega)⟩,by simp[intOf];omega⟩;have:=heap_setCell_same w7 (N+1) 0 _ _ (.int .i64 0) HQ7.out;simpa using this
     ·have HRR:Ia (R=z):=by
       unfold Ia;have e:=jN (f:=codeF m) HZ.out HF.out (by rw[HZZ.out];exact hz0);rw[HR4.out,e,HZZ.out,if_pos hz0]
      have hzb:(z==0)=false:=by rw[beq_eq_false_iff_ne];exact hz0
      go_wp2_with (first
       |(refine ay rfl 38 _ rfl ⟨fb,foff+j*8,none⟩ rfl f.cells _ HFC.out underlying38 rfl (by kernel_rfl) ?_)
       |(refine wpList_load_row rfl 38 _ rfl P rfl 38 f.cells (0,0) _ HR3c.out underlying38 rfl (by kernel_rfl) ?_)
       |(refine wpList_load_row rfl 184 _ rfl (N+2) rfl 184 (jg m f) (0,0) _ HJ4.out underlying184 rfl (by kernel_rfl) ?_)
       |(go_at_call 97;refine HCC.out.mono ?_;rintro e w7 ⟨rfl,hb7⟩;have q7:=kg hb7 HR4b.out;have z7:w7.cell? ⟨N+1,0,none⟩=some (.int .i64 0):=(cell_of_row _ _ _ _ _ _ q7).trans rfl;have f7:=frozen_of_row _ _ 0 _ _ q7;have n7:=(GR.1 q7).1;have HQ7:=zH q7;have HB7:=zH hb7;clear hb7 q7))
      have hxs:Ext (·=N+1) w7 ((w7.setCell ⟨N+1,0,none⟩ (.int .i64 z)).setCell ⟨N+1,0,none⟩ (.int .i64 z)):=(Ext.set1 _ _ _ _).trans (Ext.set1 _ _ _ _) (fun j hj=> .inl hj);have hx7:Ext (fun _=>False) W4 w7:=Ext.of_below_size HB7.out;have hall:Ext (fun k=>k=N+1∨k=N+2) W ((w7.setCell ⟨N+1,0,none⟩ (.int .i64 z)).setCell ⟨N+1,0,none⟩ (.int .i64 z)):=(HX4.out.trans hx7 (fun _ h=>h.elim)).trans hxs (fun k hk=> .inl (.inl hk));have hrr:((w7.setCell ⟨N+1,0,none⟩ (.int .i64 z)).setCell ⟨N+1,0,none⟩ (.int .i64 z)).heap[N+1]?=some (.cells #[.int .i64 z] 27 (0,0)):=by
       have q1:=heap_setCell_same w7 (N+1) 0 _ _ (.int .i64 z) HQ7.out;have q2:=heap_setCell_same _ (N+1) 0 _ _ (.int .i64 z) q1;simpa using q2
      refine⟨[D],rfl,by simp,by intro b hb;simp at hb;subst hb;exact hall.heap HDD.out (by omega),.int .i64 z,fun w' hx=> ?_⟩;obtain⟨h1,h2⟩:=HFX.out _ z [D] hrr (HXW.out.trans (hall.mono (M':=(N≤·)) (fun k hk=>by show N≤k;omega)) (fun j hj=> .inl hj)) (by simp;omega) w' hx;exact⟨bY _ _ _ _ rfl h1,by rw[HRR.out],by first|exact h2|(rw[HN.out];exact h2)⟩
    ·have hje:j=m.fs.length:=by omega
     subst hje;rw[Ha] at hz;have HR5:Ia (R=bM (decide (0≤m.fnIx dB)&&(match m.fs[(m.fnIx dB).toNat]? with
      |some g=>decide (g.c.par=0)&& !g.c.rp
      |none=>false)) 9):=by
      unfold Ia;rw[HR4.out,gV hz,if_neg (by simp)]
     have z0:wr.cell? ⟨N+1,0,none⟩=some (.int .i64 0):=(cell_of_row _ _ _ _ _ _ hres).trans rfl;have f0:=frozen_of_row _ _ 0 _ _ hres;have hmod:wr.heap[N]?=some (.cells m.cells 25 (0,0)):=hx.heap HMOD.out (by omega);have m0:wr.cell? ⟨N,0,none⟩=some (.slice m.sA m.ss.length m.sC):=(cell_of_row _ _ _ _ _ _ hmod).trans rfl;have m1:wr.cell? ⟨N,1,none⟩=some (.slice m.fA m.fs.length m.fC):=(cell_of_row _ _ _ _ _ _ hmod).trans rfl;have hmi:=HM.out.mo.below (by rw[HN.out];exact HBR.out);obtain⟨kx,hkx⟩:=zE (m.fnIx dB);rw[hkx] at HR5;have HFN:Ia (zP 98 #[.agg m.cells,.string ⟨#[109,97,105,110]⟩] wr (.int .i64 kx)):=by
      rw[←hkx];exact yI m dB wr hmi.nf hmi.frow
     have HFIN2:Ia (∀(w8:H5)(z:Int),H9 wr.heap.size wr w8→(w8.setCell ⟨N+1,0,none⟩ (.int .i64 z)).heap[D]?=some (.deferred (some []))∧∀w',Ext (·∈[D]) (w8.setCell ⟨N+1,0,none⟩ (.int .i64 z)) w'→w'.cell? ⟨N+1,0,none⟩=some (.int .i64 z)∧H9 N w w'):=by
      intro w8 z hb8;have hx8:Ext (fun _=>False) wr w8:=Ext.of_below_size hb8;have hxs:Ext (·=N+1) w8 (w8.setCell ⟨N+1,0,none⟩ (.int .i64 z)):=Ext.set1 _ _ _ _;have hall:Ext (fun k=>k=N+1∨k=N+2) W (w8.setCell ⟨N+1,0,none⟩ (.int .i64 z)):=(HX.out.trans hx8 (fun _ h=>h.elim)).trans hxs (fun k hk=> .inl (.inl hk));have hrr:=heap_setCell_same w8 (N+1) 0 _ _ (.int .i64 z) (hx8.heap HRS.out (fun h=>h));refine⟨hall.heap HDD.out (by omega),fun w' hx=> ?_⟩;exact HFX.out _ z [D] (by simpa using hrr) (HXW.out.trans (hall.mono (M':=(N≤·)) (fun k hk=>by show N≤k;omega)) (fun j hj=> .inl hj)) (by simp;omega) w' hx
     have HHR:=zH hres;have hNr:N+1<wr.heap.size:=by omega
     rcases mG (fun f:Fn=>f.c.nm==dB) m.fs with e|⟨k,f,e,hf,_⟩
     ·have hk1:kx= -1:=by rw[←hkx];exact e
      subst hk1;have HRR:Ia (R=9):=by unfold Ia;rw[HR5.out];rfl
      clear hz hx hres hjud hkx hmod hmi HR4 HR5 e
      go_wp2_with (first
       |(go_at_call 98;refine HFN.out.mono ?_;rintro e w8 ⟨rfl,hb8⟩;have z8:w8.cell? ⟨N+1,0,none⟩=some (.int .i64 0):=(hb8.cell (p:=⟨N+1,0,none⟩) hNr).trans z0;have f8:w8.frozen? ⟨N+1,0,none⟩=false:=(hb8.frozen (p:=⟨N+1,0,none⟩) hNr).trans f0;have HB8:=zH hb8;clear hb8)
       |(go_at_call 99;refine(aB _ _ _).mono ?_;rintro e w9 ⟨rfl,rfl⟩))
      obtain⟨h3,h4⟩:=HFIN2.out w8 9 HB8.out;refine⟨[D],rfl,by simp,by intro b hb;simp at hb;subst hb;exact h3,.int .i64 9,fun w' hx=> ?_⟩;obtain⟨h1,h2⟩:=h4 w' hx;exact⟨bY _ _ _ _ rfl h1,by rw[HRR.out],by first|exact h2|(rw[HN.out];exact h2)⟩
     ·have hk1:kx=(k:Int):=by rw[←hkx];exact e
      subst hk1;have hkl:=(GQ.1 hf).1;have hkI:(k:Int)<(m.fs.length:Int):=by omega
      have HRR:Ia (R=bM (decide (f.c.par=0)&& !f.c.rp) 9):=by
       unfold Ia;rw[HR5.out,Ho,hf,decide_eq_true (by omega)];rfl
      obtain⟨fb,foff,hfA,hfb,hfc⟩:=HM.out.mo.frow (by intro e;rw[e] at hkl;simp at hkl);have hfbN:fb<N:=by omega
      have HFD:Ia (∀W8,H9 wr.heap.size wr W8→W8.cell? ⟨fb,foff+k*8+1,none⟩=some (.int .i64 f.c.par)∧W8.cell? ⟨fb,foff+k*8+3,none⟩=some (.bool f.c.rp)∧W8.cell? ⟨N,1,none⟩=some (.slice (some ⟨fb,foff,none⟩) m.fs.length m.fC)∧N<W8.heap.size∧fb<W8.heap.size):=by
       intro W8 h8;have hB8:H9 N w W8:=HBR.out.trans (h8.mono (by omega));have hs8:=h8.size;refine⟨?_, ?_, ?_,by omega,by omega⟩
       ·rw[hB8.cell (p:=⟨fb,_,none⟩) hfbN];exact hfc k f hf 1 _ rfl
       ·rw[hB8.cell (p:=⟨fb,_,none⟩) hfbN];exact hfc k f hf 3 _ rfl
       ·rw[h8.cell (p:=⟨N,1,none⟩) (by show N<_;omega),←hfA];exact m1
      simp only[Mo.cells] at HFN;rw[hfA] at HFN m1;clear hz hx hres hjud hkx hmod hmi HR4 HR5 e hfb hfc hf hfA
      by_cases hp:f.c.par=0
      ·rw[hp] at HFD
       have HRR2:Ia (R=bM (!f.c.rp) 9):=by unfold Ia;rw[HRR.out,hp];rfl
       go_wp2_with (first
        |(go_at_call 98;refine HFN.out.mono ?_;rintro e w8 ⟨rfl,hb8⟩;have z8:w8.cell? ⟨N+1,0,none⟩=some (.int .i64 0):=(hb8.cell (p:=⟨N+1,0,none⟩) hNr).trans z0;have f8:w8.frozen? ⟨N+1,0,none⟩=false:=(hb8.frozen (p:=⟨N+1,0,none⟩) hNr).trans f0;obtain⟨u1,u2,u3,u4,u5⟩:=HFD.out w8 hb8;have HB8:=zH hb8;clear hb8)
        |(go_at_call 99;refine(aB _ _ _).mono ?_;rintro e w9 ⟨rfl,rfl⟩))
       obtain⟨h3,h4⟩:=HFIN2.out w8 (bM (!f.c.rp) 9) HB8.out;refine⟨[D],rfl,by simp,by intro b hb;simp at hb;subst hb;exact h3,.int .i64 (bM (!f.c.rp) 9),fun w' hx=> ?_⟩;obtain⟨h1,h2⟩:=h4 w' hx;exact⟨bY _ _ _ _ rfl h1,by rw[HRR2.out],by first|exact h2|(rw[HN.out];exact h2)⟩
      ·have HRR2:Ia (R=9):=by unfold Ia;rw[HRR.out,decide_eq_false hp];rfl
       have hpb:(f.c.par==0)=false:=by rw[beq_eq_false_iff_ne];exact hp
       go_wp2_with (first
        |(go_at_call 98;refine HFN.out.mono ?_;rintro e w8 ⟨rfl,hb8⟩;have z8:w8.cell? ⟨N+1,0,none⟩=some (.int .i64 0):=(hb8.cell (p:=⟨N+1,0,none⟩) hNr).trans z0;have f8:w8.frozen? ⟨N+1,0,none⟩=false:=(hb8.frozen (p:=⟨N+1,0,none⟩) hNr).trans f0;obtain⟨u1,u2,u3,u4,u5⟩:=HFD.out w8 hb8;have HB8:=zH hb8;clear hb8)
        |(go_at_call 99;refine(aB _ _ _).mono ?_;rintro e w9 ⟨rfl,rfl⟩))
       obtain⟨h3,h4⟩:=HFIN2.out w8 9 HB8.out;refine⟨[D],rfl,by simp,by intro b hb;simp at hb;subst hb;exact h3,.int .i64 9,fun w' hx=> ?_⟩;obtain⟨h1,h2⟩:=h4 w' hx;exact⟨bY _ _ _ _ rfl h1,by rw[HRR2.out],by first|exact h2|(rw[HN.out];exact h2)⟩
end
end Go.Proofs.YtjomgckjhcfbgaaGreat
