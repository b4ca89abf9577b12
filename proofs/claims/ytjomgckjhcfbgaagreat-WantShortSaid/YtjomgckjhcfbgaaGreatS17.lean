/- Walks. -/
import Derived.Lib.Walk
import Derived.Lib.SliceRun
import Derived.Deep.RegionHeld3
import Derived.Deep.DeepCutAuto
import Derived.WalkMore
import Derived.Test.YtjomgckjhcfbgaaGreatS16
set_option maxRecDepth 100000
set_option maxHeartbeats 64000000
set_option linter.all false
namespace Go.Proofs.YtjomgckjhcfbgaaGreat
open Go.RowKit
open _root_.List renaming getElem?_eq_getElem→GN,getElem?_eq_some_iff→GQ,mem_of_getElem?→GV,take_length→Ha
open _root_.Array renaming getElem?_eq_some_iff→GR
open _root_.Nat renaming lt_of_lt_of_le→Hd,le_refl→He,zero_add→Hf,zero_le→Hg
open _root_.Option renaming some.inj→Hl
open _root_.Int renaming toNat_natCast→Ho
open Go.RowKit.Below renaming refl→Hw,heap_alloc→Hy
open Go renaming World→H5
open Go.RowKit renaming Below→H9,Hid→Ia
open Tryz
theorem rF (w:H5)(B n cp:Nat)(f:Nat→Nat)(h:bP w B n f)(hn:n≤90000):
  Calls prog 141 #[.slice (some ⟨B,0,none⟩) n cp] w fun e w'=>∃g cap,e= .returned (.slice (some ⟨g,0,none⟩) n cap)∧w.heap.size≤g∧bP w' g n f∧H9 w.heap.size w w':=by
 obtain⟨j0,hj,hj0,hj1,hj2⟩:=info_parts uX;have q:∀(w:H5)(a:Option Addr)(n c n' c':Nat),(binOp .eql 199 (.slice a n c) (.slice none n' c')).run prog w= .ok (.bool a.isNone) w:=fun w a n c n' c'=>Lib.run_eql_slice_nil w _ _ a n c n' c' underlying199;have A:=zH h;clear h;go_enter func141,ntmps141
 go_wp2_with (at_builtin;refine wpList_append_own _ rfl _ _ 199 rfl w.heap.size 245 j0 (.int .u64 0) 1 8 underlying199 hj hj0 hj1 hj2 rfl (by decide) _ _ _ rfl (World.ownsRow_made w #[] 0 (He _) (Hg _) rfl) ⟨B,0,none⟩ n cp ((List.range n).map fun i=>Value.int .u64 (f i:Int)) rfl ?qc1 ?qc2 ?qc3 ?qc4 ?qc5 ?qc6 ?_)
 case qc1=>simp
 case qc2=>
  intro j u hj;have hjn:j<n:=by have:=(GQ.1 hj).1;simpa using this
  rw[Addr.add_lit,Hf];refine Lib.cell?_alloc_some _ ?_;rw[A.out.cell hjn];simpa[hjn] using hj
 case qc3=>intro u hu;obtain⟨x,_,rfl⟩:=List.mem_map.1 hu;rfl
 case qc4=>unfold maxLen;omega
 case qc5=>omega
 case qc6=>simp
 intro v' w1 hown hgrow hnil;go_wp2;go_ret;have hown':w1.ownsRow w.heap.size 245 1 v' n ((List.range n).map fun i=>Value.int .u64 (f i:Int)):=by simpa using hown
 have hbel:H9 w.heap.size w w1:=((Hw _ w).alloc (He _) _).grown hgrow (by simp) (by intro k hk;simp[Value.ownBlock] at hk;omega);rcases hown'.2 with⟨e1,_⟩|⟨g,cap,cur,e1,e2,_⟩
 ·exact absurd e1 (by first|exact hnil|(intro e;exact absurd (hnil.1 e).1 (by simp)))
 ·subst e1
  exact⟨g,cap,rfl,e2,bP.of_owns hown',hbel⟩
def gy (c:dQ)(RA RB:Nat):Array Value:=#[.string c.nm,.int .i64 c.par,.slice c.varsA c.nvars c.varsC,.bool c.rp,.string c.rto,.int .i64 c.rcl,.slice c.fromA c.nfrom c.fromC,.slice c.insA c.ins.length c.insC,.slice (some ⟨RA,0,none⟩) c.ins.length c.ins.length,.slice (some ⟨RB,0,none⟩) c.ins.length c.ins.length]
def CV (T RA RB n g:Nat):Prop:=g=T∨g=RA∨(RB≤g∧g≤RB+n)
structure eZ (w:H5)(T RA RB k:Nat)(c:dQ)(a b:Nat→Nat→Nat):Prop where
 tab:w.heap[T]?=some (.cells (gy c RA RB) 196 (0,0))
 ahead:∃cur,w.heap[RA]?=some (.cells cur 199 (0,0))∧cur.size=c.ins.length∧∀x,x<c.ins.length→∃g cp,cur[x]?=some (.slice (some ⟨g,0,none⟩) k cp)∧¬CV T RA RB c.ins.length g∧bP w g k (a x)
 behind:w.heap[RB]?=some (.cells (dL c.ins.length k RB c.ins.length) 199 (0,0))
 words:∀x,x<c.ins.length→bP w (RB+1+x) k (b x)
 s1:T≠RA
 s2:¬(RB≤T∧T≤RB+c.ins.length)
 s3:¬(RB≤RA∧RA≤RB+c.ins.length)
theorem eZ.keep {w w':H5}{T RA RB k:Nat}{c:dQ}{a b:Nat→Nat→Nat}{M:Nat→Prop}(h:eZ w T RA RB k c a b)(hx:Ext M w w')(hM:∀j,¬M j):eZ w' T RA RB k c a b:=by
 obtain⟨cur,h1,h2,h3⟩:=h.ahead;exact⟨hx.heap h.tab (hM _),⟨cur,hx.heap h1 (hM _),h2,fun x hx'=>let ⟨g,cp,a,b,c⟩:=h3 x hx';⟨g,cp,a,b,c.ext hx (hM _)⟩⟩,hx.heap h.behind (hM _),fun x hx'=>(h.words x hx').ext hx (hM _),h.s1,h.s2,h.s3⟩
theorem eZ.put {w:H5}{T RA RB k x g cp:Nat}{c:dQ}{a b:Nat→Nat→Nat}{f:Nat→Nat}(h:eZ w T RA RB k c a b)(hx:x<c.ins.length)(hg:¬CV T RA RB c.ins.length g)(hr:bP w g k f):
  eZ (w.setCell ⟨RA,x,none⟩ (.slice (some ⟨g,0,none⟩) k cp)) T RA RB k c (fun y=>if y=x then f else a y) b:=by
 have hxt:Ext (·=RA) w (w.setCell ⟨RA,x,none⟩ (.slice (some ⟨g,0,none⟩) k cp)):=Ext.set1 _ _ _ _;obtain⟨cur,h1,h2,h3⟩:=h.ahead;refine⟨hxt.heap h.tab h.s1,⟨_,heap_setCell_same _ _ _ _ _ _ h1,by simpa using h2,fun y hy=> ?_⟩,hxt.heap h.behind (fun e=>h.s3 ⟨by omega,by omega⟩),fun y hy=>(h.words y hy).ext hxt (fun e=>h.s3 ⟨by omega,by omega⟩),h.s1,h.s2,h.s3⟩;rw[Array.getElem?_setIfInBounds]
 by_cases e:x=y
 ·subst e
  rw[if_pos rfl,if_pos (by omega),if_pos rfl];exact⟨g,cp,rfl,hg,hr.ext hxt (fun e=>hg (.inr (.inl e)))⟩
 ·rw[if_neg e,if_neg (fun h=>e h.symm)]
  obtain⟨g',cp',e1,e2,e3⟩:=h3 y hy;exact⟨g',cp',e1,e2,e3.ext hxt (fun e=>e2 (.inr (.inl e)))⟩
theorem eZ.grow {w w':H5}{T RA RB k x:Nat}{c:dQ}{a b:Nat→Nat→Nat}{f:Nat→Nat}(h:eZ w T RA RB k c a b)(hx:x<c.ins.length)(hr:bP w' (RB+1+x) k f)(hxt:Ext (·=RB+1+x) w w'):
  eZ w' T RA RB k c a (fun y=>if y=x then f else b y):=by
 obtain⟨cur,h1,h2,h3⟩:=h.ahead;refine⟨hxt.heap h.tab (fun e=>h.s2 ⟨by omega,by omega⟩),⟨cur,hxt.heap h1 (fun e=>h.s3 ⟨by omega,by omega⟩),h2,fun y hy=> ?_⟩,hxt.heap h.behind (by omega),fun y hy=> ?_,h.s1,h.s2,h.s3⟩
 ·obtain⟨g',cp',e1,e2,e3⟩:=h3 y hy
  exact⟨g',cp',e1,e2,e3.ext hxt (fun e=>e2 (.inr (.inr ⟨by omega,by omega⟩)))⟩
 ·by_cases e:y=x
  ·subst e;rw[if_pos rfl];exact hr
  ·rw[if_neg e];exact(h.words y hy).ext hxt (by omega)
def Stepped (w:H5)(T RA RB k:Nat)(c:dQ)(a b:Nat→Nat→Nat)(x:Nat)(i:Ins)(e:Ending)(w':H5):Prop:=
 e= .returned (.bool (decide (0<dK k (stepW i (b x)))))∧eZ w' T RA RB k c (fun y=>if y=x then stepW i (b x) else a y) b∧Ext (·=RA) w w'
theorem eZ.cells {w:H5}{T RA RB k:Nat}{c:dQ}{a b:Nat→Nat→Nat}(h:eZ w T RA RB k c a b){q:Nat}{v:Value}(hv:(gy c RA RB)[q]?=some v):w.cell? ⟨T,q,none⟩=some v:=by
 rw[cell_of_row _ _ _ _ _ _ h.tab];exact hv
def Gw (w1:H5)(G k:Nat)(f:Nat→Nat)(l:List Nat)(c:Value)(wr:H5):Prop:=
 ∃q:Nat,q≤l.length∧c= .int .i64 (q:Int)∧bP wr G k ((l.take q).foldl qb f)∧Ext (·=G) w1 wr
theorem Bo (w:H5)(T RA RB k x:Nat)(c:dQ)(a b:Nat→Nat→Nat)(i:Ins)(h:eZ w T RA RB k c a b)(hi:c.ins[x]?=some i)(hin:c.inn w)(hl:i.args.length≤40)(hn:c.ins.length≤90000)(hk:k≤90000)
  (hfit:(∀r∈readsOf i,0≤r∧r<((64*k:Nat):Int))∧((az i).2=true→0≤(az i).1∧(az i).1<((64*k:Nat):Int)))(hb:∀y j,b y j<18446744073709551616):
  Calls prog 104 #[.pointer (some ⟨T,0,none⟩),.int .i64 (x:Int)] w (Stepped w T RA RB k c a b x i):=by
 have hlt:x<c.ins.length:=(GQ.1 hi).1;have hltI:(x:Int)<(c.ins.length:Int):=by omega
 obtain⟨b0,off,hA,hb0,hcell⟩:=hin.row (by intro e;rw[e] at hlt;simp at hlt);have hTlt:T<w.heap.size:=(GR.1 h.tab).1;have hRBlt:RB<w.heap.size:=(GR.1 h.behind).1;have hRAlt:RA<w.heap.size:=by obtain⟨cur,h1,_⟩:=h.ahead;exact(GR.1 h1).1
 have hwx:=(h.words x hlt).lt;have hwn:RB+c.ins.length<w.heap.size:=by have:=(h.words (c.ins.length-1) (by omega)).lt;omega
 have HK:Ia (∀W,H9 w.heap.size w W→W.cell? ⟨T,7,none⟩=some (.slice (some ⟨b0,off,none⟩) c.ins.length c.insC)∧W.cell? ⟨T,8,none⟩=some (.slice (some ⟨RA,0,none⟩) c.ins.length c.ins.length)∧W.cell? ⟨T,9,none⟩=some (.slice (some ⟨RB,0,none⟩) c.ins.length c.ins.length)∧
   W.cell? ⟨RB,x,none⟩=some (.slice (some ⟨RB+1+x,0,none⟩) k k)∧bP W (RB+1+x) k (b x)∧eZ W T RA RB k c a b∧c.inn W∧W.frozen? ⟨RA,x,none⟩=false∧(∃v,W.cell? ⟨RA,x,none⟩=some v)∧
   ∀j u,i.cells.toList[j]?=some u→W.cell? ((⟨b0,off+x*13,none⟩:Addr).add j)=some u):=by
  intro W hW;have ht:eZ W T RA RB k c a b:=h.keep (Ext.of_below_size hW) (fun _ h=>h);obtain⟨cur,q1,q2,q3⟩:=ht.ahead;obtain⟨g,cp,q4,_,_⟩:=q3 x hlt;refine⟨ht.cells (by rw[←hA];rfl),ht.cells rfl,ht.cells rfl, ?_,ht.words x hlt,ht,hin.below hW,frozen_of_row _ _ _ _ _ q1,⟨_,by rw[cell_of_row _ _ _ _ _ _ q1];exact q4⟩,fun j u hu=> ?_⟩
  ·rw[cell_of_row _ _ _ _ _ _ ht.behind,dS _ _ _ hlt,if_pos hlt]
  ·rw[Addr.add_lit,hW.cell (p:=⟨b0,_,none⟩) hb0];exact hcell x i hi j u hu
 have HI:=zH hi;have hai:=hin.args i (GV hi);have HAI:=zH hai;obtain⟨n,hnn⟩:=zE c.ins.length;rw[hnn] at hlt hltI hn hwn;have HNN:=zH hnn;have HFR:=zH hfit.1;have HFW:=zH hfit.2;have HB:=zH hb;have HP:Ia (∀g cp e w',¬CV T RA RB n g→w.heap.size≤g→H9 w.heap.size w w'→bP w' g k (stepW i (b x))→e=Ending.returned (.bool (decide (0<dK k (stepW i (b x)))))→Stepped w T RA RB k c a b x i e (w'.setCell ⟨RA,x,none⟩ (.slice (some ⟨g,0,none⟩) k cp))):=by
  intro g cp e w' hg hgl hw' hr he;refine⟨he, ?_,((Ext.of_below_size hw':Ext (fun _=>False) w w').mono (fun _ h=>h.elim)).trans (Ext.set1 _ _ _ _) (fun _ h=> .inl h)⟩;have ht:=h.keep (Ext.of_below_size hw') (fun _ h=>h);exact ht.put (by omega) (by rw[hnn];exact hg) hr
 obtain⟨k7,k8,k9,kb,kr,_⟩:=HK.out w (Hw _ _);rw[hnn] at k7 k8 k9;have KR:=zH kr;obtain⟨N,hN⟩:=zE w.heap.size;obtain⟨I,hI⟩:=zE i;rw[hI] at HAI HFR HFW HP HI;have HII:=zH hI;have hlI:I.args.length≤40:=by rw[←hI];exact hl
 obtain⟨⟨⟨ao1,cp1,e1⟩,ao2,n2,cp2,e2⟩,_⟩:=hai;obtain⟨op,d,ia,ib,f,nn,sign,argsV,modeV,tgt,els,ln,cl,args⟩:=i;simp only at e1 e2 hl;subst e1 e2;have HCA:Ia (∀W,H9 w.heap.size w W→∀j u,(⟨op,d,ia,ib,f,nn,sign,.slice ao1 args.length cp1,.slice ao2 n2 cp2,tgt,els,ln,cl,args⟩:Ins).cells.toList[j]?=some u→W.cell? ((⟨b0,off+x*13,none⟩:Addr).add j)=some u):=fun W hW=>(HK.out W hW).2.2.2.2.2.2.2.2.2;obtain⟨W1,hW1⟩:=zE (w.alloc (.cells #[.int .i64 op,.int .i64 d,.int .i64 ia,.int .i64 ib,.int .i64 f,.int .i64 nn,.string sign,.slice ao1 args.length cp1,.slice ao2 n2 cp2,.int .i64 tgt,.int .i64 els,.int .i64 ln,.int .i64 cl] 42));have hb1:=gZ hW1 hN;have hs1:W1.heap.size=N+1:=by rw[←hW1];simp[hN]
 have hr1:W1.heap[N]?=some (.cells I.cells 42 (0,0)):=by
  rw[←hW1,←hN,←hI];exact alloc_at _ _
 have HX:Ia (∀W,Ext (fun q=>N+1≤q) W1 W→H9 N w W∧(∀j u,I.cells.toList[j]?=some u→W.cell? ((⟨N,0,none⟩:Addr).add j)=some u)∧N+1≤W.heap.size):=by
  intro W hx;have h4:=hx.heap hr1 (by omega);have hbW:H9 N w W:=hb1.trans ((hx.below (B:=N+1) (by omega) (fun k hk=>hk)).mono (by omega));refine⟨hbW,fun j u hu=> ?_,(GR.1 h4).1⟩;rw[Addr.add_lit,Hf,cell_of_row _ _ _ _ _ _ h4];simpa using hu
 have HW1:=zH hW1;have HS1:=zH hs1;have HB1:=zH hb1;have hKR1:bP W1 (RB+1+x) k (b x):=KR.out.below hb1 (by omega);have HKR1:=zH hKR1;rw[hN] at hTlt hRBlt hRAlt hwn;clear h hi hin hA hcell hnn hfit hb kr hW1 hs1 hb1 hr1 hI hKR1;go_enter func104,ntmps104
 go_upto_region 3 with(first|(refine ay rfl 42 _ rfl ⟨b0,off+x*13,none⟩ rfl (⟨op,d,ia,ib,f,nn,sign,.slice ao1 args.length cp1,.slice ao2 n2 cp2,tgt,els,ln,cl,args⟩:Ins).cells _ (HCA.out _ (Hw _ _)) underlying42 rfl (by kernel_rfl) ?_;simp only[Ins.cells])|(go_at_call 141;rw[HW1.out];refine(rF _ (RB+1+x) k k (b x) HKR1.out hk).mono ?_;rintro e w2 ⟨g,cp,rfl,hg,hrow,hb2⟩))
 clear k7 k8 k9 kb;rw[HS1.out] at hg hb2;have hx2:Ext (fun q=>N+1≤q) W1 w2:=Ext.of_below_size (by rw[HS1.out];exact hb2);have HX2:=zH hx2;have HR2:=zH hrow;have HLD:=zH (HX.out w2 hx2).2.1;have hs2:=(HX.out w2 hx2).2.2;have hgl:g<w2.heap.size:=hrow.lt;have HWR:=zH (kR I w2 HAI.out.1);clear hx2 hrow hb2;obtain⟨wd,hwd⟩:=zE (az I);rw[hwd] at HWR HFW;have HWD:=zH hwd;clear hwd;obtain⟨dv,wb⟩:=wd;simp only at HWR HFW
 go_upto_if 32 with(first|(refine ay rfl 42 _ rfl ⟨N,0,none⟩ rfl I.cells _ HLD.out underlying42 rfl (by kernel_rfl) ?_)|(go_at_call 142;refine HWR.out.mono ?_;rintro e w3 ⟨rfl,hb3⟩))
 have hx3:Ext (fun q=>N+1≤q) W1 w3:=HX2.out.trans (Ext.of_below_size hb3:Ext (fun _=>False) w2 w3) (fun _ h=>h.elim);have hr3:bP w3 g k (b x):=HR2.out.below hb3 hgl;have HR3:=zH hr3;have HX3:=zH hx3;have hs3:=hb3.size;clear hx3 hr3 hb3;obtain⟨f1,hf1⟩:∃f1,f1=(if (az I).2=true then zl (b x) (az I).1.toNat else b x):=⟨_,rfl⟩
 have HF1:=zH hf1;have HL1:Ia (∀p,f1 p<18446744073709551616):=by
  rw[hf1];intro p
  split
  ·exact zm (HB.out x) _ p
  ·exact HB.out x p
 rw[HWD.out] at hf1
 go_cut [] (fun wc=>bP wc g k f1∧Ext (fun q=>N+1≤q) W1 wc∧g<wc.heap.size)
 case first=>
  cases wb with
  |true=>
   simp only[if_true] at hf1;obtain⟨h0,h1⟩:=HFW.out rfl;obtain⟨dn,rfl⟩:∃dn:Nat,dv=(dn:Int):=⟨dv.toNat,by omega⟩
   simp only[Ho] at hf1;have HDR:=zH (tX w3 g k cp dn (b x) HR3.out (HB.out x) (by omega) hk);have HF1':=zH hf1;clear hf1 h0 h1
   go_wp2_with (go_at_call 143;refine HDR.out.mono ?_;rintro e w4 ⟨rfl,hr4,hx4⟩)
   go_meet
   case rel=>exact⟨by rw[HF1'.out];exact hr4,HX3.out.trans hx4 (fun q hq=> .inl (by omega)),hr4.lt⟩
  |false=>
   simp only[if_neg (show¬(false=true) by decide)] at hf1;have HF1':=zH hf1;clear hf1;go_wp2
   go_meet
   case rel=>exact⟨by rw[HF1'.out];exact HR3.out,HX3.out,by omega⟩
 case rest=>
  obtain⟨hrc,hxc,hgc⟩:=hcut;obtain⟨hbc,hlc,hsc⟩:=HX.out wc hxc;have HRD:=zH (l8 I wc (HAI.out.below (by rw[hN];exact hbc)) hlI);have HLC:=zH hlc;have HRC:=zH hrc;have HXC:=zH hxc;clear hrc hxc hbc hlc hf1
  go_wp2_with (first|(refine ay rfl 42 _ rfl ⟨N,0,none⟩ rfl I.cells _ HLC.out underlying42 rfl (by kernel_rfl) ?_)|(go_at_call 144;refine HRD.out.mono ?_;rintro e w4 ⟨ao4,cap4,rfl,hown4,hb4⟩))
  have hx4:Ext (fun _=>False) wc w4:=Ext.of_below_size hb4;have HO4:=zH hown4;have HR4:=zH (HRC.out.ext hx4 (fun h=>h));have HX4:Ia (Ext (fun q=>N+1≤q) W1 w4):=HXC.out.trans hx4 (fun _ h=>h.elim);have hg4:=HR4.out.lt;have hrl:(readsOf I).length≤42:=pz I hlI;obtain⟨rs,hrs⟩:∃rs,rs=(readsOf I).map Int.toNat:=⟨_,rfl⟩
  have hrsl:rs.length=(readsOf I).length:=by rw[hrs];simp
  have HRS:=zH hrs;clear hown4 hb4 hx4 hrs
  go_loopw [39] (fun c wr=>Gw w4 g k f1 rs c wr) (fun c _=>(readsOf I).length-(intOf c).toNat)
  case atStart=>exact⟨0,Hg _,rfl,by simpa using HR4.out,Ext.refl _ _⟩
  case round=>
   obtain⟨q,hq,rfl,hrq,hxq⟩:=hrel
   by_cases hql:q<(readsOf I).length
   ·obtain⟨z,hz⟩:∃z,(readsOf I)[q]?=some z:=⟨_,GN hql⟩
    obtain⟨h0,h1⟩:=HFR.out z (GV hz);obtain⟨zn,rfl⟩:∃zn:Nat,z=(zn:Int):=⟨z.toNat,by omega⟩
    obtain⟨g2,rfl,hg2,hg2l,hgc2⟩:=HO4.out.shape (by omega);have hcz:wr.cell? ⟨g2,q,none⟩=some (.int .i64 (zn:Int)):=by rw[hxq.cell (a:=⟨g2,q,none⟩) hg2l (by show¬g2=g;omega)];exact hgc2 q _ hz
    have hqI:(q:Int)<((readsOf I).length:Int):=by omega
    have HAD:=zH (xq wr g k cp zn ((rs.take q).foldl qb f1) hrq (ru _ HL1.out) (by omega) hk);have HSN:Ia ((rs.take (q+1)).foldl qb f1=qb ((rs.take q).foldl qb f1) zn):=by
     unfold Ia;have e:rs[q]?=some zn:=by rw[HRS.out];simp[hz]
     rw[List.take_add_one,e,List.foldl_append];rfl
    have HXQ:=zH hxq;clear hz h0 h1 hgc2 hrq hxq
    go_wp2_with (go_at_call 145;refine HAD.out.mono ?_;rintro e w5 ⟨rfl,hr5,hx5⟩)
    go_roundw
    case rel=>exact⟨q+1,by omega,by go_num,by rw[HSN.out];exact hr5,HXQ.out.trans hx5 (fun _ h=> .inl h)⟩
    case measure=>simp[intOf];omega
   ·have hqe:q=rs.length:=by omega
    subst hqe;rw[Ha] at hrq;have hfin:bP wr g k (stepW I (b x)):=by
     have e:stepW I (b x)=rs.foldl qb f1:=by rw[HRS.out,HF1.out];rfl
     rw[e];exact hrq
    have hxN:Ext (fun q=>N+1≤q) W1 wr:=HX4.out.trans hxq (fun p hp=> .inl (by omega));obtain⟨hbN,_,hsN⟩:=HX.out wr hxN;have hbw:H9 w.heap.size w wr:=by rw[hN];exact hbN
    obtain⟨_,k8,_,_,_,_,_,kf,⟨kv,kc⟩,_⟩:=HK.out wr hbw;rw[HNN.out] at k8;have HRW5:Ia (bP (wr.setCell ⟨RA,x,none⟩ (.slice (some ⟨g,0,none⟩) k cp)) g k (stepW I (b x))):=hfin.ext (Ext.set1 _ _ _ _) (by show¬g=RA;omega);have HCN:=zH (rf (wr.setCell ⟨RA,x,none⟩ (.slice (some ⟨g,0,none⟩) k cp)) g k cp (stepW I (b x)) HRW5.out (kW I (HB.out x)) hk);have HPP:=zH (HP.out g cp _ wr (by unfold CV;omega) (by omega) hbw hfin rfl);clear hrq hxq hfin hxN hbN hbw
    go_wp2_with (go_at_call 146;refine HCN.out.mono ?_;rintro e w6 ⟨rfl,rfl⟩)
    go_ret;rw[HII.out];exact HPP.out
theorem eZ.init {w:H5}{T RA RB k:Nat}{c:dQ}(hT:w.heap[T]?=some (.cells (gy c RA RB) 196 (0,0)))
  (hA:w.heap[RA]?=some (.cells (dL c.ins.length k RA c.ins.length) 199 (0,0)))(hAw:∀i,i<c.ins.length→w.heap[RA+1+i]?=some (.cells (dm k (fun _=>0)) 245 (0,0)))
  (hB:w.heap[RB]?=some (.cells (dL c.ins.length k RB c.ins.length) 199 (0,0)))(hBw:∀i,i<c.ins.length→w.heap[RB+1+i]?=some (.cells (dm k (fun _=>0)) 245 (0,0)))
  (hd:RA+c.ins.length<RB∨RB+c.ins.length<RA)(ha:RA+c.ins.length<T)(hb:RB+c.ins.length<T):eZ w T RA RB k c (fun _ _=>0) (fun _ _=>0):=by
 refine⟨hT,⟨_,hA,gu _ _ _ _,fun x hx=>⟨RA+1+x,k,by rw[dS _ _ _ hx,if_pos hx], ?_,bP.of_cells (hAw x hx)⟩⟩,hB,fun x hx=>bP.of_cells (hBw x hx),by omega,by omega,by omega⟩;unfold CV;omega
structure Eh (w:H5)(T RA RB:Nat)(c:dQ)(a b:Nat→Nat→Nat):Prop where
 tab:eZ w T RA RB ((c.nvars+63)/64) c a b
 ltA:∀x j,x<c.ins.length→a x j<18446744073709551616
 ltB:∀x j,b x j<18446744073709551616
 says:∀x v,x<c.ins.length→v<c.nvars→(aY (b x) v=true↔eD c.ins v x)∧(aY (a x) v=true↔pJ c.ins v x)
 sound:jP c.ins b
def nQ (RA RB n q:Nat):Prop:=q=RA∨(RB<q∧q≤RB+n)
def BS (T RA RB k:Nat)(c:dQ)(W3:H5)(m:Nat)(wr:H5):Prop:=
 ∃a b,eZ wr T RA RB k c a b∧jP c.ins b∧(∀x j,b x j<18446744073709551616)∧bL c.ins.length k b≤m∧Ext (nQ RA RB c.ins.length) W3 wr
def je (ins:List Ins)(k j:Nat)(a b:Nat→Nat→Nat):Prop:=
 ∀y i,j≤y→ins[y]?=some i→a y=stepW i (b y)∧∀x∈aO ins y,∀q,q<k→b x q|||a y q=b x q
def Ey (T RA RB k:Nat)(c:dQ)(W3:H5)(b0:Nat→Nat→Nat)(s8 s9:Value)(wr:H5):Prop:=
 ∃(j:Nat) (ch:Bool) (a b:Nat→Nat→Nat),j≤c.ins.length∧s9= .int .i64 ((j:Int)-1)∧s8= .bool ch∧eZ wr T RA RB k c a b∧jP c.ins b∧(∀x j,b x j<18446744073709551616)∧Ext (nQ RA RB c.ins.length) W3 wr∧
  bL c.ins.length k b≤bL c.ins.length k b0∧(ch=true→bL c.ins.length k b<bL c.ins.length k b0)∧(ch=false→b=b0∧je c.ins k j a b)
def Dj (T RA RB k:Nat)(c:dQ)(W3:H5)(b0 a:Nat→Nat→Nat)(j:Nat)(s8 s46:Value)(wr:H5):Prop:=
 ∃(q:Nat) (ch:Bool) (b:Nat→Nat→Nat),q≤(aO c.ins j).length∧s46= .int .i64 (q:Int)∧s8= .bool ch∧eZ wr T RA RB k c a b∧jP c.ins b∧(∀x j,b x j<18446744073709551616)∧Ext (nQ RA RB c.ins.length) W3 wr∧
  bL c.ins.length k b≤bL c.ins.length k b0∧(ch=true→bL c.ins.length k b<bL c.ins.length k b0)∧(ch=false→b=b0∧(∀i,c.ins[j]?=some i→a j=stepW i (b0 j))∧je c.ins k (j+1) a b∧∀x∈(aO c.ins j).take q,∀p,p<k→b x p|||a j p=b x p)
theorem uY:∀(n x:Nat),x<2^n→nM x n=0→x=0
 |0,x,h,_=>by simpa using h
 |n+1,x,h,h0=>by
  unfold nM at h0;simp only[ik,List.sum_cons] at h0;have h1:=uY n (x/2) (by rw[Nat.pow_succ] at h;omega) (by unfold nM;omega);omega
theorem nR {f:Nat→Nat}(hf:∀i,f i<18446744073709551616):∀(n:Nat),dK n f=0→∀i,i<n→f i=0
 |0,_,i,hi=>by omega
 |n+1,h,i,hi=>by
  rw[ko] at h
  by_cases e:i=n
  ·subst e;exact uY 64 _ (hf _) (by omega)
  ·exact nR hf n (by omega) i (by omega)
theorem Ey.skip {T RA RB k j:Nat}{c:dQ}{W3 w2:H5}{a b b0:Nat→Nat→Nat}{ch:Bool}{i:Ins}(hi:c.ins[j]?=some i)(h0:dK k (stepW i (b j))=0)(ht:eZ w2 T RA RB k c (fun y=>if y=j then stepW i (b j) else a y) b)(hs:jP c.ins b)(hb:∀x j,b x j<18446744073709551616)(hx:Ext (nQ RA RB c.ins.length) W3 w2)
  (hr:bL c.ins.length k b≤bL c.ins.length k b0)(hc1:ch=true→bL c.ins.length k b<bL c.ins.length k b0)(hc2:ch=false→b=b0∧je c.ins k (j+1) a b):Ey T RA RB k c W3 b0 (.bool ch) (.int .i64 ((j:Int)-1)) w2:=by
 refine⟨j,ch,_,b,Nat.le_of_lt (GQ.1 hi).1,rfl,rfl,ht,hs,hb,hx,hr,hc1,fun h=>⟨(hc2 h).1,fun y i' hy hi'=> ?_⟩⟩
 by_cases e:y=j
 ·subst e
  rw[hi] at hi';obtain rfl:=Hl hi';simp only[if_pos];exact⟨trivial,fun x _ q hq=>by rw[nR (kW i (hb y)) k h0 q hq,Nat.or_zero]⟩
 ·simp only[if_neg e]
  exact(hc2 h).2 y i' (by omega) hi'
theorem Dj.done {T RA RB k j:Nat}{c:dQ}{W3 wr:H5}{a b0:Nat→Nat→Nat}{s8:Value}{i:Ins}(hi:c.ins[j]?=some i)(h:Dj T RA RB k c W3 b0 a j s8 (.int .i64 ((aO c.ins j).length:Int)) wr):Ey T RA RB k c W3 b0 s8 (.int .i64 ((j:Int)-1)) wr:=by
 obtain⟨q,ch,b,hq,e1,rfl,ht,hs,hb,hx,hr,hc1,hc2⟩:=h;have hqe:q=(aO c.ins j).length:=by simp at e1;omega
 subst hqe;refine⟨j,ch,a,b,Nat.le_of_lt (GQ.1 hi).1,rfl,rfl,ht,hs,hb,hx,hr,hc1,fun h=> ?_⟩;obtain⟨e,ha,h1,h2⟩:=hc2 h;rw[Ha] at h2;refine⟨e,fun y i' hy hi'=> ?_⟩
 by_cases e':y=j
 ·subst e'
  rw[hi] at hi';obtain rfl:=Hl hi';exact⟨by rw[ha _ hi,e],h2⟩
 ·exact h1 y i' (by omega) hi'
theorem Ey.final {T RA RB:Nat}{c:dQ}{W3 wr:H5}{b0:Nat→Nat→Nat}{s9:Value}(hf:Fits c.ins c.nvars)(h:Ey T RA RB ((c.nvars+63)/64) c W3 b0 (.bool false) s9 wr)(h9:s9= .int .i64 (-1)):∃a b,Eh wr T RA RB c a b:=by
 obtain⟨j,ch,a,b,hj,e9,e8,ht,hs,hb,hx,hr,hc1,hc2⟩:=h;rw[h9] at e9;have hj0:j=0:=by simp at e9;omega
 subst hj0;obtain⟨e,hcl⟩:=hc2 (by simpa using e8.symm);have ha:∀y i,c.ins[y]?=some i→a y=stepW i (b y):=fun y i hi=>(hcl y i (Hg _) hi).1;refine⟨a,b,ht,fun x j hx=> ?_,hb, ?_,hs⟩
 ·rw[ha x _ (GN hx)];exact kW _ (hb x) j
 ·exact FY (by omega) hf hs (fun y i hi q _=>by rw[ha y i hi]) (fun y x hy hx'=>(hcl y _ (Hg _) (GN hy)).2 x hx')
theorem Dj.start {T RA RB k j:Nat}{c:dQ}{W3 w2:H5}{a b b0:Nat→Nat→Nat}{ch:Bool}{i:Ins}(hi:c.ins[j]?=some i)(ht:eZ w2 T RA RB k c (fun y=>if y=j then stepW i (b j) else a y) b)(hs:jP c.ins b)(hb:∀x j,b x j<18446744073709551616)(hx:Ext (nQ RA RB c.ins.length) W3 w2)
  (hr:bL c.ins.length k b≤bL c.ins.length k b0)(hc1:ch=true→bL c.ins.length k b<bL c.ins.length k b0)(hc2:ch=false→b=b0∧je c.ins k (j+1) a b):Dj T RA RB k c W3 b0 (fun y=>if y=j then stepW i (b j) else a y) j (.bool ch) (.int .i64 0) w2:=by
 refine⟨0,ch,b,Hg _,rfl,rfl,ht,hs,hb,hx,hr,hc1,fun h=> ?_⟩;obtain⟨e,h1⟩:=hc2 h;refine⟨e,fun i' hi'=> ?_,fun y i' hy hi'=> ?_,by simp⟩
 ·rw[hi] at hi'
  obtain rfl:=Hl hi';simp only[if_pos,e]
 ·simp only[if_neg (show y≠j by omega)]
  exact h1 y i' hy hi'
theorem Dj.next {T RA RB k j x q:Nat}{c:dQ}{W3 wr w2:H5}{a b b0 bs:Nat→Nat→Nat}{ch:Bool}{i:Ins}{nv:Nat}(hf:Fits c.ins nv)(hi:c.ins[j]?=some i)(ha:a j=stepW i (bs j))(hsb:jP c.ins bs)(hbs:∀x j,bs x j<18446744073709551616)
  (hq:(aO c.ins j)[q]?=some x)(ht:eZ wr T RA RB k c a b)(hs:jP c.ins b)(hb:∀x j,b x j<18446744073709551616)(hx:Ext (nQ RA RB c.ins.length) W3 wr)
  (hr:bL c.ins.length k b≤bL c.ins.length k b0)(hc1:ch=true→bL c.ins.length k b<bL c.ins.length k b0)
  (hc2:ch=false→b=b0∧(∀i,c.ins[j]?=some i→a j=stepW i (b0 j))∧je c.ins k (j+1) a b∧∀x∈(aO c.ins j).take q,∀p,p<k→b x p|||a j p=b x p)
  (hrow:bP w2 (RB+1+x) k (gW (b x) (a j) k))(hx2:Ext (·=RB+1+x) wr w2):Dj T RA RB k c W3 b0 a j (.bool (eB (b x) (a j) k||ch)) (.int .i64 ((q:Int)+1)) w2:=by
 have hlt:∀p,a j p<18446744073709551616:=by rw[ha];exact kW i (hbs j)
 have hmem:=GV hq;have hxn:x<c.ins.length:=((gq c.ins x j).1 hmem).1;have hrm:=CU (n:=c.ins.length) (k:=k) (x:=x) (b:=b) (g:=a j) hb hlt hxn;have hql:q<(aO c.ins j).length:=(GQ.1 hq).1;have hje:(fun y=>if y=x then gW (b x) (a j) k else b y)=jw b x (a j) k:=rfl;refine⟨q+1,_,jw b x (a j) k,by omega,by simp,rfl,by rw[←hje];exact ht.grow hxn hrow hx2, ?_, ?_, ?_,Nat.le_trans hrm.1 hr,fun h=> ?_,fun h=> ?_⟩
 ·rw[ha];exact Bn hf hs hi hmem hsb
 ·intro y p
  unfold jw
  split
  ·exact Ee (hb x) hlt k p
  ·exact hb y p
 ·exact hx.trans hx2 (fun p hp=> .inl (by unfold nQ;omega))
 ·rcases Bool.or_eq_true _ _▸h with h|h
  ·exact Hd (hrm.2 h) hr
  ·exact Nat.lt_of_le_of_lt hrm.1 (hc1 h)
 ·have h1:eB (b x) (a j) k=false:=by revert h;cases eB (b x) (a j) k<;>simp
  have h2:ch=false:=by revert h;cases ch<;>simp
  have hsame:jw b x (a j) k=b:=by
   funext y
   unfold jw
   split
   ·rename_i e;subst e;exact Bl (hb _) hlt h1
   ·rfl
  rw[hsame];obtain⟨e1,e2,e3,e4⟩:=hc2 h2;refine⟨e1,e2,e3,fun y hy p hp=> ?_⟩;rw[List.take_add_one,hq] at hy;rcases List.mem_append.1 hy with hy|hy
  ·exact e4 y hy p hp
  ·simp at hy;subst hy
   exact(mI (hb _) hlt k).1 h1 p hp
theorem eZ.of_rows {w2 w3:H5}{c:dQ}{k n R1 R2:Nat}(hn:c.ins.length=n)(hr1:w2.heap[R1]?=some (.cells (dL n k R1 n) 199 (0,0)))(hall1:∀i,i<n→w2.heap[R1+1+i]?=some (.cells (dm k (fun _=>0)) 245 (0,0)))(hsz1:w2.heap.size=R1+1+n)(hR2:R2=w2.heap.size)
  (hr2:w3.heap[R2]?=some (.cells (dL n k R2 n) 199 (0,0)))(hall2:∀i,i<n→w3.heap[R2+1+i]?=some (.cells (dm k (fun _=>0)) 245 (0,0)))(hsz2:w3.heap.size=R2+1+n)(hb:H9 R2 w2 w3):
  eZ (w3.alloc (.cells (gy c R1 R2) 196)) w3.heap.size R1 R2 k c (fun _ _=>0) (fun _ _=>0):=by
 have ha:∀i,i<w3.heap.size→(w3.alloc (.cells (gy c R1 R2) 196)).heap[i]?=w3.heap[i]? :=fun i hi=>Hy _ _ _ hi;subst hn;refine eZ.init (alloc_at _ _) ?_ (fun i hi=> ?_) ?_ (fun i hi=> ?_) (by omega) (by omega) (by omega)
 ·rw[ha _ (by omega),hb.block _ (by omega)];exact hr1
 ·rw[ha _ (by omega),hb.block _ (by omega)];exact hall1 i hi
 ·rw[ha _ (by omega)];exact hr2
 ·rw[ha _ (by omega)];exact hall2 i hi
def zu (c:dQ)(w:H5)(e:Ending)(w':H5):Prop:=
 ∃T RA RB a b,e= .returned (.pointer (some ⟨T,0,none⟩))∧w.heap.size≤T∧w.heap.size≤RB∧Eh w' T RA RB c a b∧H9 w.heap.size w w'
theorem tZ (c:dQ)(w:H5)(hin:c.inn w)(hn150:c.ins.length≤400)(hnv:c.nvars≤400)(hargs:∀i∈c.ins,i.args.length≤40)(hfits:Fits c.ins c.nvars):Calls prog 57 #[.agg c.cells] w (zu c w):=by
 obtain⟨C,hC⟩:=zE c;have HC:=zH hC;have HARGS:Ia (∀i∈C.ins,i.args.length≤40):=by rw[←hC];exact hargs
 have HFITS:Ia (Fits C.ins C.nvars):=by rw[←hC];exact hfits
 have HIN:=zH hin;clear hin hfits hargs;obtain⟨nm,par,varsA,nvars,varsC,rp,rto,rcl,fromA,nfrom,fromC,insA,insC,ins⟩:=c;simp only at hn150 hnv;simp only[dQ.cells];obtain⟨n,hn⟩:=zE ins.length;have HN':=zH hn;obtain⟨N,hN⟩:=zE w.heap.size;obtain⟨W1,hW1⟩:=zE (w.alloc (.cells #[.string nm,.int .i64 par,.slice varsA nvars varsC,.bool rp,.string rto,.int .i64 rcl,.slice fromA nfrom fromC,.slice insA n insC] 38));have hb1:=gZ hW1 hN;have hs1:W1.heap.size=N+1:=by rw[←hW1];simp[hN]
 have hrow:W1.heap[N]?=some (.cells #[.string nm,.int .i64 par,.slice varsA nvars varsC,.bool rp,.string rto,.int .i64 rcl,.slice fromA nfrom fromC,.slice insA n insC] 38 (0,0)):=by
  rw[←hW1,←hN];exact alloc_at _ _
 have hin1:=HIN.out.below (by rw[hN];exact hb1);have HS:Ia (∀W,H9 (N+1) W1 W→W.cell? ⟨N,0,none⟩=some (.string nm)∧W.cell? ⟨N,1,none⟩=some (.int .i64 par)∧W.cell? ⟨N,2,none⟩=some (.slice varsA nvars varsC)∧W.cell? ⟨N,3,none⟩=some (.bool rp)∧W.cell? ⟨N,4,none⟩=some (.string rto)∧W.cell? ⟨N,5,none⟩=some (.int .i64 rcl)∧W.cell? ⟨N,6,none⟩=some (.slice fromA nfrom fromC)∧W.cell? ⟨N,7,none⟩=some (.slice insA n insC)∧H9 (N+1) W1 W):=by
  intro W hW;have h4:=(hW.block N (by omega)).trans hrow;refine⟨?_, ?_, ?_, ?_, ?_, ?_, ?_, ?_,hW⟩<;>(rw[cell_of_row _ _ _ _ _ _ h4];rfl)
 have HK:Ia (∀W,H9 (N+1) W1 W→C.inn W∧H9 N w W∧N+1≤W.heap.size):=by
  intro W hW;exact⟨by rw[←hC];exact hin1.below (by rw[hs1];exact hW),hb1.trans (hW.mono (by omega)),by have:=hW.size;omega⟩
 have HBE:Ia (∀W,H9 (N+1) W1 W→Calls prog 103 #[.agg #[.string nm,.int .i64 par,.slice varsA nvars varsC,.bool rp,.string rto,.int .i64 rcl,.slice fromA nfrom fromC,.slice insA n insC]] W (Bj W n (aO ins))):=by
  intro W hb;rw[←hn];have h1:=(HK.out W hb).1.row;rw[←hC] at h1;exact xw ⟨nm,par,varsA,nvars,varsC,rp,rto,rcl,fromA,nfrom,fromC,insA,insC,ins⟩ W h1 (by show ins.length≤90000;omega)
 have HW1:=zH hW1;have HS1:=zH hs1;have hsl:N+1≤W1.heap.size:=by omega
 obtain⟨k0,k1,k2,k3,k4,k5,k6,k7,_⟩:=HS.out W1 (Hw _ _);have hn9:n≤400:=by omega
 clear hb1 hs1 hrow hin1 hW1 HIN hC;rw[hn];clear hn hn150;go_enter func57,ntmps57;go_wp2;rw[HW1.out]
 go_step3
 go_upto_region 1 with(fail)
 go_quiet (fail)
 go_upto_region 2 with(fail)
 obtain⟨Wd,hWd⟩:=zE (W1.drewN nq);have hbd:H9 (N+1) W1 Wd:=by rw[←hWd];exact below_drewN (Hw _ _) _
 rw[hWd];obtain⟨k0,k1,k2,k3,k4,k5,k6,k7,_⟩:=HS.out Wd hbd;have hsd:=(HK.out Wd hbd).2.2;have HBD:=zH hbd;have HLR:Ia (∀W,Calls prog 102 #[.int .i64 (n:Int),.int .i64 (nvars:Int)] W (rC W n ((nvars+63)/64) W.heap.size)):=fun W=>rD W n nvars (by omega) (by omega);have HS2:Ia (∀W W',H9 (N+1) W1 W→H9 W.heap.size W W'→W'.cell? ⟨N,0,none⟩=some (.string nm)∧W'.cell? ⟨N,1,none⟩=some (.int .i64 par)∧W'.cell? ⟨N,2,none⟩=some (.slice varsA nvars varsC)∧W'.cell? ⟨N,3,none⟩=some (.bool rp)∧W'.cell? ⟨N,4,none⟩=some (.string rto)∧W'.cell? ⟨N,5,none⟩=some (.int .i64 rcl)∧W'.cell? ⟨N,6,none⟩=some (.slice fromA nfrom fromC)∧W'.cell? ⟨N,7,none⟩=some (.slice insA n insC)∧H9 (N+1) W1 W'):=
  fun W W' h1 h2=>HS.out W' (h1.trans (h2.mono (HK.out W h1).2.2))
 clear hWd hbd
 go_cut [5] (fun s5 wc=>∃T RA RB,s5= .pointer (some ⟨T,0,none⟩)∧eZ wc T RA RB ((nvars+63)/64) C (fun _ _=>0) (fun _ _=>0)∧N+1≤T∧N+1≤RA∧N+1≤RB∧H9 (N+1) W1 wc)
 case first=>
  go_region_held3 (fun w'=>w'.cell? ⟨N,0,none⟩=some (.string nm)∧w'.cell? ⟨N,1,none⟩=some (.int .i64 par)∧w'.cell? ⟨N,2,none⟩=some (.slice varsA nvars varsC)∧w'.cell? ⟨N,3,none⟩=some (.bool rp)∧w'.cell? ⟨N,4,none⟩=some (.string rto)∧w'.cell? ⟨N,5,none⟩=some (.int .i64 rcl)∧w'.cell? ⟨N,6,none⟩=some (.slice fromA nfrom fromC)∧w'.cell? ⟨N,7,none⟩=some (.slice insA n insC)∧H9 (N+1) W1 w')
   (first|(exact hS)|(exact⟨k0,k1,k2,k3,k4,k5,k6,k7,below_drewN HBD.out 1⟩)|(exact HS2.out _ _ (by go_split_ands;assumption) ((Hw _ _).alloc (He _) _)))
   (first
    |(go_at_call 102;have hqq:=hr1;refine(HLR.out _).mono ?_;rintro e w3 ⟨rfl,hr2,hall2,hsz2,hbel2⟩;have hS:=HS2.out _ _ (by go_split_ands;assumption) hbel2)
    |(go_at_call 102;refine(HLR.out _).mono ?_;rintro e w2 ⟨rfl,hr1,hall1,hsz1,hbel1⟩;have hS:=HS2.out _ _ (by go_split_ands;assumption) hbel1))
  obtain⟨_,_,_,_,_,_,_,_,hb3⟩:=hS;have hsd':Wd.drew.heap.size=Wd.heap.size:=rfl;rw[hsd'] at hr1 hall1 hsz1;rw[hsz1] at hr2 hall2 hsz2 hbel2;have HT:Ia (eZ (w3.alloc (.cells (gy C Wd.heap.size (Wd.heap.size+1+n)) 196)) w3.heap.size Wd.heap.size (Wd.heap.size+1+n) ((nvars+63)/64) C (fun _ _=>0) (fun _ _=>0)):=
   eZ.of_rows (n:=n) (by rw[←HC.out];exact HN'.out) hr1 hall1 hsz1 (by rw[hsz1]) hr2 hall2 hsz2 hbel2
  rw[hsz2] at HT;have HB3:Ia (H9 (N+1) W1 w3∧w3.heap.size=Wd.heap.size+1+n+1+n):=⟨hb3,hsz2⟩
  have hTC:gy C Wd.heap.size (Wd.heap.size+1+n)=#[.string nm,.int .i64 par,.slice varsA nvars varsC,.bool rp,.string rto,.int .i64 rcl,.slice fromA nfrom fromC,.slice insA n insC,.slice (some ⟨Wd.heap.size,0,none⟩) n n,.slice (some ⟨Wd.heap.size+1+n,0,none⟩) n n]:=by
   rw[←HC.out];simp only[gy,HN'.out]
  rw[hTC] at HT;clear hr1 hall1 hsz1 hr2 hall2 hsz2 hbel1 hbel2 hb3 hTC;go_wp2
  go_meet
  case rel=>exact⟨_,_,_,rfl,HT.out,by omega,by omega,by omega,HB3.out.1.alloc (by have:=HB3.out.2;omega) _⟩
 case rest=>
  obtain⟨T,RA,RB,rfl,htab,hT,hRA,hRB,hbc⟩:=hcut;obtain⟨k0,k1,k2,k3,k4,k5,k6,k7,_⟩:=HS.out wc hbc;have HTAB:=zH htab;have HBC:=zH hbc;have hsc:=(HK.out wc hbc).2.2;clear htab hbc
  go_wp2_with (go_at_call 103;refine(HBE.out _ HBC.out).mono ?_;rintro e W3 ⟨R,rfl,hR,hrows,hb3⟩)
  have hb3':H9 (N+1) W1 W3:=HBC.out.trans (hb3.mono hsc);have ht3:eZ W3 T RA RB ((nvars+63)/64) C (fun _ _=>0) (fun _ _=>0):=HTAB.out.keep (Ext.of_below_size hb3:Ext (fun _=>False) wc W3) (fun _ h=>h);have hnC:C.ins.length=n:=by rw[←HC.out];exact HN'.out
  have hTl:T<wc.heap.size:=(GR.1 HTAB.out.tab).1;have hRAl:RA<wc.heap.size:=by obtain⟨cur,h1,_⟩:=HTAB.out.ahead;exact(GR.1 h1).1
  have hRBl:RB<wc.heap.size:=(GR.1 HTAB.out.behind).1;have hRBn:RB+n<wc.heap.size:=by
   by_cases h0:n=0
   ·omega
   ·have:=(HTAB.out.words (n-1) (by omega)).lt;omega
  have HV:Ia (∀y,y<n→∃ao cap,W3.cell? ⟨R,y,none⟩=some (.slice ao (aO ins y).length cap)∧∀(q z:Nat),(aO ins y)[q]?=some z→∃g,ao=some ⟨g,0,none⟩∧R<g∧g<W3.heap.size∧W3.cell? ⟨g,q,none⟩=some (.int .i64 (z:Int))):=by
   intro y hy;obtain⟨vals,_,v1,v2,_,v4,_⟩:=hrows;obtain⟨v,hv⟩:∃v,vals[y]?=some v:=⟨_,Array.getElem?_eq_getElem (by omega)⟩
   have ho:=v4 y v hv;obtain⟨ao,cap,rfl⟩:=ho.isSlice;have hl:(ints (aO ins y)).length=(aO ins y).length:=by simp[ints]
   refine⟨ao,cap,by rw[cell_of_row _ _ _ _ _ _ v2,hv,hl],fun q z hz=> ?_⟩;obtain⟨g,e,h1,h2,h3⟩:=ho.shape (by rw[hl];have:=(GQ.1 hz).1;omega);exact⟨g,e,by omega,h2,h3 q z (by simp[ints,hz])⟩
  have hR3:R<W3.heap.size:=by obtain⟨vals,_,_,v2,_⟩:=hrows;exact(GR.1 v2).1
  have hs3:N+1≤W3.heap.size:=(HK.out W3 hb3').2.2;have HB3:=zH hb3';have HT3:=zH ht3;have HNC:=zH hnC;clear hb3 hb3' ht3 hrows hnC k0 k1 k2 k3 k4 k5 k6 k7
  go_step3
  go_wp2;obtain⟨k,hk⟩:∃k,k=(nvars+63)/64:=⟨_,rfl⟩
  go_loopg [8] (bL n k (fun _ _=>0)) (fun m s8 wr=>BS T RA RB k C W3 m wr)
  case atStart=>exact⟨_,_,by rw[hk];exact HT3.out,by intro x v _ h;simp[aY] at h,by intro x j;decide,by rw[HNC.out];exact He _,Ext.refl _ _⟩
  case round=>
   obtain⟨a0,b0,ht0,hs0,hl0,hr0,hx0⟩:=hrel;have HSW0:Ia (Ey T RA RB k C W3 b0 (.bool false) (.int .i64 ((n:Int)-1)) wr):=
    ⟨n,false,a0,b0,by rw[HNC.out];exact He _,rfl,rfl,ht0,hs0,hl0,hx0,He _,(fun h=>by cases h),fun _=>⟨rfl,fun y i hy hi=>absurd (GQ.1 hi).1 (by rw[HNC.out];omega)⟩⟩
   have HR0:=zH hr0;clear ht0 hs0 hl0 hr0 hx0;have HKC:=zH hk;have hk9:k≤90000:=by omega
   have hkv:nvars≤64*k:=by omega
   clear hk;go_wp2
   go_loopw [8,9] (fun s8 s9 wr2=>Ey T RA RB k C W3 b0 s8 s9 wr2) (fun _ s9 _=>(intOf s9+1).toNat)
   case atStart=>exact HSW0.out
   case round=>
    rename_i wr0 _
    obtain⟨j,ch,a,b,hj,rfl,rfl,ht,hs,hl,hx,hrm,hc1,hc2⟩:=hrel;rw[HNC.out] at hj;cases j with
    |zero=>
     have e:(((0:Nat):Int)-1)= -1:=by omega
     rw[e];have hsw:Ey T RA RB k C W3 b0 (.bool ch) (.int .i64 (-1)) wr:=⟨0,ch,a,b,Hg _,by simp,rfl,ht,hs,hl,hx,hrm,hc1,hc2⟩
     have hbr:H9 (N+1) W1 wr:=HB3.out.trans (hx.below hs3 (fun q hq=>by unfold nQ at hq;rw[HNC.out] at hq;omega));cases ch with
     |true=>
      have HC1:=zH (hc1 rfl);have HG:Ia (BS T RA RB k C W3 (bL C.ins.length k b) wr):=⟨a,b,ht,hs,hl,He _,hx⟩
      clear hsw hbr ht hs hl hx hrm hc1 hc2 e;go_wp2
      go_roundg (bL C.ins.length k b)
      case measure=>exact Hd HC1.out HR0.out
      case rel=>exact HG.out
     |false=>
      have HG:Ia (zu C w (.returned (.pointer (some ⟨T,0,none⟩))) wr):=by
       have hnvC:C.nvars=nvars:=by rw[←HC.out]
       rw[HKC.out,←hnvC] at hsw;obtain⟨a',b',hok⟩:=hsw.final HFITS.out rfl;exact⟨T,RA,RB,a',b',rfl,by omega,by omega,hok,by rw[hN];exact(HK.out wr hbr).2.1⟩
      clear hsw hbr ht hs hl hx hrm hc1 hc2 e;go_wp2
      try rw[Exit.noGoto_ret]
      go_ret;rw[HC.out];exact HG.out
    |succ j=>
     have e:(((j+1:Nat):Int)-1)=(j:Int):=by omega
     rw[e];have hjn:j<n:=by omega
     obtain⟨i,hi⟩:∃i,C.ins[j]?=some i:=⟨_,GN (by rw[HNC.out];exact hjn)⟩
     have hmem:=GV hi;have hbr:H9 (N+1) W1 wr:=HB3.out.trans (hx.below hs3 (fun q hq=>by unfold nQ at hq;rw[HNC.out] at hq;omega));have hfi:=HFITS.out i hmem;have hnvC:C.nvars=nvars:=by rw[←HC.out]
     have HSTEP:=zH (Bo wr T RA RB k j C a b i ht hi (HK.out wr hbr).1 (HARGS.out i hmem) (by rw[HNC.out];omega) hk9 ⟨fun r hr=>⟨(hfi.1 r hr).1,by have:=(hfi.1 r hr).2;rw[hnvC] at this;omega⟩,fun h=>⟨(hfi.2 h).1,by have:=(hfi.2 h).2;rw[hnvC] at this;omega⟩⟩ hl);have HI:=zH hi;have HS0:=zH hs;have HL0:=zH hl;have HX0:=zH hx;have HRM:=zH hrm;have HC1:=zH hc1;have HC2:=zH hc2;clear hi hmem hbr hfi hnvC hs hl hx hrm hc1 hc2 ht e
     by_cases hc0:dK k (stepW i (b j))=0
     ·have hd:decide (0<dK k (stepW i (b j)))=false:=decide_eq_false (by omega)
      have HC0:=zH hc0;have HST2:Ia (Calls prog 104 #[.pointer (some ⟨T,0,none⟩),.int .i64 (j:Int)] wr fun e w'=>e= .returned (.bool false)∧eZ w' T RA RB k C (fun y=>if y=j then stepW i (b j) else a y) b∧Ext (·=RA) wr w'):=
       HSTEP.out.mono fun e w' h=>by unfold Stepped at h;rw[hd] at h;exact h
      clear HSTEP hc0 hd
      go_wp2_with (go_at_call 104;refine HST2.out.mono ?_;rintro e w2 ⟨rfl,ht2,hx2⟩)
      refine⟨Ey.skip HI.out HC0.out ht2 HS0.out HL0.out (HX0.out.trans hx2 (fun q hq=> .inl (.inl hq))) HRM.out HC1.out HC2.out,by simp[intOf]⟩
     ·have hd:decide (0<dK k (stepW i (b j)))=true:=decide_eq_true (by omega)
      have HST2:Ia (Calls prog 104 #[.pointer (some ⟨T,0,none⟩),.int .i64 (j:Int)] wr fun e w'=>e= .returned (.bool true)∧eZ w' T RA RB k C (fun y=>if y=j then stepW i (b j) else a y) b∧Ext (·=RA) wr w'):=
       HSTEP.out.mono fun e w' h=>by unfold Stepped at h;rw[hd] at h;exact h
      obtain⟨ao,cap,hcR,hcells⟩:=HV.out j hjn;have hcR0:∀w2,Ext (·=RA) wr w2→w2.cell? ⟨R,j,none⟩=some (.slice ao (aO ins j).length cap):=fun w2 h2=>by
       have hxx:Ext (nQ RA RB C.ins.length) W3 w2:=HX0.out.trans h2 (fun q hq=> .inl (.inl hq));rw[hxx.cell (a:=⟨R,j,none⟩) hR3 (by show¬nQ RA RB C.ins.length R;unfold nQ;rw[HNC.out];omega)];exact hcR
      have HCR:=zH hcR0;have HCE:=zH hcells;have hlb:(aO ins j).length≤900:=by have:=xx ins j;have:=HN'.out;omega
      have hjI:(j:Int)<(n:Int):=by omega
      have HCI:Ia (C.ins=ins):=by unfold Ia;rw[←HC.out]
      clear HSTEP hc0 hd hcR hcR0 hcells
      go_upto_if 40 with(go_at_call 104;refine HST2.out.mono ?_;rintro e w2 ⟨rfl,ht2,hx2⟩)
      have hcr2:=HCR.out w2 hx2;have HJ0:Ia (Dj T RA RB k C W3 b0 (fun y=>if y=j then stepW i (b j) else a y) j (.bool ch) (.int .i64 0) w2):=Dj.start HI.out ht2 HS0.out HL0.out (HX0.out.trans hx2 (fun q hq=> .inl (.inl hq))) HRM.out HC1.out HC2.out;clear ht2 hx2 HST2 HCR;obtain⟨a',ha'⟩:=zE (fun y=>if y=j then stepW i (b j) else a y);rw[ha'] at HJ0;have HAJ:Ia (a' j=stepW i (b j)):=by rw[←ha'];simp[Ia]
      have HAL:Ia (∀p,a' j p<18446744073709551616):=by rw[HAJ.out];exact kW i (HL0.out j)
      clear ha';go_wp2
      go_loopw [8,46] (fun s8 s46 wr3=>Dj T RA RB k C W3 b0 a' j s8 s46 wr3) (fun _ s46 _=>(aO ins j).length-(intOf s46).toNat)
      case atStart=>exact HJ0.out
      case round=>
       rename_i wr00 _
       obtain⟨q,ch2,b2,hq,rfl,rfl,ht3,hs3',hl3,hx3,hr3,h31,h32⟩:=hrel;rw[HCI.out] at hq
       by_cases hql:q<(aO ins j).length
       ·obtain⟨x,hxq⟩:∃x,(aO ins j)[q]?=some x:=⟨_,GN hql⟩
        have hxn:x<n:=by have:=((gq ins x j).1 (GV hxq)).1;have:=HN'.out;omega
        obtain⟨g2,rfl,hg2,hg2l,hgc2⟩:=HCE.out q x hxq;have hcx:wr.cell? ⟨g2,q,none⟩=some (.int .i64 (x:Int)):=by
         rw[hx3.cell (a:=⟨g2,q,none⟩) hg2l (by show¬nQ RA RB C.ins.length g2;unfold nQ;rw[HNC.out];omega)];exact hgc2
        have hqI:(q:Int)<((aO ins j).length:Int):=by omega
        have hxI:(x:Int)<(n:Int):=by omega
        obtain⟨cur,q1,q2,q3⟩:=ht3.ahead;obtain⟨g,cp,q4,q5,q6⟩:=q3 j (by rw[HNC.out];exact hjn);have c1:wr.cell? ⟨T,8,none⟩=some (.slice (some ⟨RA,0,none⟩) n n):=ht3.cells (by rw[←HNC.out];rfl);have c2:wr.cell? ⟨T,9,none⟩=some (.slice (some ⟨RB,0,none⟩) n n):=ht3.cells (by rw[←HNC.out];rfl);have c3:wr.cell? ⟨RB,x,none⟩=some (.slice (some ⟨RB+1+x,0,none⟩) k k):=by
         rw[cell_of_row _ _ _ _ _ _ ht3.behind,HNC.out,dS _ _ _ hxn,if_pos hxn]
        have c4:wr.cell? ⟨RA,j,none⟩=some (.slice (some ⟨g,0,none⟩) k cp):=by rw[cell_of_row _ _ _ _ _ _ q1];exact q4
        have hgx:g≠RB+1+x:=fun e=>q5 (by rw[HNC.out];unfold CV;omega);have s1:=ht3.s1;have s2:=ht3.s2;have s3:=ht3.s3;rw[HNC.out] at s2 s3;have hwx:=ht3.words x (by rw[HNC.out];exact hxn);have HJOIN:=zH (tY wr.drew (RB+1+x) g k k cp (b2 x) (a' j) hgx (hwx.keep rfl) (q6.keep rfl) (hl3 x) HAL.out hk9);have lT:T<wr.heap.size:=(GR.1 ht3.tab).1;have lA:RA<wr.heap.size:=(GR.1 q1).1;have lB:RB<wr.heap.size:=(GR.1 ht3.behind).1;have HKEEP:Ia (∀W',Ext (·=RB+1+x) wr.drew W'→W'.cell? ⟨T,8,none⟩=some (.slice (some ⟨RA,0,none⟩) n n)∧W'.cell? ⟨T,9,none⟩=some (.slice (some ⟨RB,0,none⟩) n n)∧W'.cell? ⟨RB,x,none⟩=some (.slice (some ⟨RB+1+x,0,none⟩) k k)∧W'.cell? ⟨RA,j,none⟩=some (.slice (some ⟨g,0,none⟩) k cp)):=by
         intro W' hW';refine⟨?_, ?_, ?_, ?_⟩
         ·rw[hW'.cell (a:=⟨T,8,none⟩) lT (by show¬T=RB+1+x;omega)];exact c1
         ·rw[hW'.cell (a:=⟨T,9,none⟩) lT (by show¬T=RB+1+x;omega)];exact c2
         ·rw[hW'.cell (a:=⟨RB,x,none⟩) lB (by show¬RB=RB+1+x;omega)];exact c3
         ·rw[hW'.cell (a:=⟨RA,j,none⟩) lA (by show¬RA=RB+1+x;omega)];exact c4
        have HNX:Ia (∀W',bP W' (RB+1+x) k (gW (b2 x) (a' j) k)→Ext (·=RB+1+x) wr.drew W'→Dj T RA RB k C W3 b0 a' j (.bool (eB (b2 x) (a' j) k||ch2)) (.int .i64 ((q:Int)+1)) W'):=fun W' h1 h2=>
         Dj.next HFITS.out HI.out HAJ.out HS0.out HL0.out (by rw[HCI.out];exact hxq) ht3 hs3' hl3 hx3 hr3 h31 h32 h1 (((Ext.refl _ wr).drew).trans h2 (fun _ h=> .inl h))
        obtain⟨nb,hnb⟩:=zE (eB (b2 x) (a' j) k);unfold Joined at HJOIN;rw[hnb] at HJOIN HNX;clear hnb ht3 hs3' hl3 hx3 hr3 h31 h32 hgc2 q1 q2 q3 q4 q5 q6 hwx hxq hcr2;cases nb with
        |true=>
         clear HKEEP;go_wp2
         first
         |go_region_law (go_simp;go_at_call 105;refine HJOIN.out.mono ?_;rintro e w4 ⟨rfl,hr4,hx4⟩)
         |fail
         all_goals
          have HNX2:=zH (HNX.out w4 hr4 hx4);rw[Bool.true_or] at HNX2;clear hr4 hx4;go_wp2;exact⟨HNX2.out,by simp[intOf];omega⟩
        |false=>
         go_wp2
         go_region_held3 (fun w'=>w'.cell? ⟨T,8,none⟩=some (.slice (some ⟨RA,0,none⟩) n n)∧w'.cell? ⟨T,9,none⟩=some (.slice (some ⟨RB,0,none⟩) n n)∧w'.cell? ⟨RB,x,none⟩=some (.slice (some ⟨RB+1+x,0,none⟩) k k)∧w'.cell? ⟨RA,j,none⟩=some (.slice (some ⟨g,0,none⟩) k cp))
          (first|(exact hS)|(exact⟨c1,c2,c3,c4⟩))
          (first|(go_at_call 105;refine HJOIN.out.mono ?_;rintro e w4 ⟨rfl,hr4,hx4⟩;have hS:=HKEEP.out _ hx4))
         have HNX2:=zH (HNX.out w4 hr4 hx4);rw[Bool.false_or] at HNX2;clear hS hr4 hx4;go_wp2;exact⟨HNX2.out,by simp[intOf];omega⟩
       ·have hqe:q=(aO ins j).length:=by omega
        subst hqe;have HD:Ia (Ey T RA RB k C W3 b0 (.bool ch2) (.int .i64 ((j:Int)-1)) wr):=
         Dj.done HI.out ⟨_,ch2,b2,(by rw[HCI.out];exact He _),(by rw[HCI.out]),rfl,ht3,hs3',hl3,hx3,hr3,h31,(by rw[HCI.out] at h32⊢;exact h32)⟩
        clear ht3 hs3' hl3 hx3 hr3 h31 h32 hcr2;go_wp2;exact⟨HD.out,by simp[intOf]⟩
end Go.Proofs.YtjomgckjhcfbgaaGreat
