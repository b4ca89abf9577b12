/- Walks. -/
import Derived.Deep.WholeRow
import Derived.Test.YtjomgckjhcfbgaaGreatS6
set_option maxRecDepth 100000
set_option maxHeartbeats 64000000
set_option linter.all false
namespace Go.Proofs.YtjomgckjhcfbgaaGreat
open Go.RowKit
open _root_.List renaming getElem?_eq_getElem→GN,length_append→GU,mem_of_getElem?→GV,length_singleton→G5,mem_singleton→Hq
open _root_.Nat renaming lt_of_lt_of_le→Hd,le_refl→He,zero_add→Hf,zero_le→Hg
open _root_.Option renaming some.inj→Hl
open Go.RowKit.Below renaming refl→Hw,heap_alloc→Hy
open Go renaming heap_setCell_same→Hz,World→H5
open Go.RowKit renaming Below→H9,Hid→Ia
open Tryz
theorem Cm:(prog.info? 9).map (fun i=>(i.zero,i.size,i.bytes))=some (some (.string ⟨#[]⟩),1,16):=by kernel_rfl
theorem jK {α:Type}(f:α→Value)(S:List α):(S.map f).length=S.length*1:=by simp
theorem iM {α:Type}{f:α→Value}{w:H5}{B:Nat}{ao:Option Addr}{S:List α}(h:aG (fun x=>#[f x]) 1 w B ao S):∀b,ao=some b→∀j u,(S.map f)[j]?=some u→w.cell? (b.add j)=some u:=by
 intro b hb j u hu;rw[List.getElem?_map] at hu;obtain⟨x,hx,rfl⟩:=Option.map_eq_some_iff.1 hu;obtain⟨b',off,h1,_,h3⟩:=h (by intro e;rw[e] at hx;simp at hx);rw[hb] at h1;obtain rfl:=Hl h1;have:=h3 j x hx 0 _ rfl;rw[Nat.add_zero,Nat.mul_one] at this;rw[Addr.add_lit];exact this
theorem uM {α:Type}{f:α→Value}{w:H5}{base n:Nat}{e:TypeId}{v:Value}{S:List α}(hown:w.ownsRow base e 1 v n (S.map f))(hn:n=S.length){ao:Option Addr}{c:Nat}(hv:v= .slice ao n c):aG (fun x=>#[f x]) 1 w w.heap.size ao S:=by
 subst hv;refine eO (cells:=fun x=>#[f x]) (m:=1) (fun _=>rfl) (base:=base) (e:=e) (n:=n) (c:=c) ?_ hn;have:∀S:List α,(S.flatMap fun x=>(#[f x]:Array Value).toList)=S.map f:=fun S=>by
  induction S with
  |nil=>rfl
  |cons a S ih=>rw[List.flatMap_cons,ih];rfl
 rw[this];exact hown
def Gs (p:Pg)(X:Fx)(s:Sl)(nV nI:Nat)(sv wv:Value):Array Value:=
 #[.slice (some ⟨p.pA,0,none⟩) 1 p.pC,.slice (some ⟨p.qA,0,none⟩) 1 p.qC,.bool X.rt.1,.string X.rt.2,.string X.nm,X.pr,.slice s.vA nV s.vC,X.r7,X.r8,X.r9,X.fr,.slice s.iA nI s.iC,sv,wv,.int .i64 0,.int .i64 0,.int .i64 0,.int .i64 0,X.hs,X.os]
theorem ny {m:Nat}{p:Pg}{L:Nat}{X:Fx}{V2:List Ty}{I2:List fV}{S:List (ByteArray×Nat)}{O O5:Nat→Prop}{s5:Sl}{w W1 w5 WF w8 w10:H5}{nm:ByteArray}{v:Nat}{ao9 aoW:Option Addr}{c9 cW:Nat}
  (hb1:H9 w.heap.size w W1)(hx15:Ext (fun q=>q=m∨O q) W1 w5)(ho15:∀k,O5 k→O k∨W1.heap.size≤k)(k5:Mk m p L X V2 I2 S O5 s5 w5)(hxF:Ext (·=m) w5 WF)
  (hrF:WF.heap[m]?=some (.cells (Gs p X s5 V2.length I2.length (.slice ao9 (S.length+1) c9) (.slice s5.wA S.length s5.wC)) 236 (0,0)))
  (hoF:WF.ownsRow w5.heap.size 9 1 (.slice ao9 (S.length+1) c9) (S.length+1) ((S++[(nm,v)]).map fun x:ByteArray×Nat=>Value.string x.1))
  (hb9:H9 WF.heap.size WF w10)(h8:WF.heap.size≤w8.heap.size)
  (how:w10.ownsRow w8.heap.size 3 1 (.slice aoW (S.length+1) cW) (S.length+1) ((S++[(nm,v)]).map fun x:ByteArray×Nat=>Value.int .i64 (x.2:Int)))(hlS:S.length+1≤1000):
  dA m p L X V2 I2 (S++[(nm,v)]) O w (w10.setCell ⟨m,13,none⟩ (.slice aoW (S.length+1) cW)):=by
 obtain⟨WG,hWG⟩:=zE (w10.setCell ⟨m,13,none⟩ (.slice aoW (S.length+1) cW));rw[hWG];have hm5:=ae k5.row;have hmF:=ae hrF;have h5F:=hxF.size;have hr10:=(hb9.block m hmF).trans hrF;have hxG:Ext (·=m) w10 WG:=by rw[←hWG];exact Ext.set1 w10 m 13 _
 have hrG:WG.heap[m]?=some (.cells (EI p X {s5 with sA:=ao9,sC:=c9,wA:=aoW,wC:=cW} V2.length I2.length (S.length+1)) 236 (0,0)):=by rw[←hWG];exact Hz w10 m 13 _ _ _ hr10
 have hxFG:Ext (·=m) WF WG:=(Ext.of_below_size (M:=(·=m)) hb9).trans hxG (fun q h=> .inl h);have hx5G:Ext (·=m) w5 WG:=hxF.trans hxFG (fun q h=> .inl h);have hln:(S++[(nm,v)]).length=S.length+1:=by simp
 have hoG:=ah hoF hxFG (fun k hk e=>by have:=(ai hoF hk).1;omega);have hwG:=ah how hxG (fun k hk e=>by have:=(ai how hk).1;omega);refine⟨O5,{s5 with sA:=ao9,sC:=c9,wA:=aoW,wC:=cW},⟨by rw[hln];exact hrG,k5.pg.ext hx5G (fun k hk e=>by have:=k5.hm;omega),k5.hm,ah k5.vars hx5G (fun k hk e=>by have:=(ai k5.vars hk).1;omega),ah k5.ins hx5G (fun k hk e=>by have:=(ai k5.ins hk).1;omega),k5.dis,k5.ov,k5.oi,fun k hk=>⟨(k5.ol k hk).1,Hd (k5.ol k hk).2 hx5G.size⟩,uM hoG hln.symm rfl,uM hwG hln.symm rfl,fun a _ e=> ?_,k5.lV,k5.lI,by rw[hln];omega,by rw[hln];exact⟨wG hoF,wG how⟩⟩, ?_,fun k hk=> ?_⟩
 ·rcases e with e|e
  ·have h1:=(ai hoF (k:=a.block) (by rw[show ao9=some a from e];rfl)).1
   exact⟨by omega,fun h=>by have:=(k5.ol _ h).2;omega⟩
  ·have h1:=(ai how (k:=a.block) (by rw[show aoW=some a from e];rfl)).1
   exact⟨by omega,fun h=>by have:=(k5.ol _ h).2;omega⟩
 ·exact((Ext.of_below_size (M:=fun q=>q=m∨O q) hb1).trans hx15 (fun q h=> .inl h)).trans hx5G (fun q h=> .inl (.inl h))
 ·rcases ho15 k hk with h|h
  ·exact .inl h
  ·have:=hb1.size;exact .inr (by omega)
theorem yB {m:Nat}{p:Pg}{L:Nat}{X:Fx}{V:List Ty}{I:List fV}{S:List (ByteArray×Nat)}{O:Nat→Prop}{s:Sl}(hos:X.os= .slice none 0 0)(y:Ty)(nm:ByteArray)(g cp:Nat)(ex:Ex)(hg:g<L∧∀(j:Nat)(u:Value),ex.cells.toList[j]?=some u→∀W,jh p L W→W.cell? ⟨g,j,none⟩=some u)(d:Int)(V2:List Ty)(I2:List fV)(hlV:V.length+1≤1000)(hlS:S.length+1≤1000)
  (hval:∀W O s,Mk m p L X (V++[y]) I S O s W→Calls prog 217 #[.pointer (some ⟨m,0,none⟩),.agg ex.cells,.agg #[.bool y.1,.string y.2],.int .i64 (V.length:Int)] W fun e w'=>e= .returned (.int .i64 d)∧dA m p L X V2 I2 S O W w')(ln cl:Int)(w:H5)(h:Mk m p L X V I S O s w):
  Calls prog 180 #[.pointer (some ⟨m,0,none⟩),.agg #[.int .i64 1,.bool y.1,.string y.2,.string nm,.slice (some ⟨g,0,none⟩) 1 cp,.slice none 0 0,.slice none 0 0,.int .i64 ln,.int .i64 cl]] w fun e w'=>e= .returned (.tuple #[])∧dA m p L X V2 I2 (S++[(nm,V.length)]) O w w':=by
 obtain⟨N,hN⟩:=zE w.heap.size;obtain⟨W1,hW1⟩:=zE (w.alloc (.cells #[.int .i64 1,.bool y.1,.string y.2,.string nm,.slice (some ⟨g,0,none⟩) 1 cp,.slice none 0 0,.slice none 0 0,.int .i64 ln,.int .i64 cl] 282));have hb1:=gZ hW1 hN;have hr1:W1.heap[N]?=some (.cells #[.int .i64 1,.bool y.1,.string y.2,.string nm,.slice (some ⟨g,0,none⟩) 1 cp,.slice none 0 0,.slice none 0 0,.int .i64 ln,.int .i64 cl] 282 (0,0)):=by rw[←hW1,←hN];exact alloc_at _ _
 have hN1:=ae hr1;have h1:Mk m p L X V I S O s W1:=h.grow (by rw[hN];exact hb1);have hB1:H9 w.heap.size w W1:=by rw[hN];exact hb1
 have hm1:=ae h1.row;have hmN:m<N:=by have:=ae h.row;omega
 have hON:¬(N=m∨O N):=by rintro(h1|h1);omega;have:=(h.ol N h1).2;omega
 have c15:W1.cell? ⟨m,15,none⟩=some (.int .i64 0):=(rowAt h1.row 15 rfl).1;have c19:W1.cell? ⟨m,19,none⟩=some (.slice none 0 0):=by rw[←hos];exact(rowAt h1.row 19 rfl).1
 obtain⟨⟨a0,a1,a2,a3,a4,a5,a6,a7,a8⟩,_,_⟩:=fq hr1;have HW1:=zH hW1;have HB1:=zH hB1;have HR1:=zH hr1;have HON:=zH hON;have HHN:=zH hN;have HFR:=zH (l7 y W1 h1 hlV);have HVAL:=zH hval;have HG:=zH hg;clear h h1 hW1 hb1 hr1 hB1 hON hos hval hg;go_enter func180,ntmps180
 go_upto_region 1 with(fail)
 rw[HW1.out]
 go_upto_region 6 with(go_at_call 131;refine HFR.out.mono ?_;rintro e w4 ⟨rfl,hm4⟩;have HM4:=zH hm4;clear hm4)
 obtain⟨O4,s4,k4,x4,o4⟩:=HM4.out;have hr4:=x4.heap HR1.out HON.out;have hN4:=ae hr4;have hm4:=ae k4.row;clear a0 a1 a2 a3 a4 a5 a6 a7 a8 c15 c19;obtain⟨S1,hS1⟩:=zE ((fun w'=>H9 w4.heap.size w4 w'):H5→Prop);have hS0:S1 w4.drew:=by rw[←hS1];exact(Hw _ _).drew
 have hce:∀W,S1 W→W.cell? ⟨N,1,none⟩=some (.bool y.1)∧W.cell? ⟨N,2,none⟩=some (.string y.2)∧W.cell? ⟨N,4,none⟩=some (.slice (some ⟨g,0,none⟩) 1 cp)∧W.cell? ⟨g,0,none⟩=some (.int .i64 ex.kind)∧W.cell? ⟨g,1,none⟩=some (.int .i64 ex.n)∧W.cell? ⟨g,2,none⟩=some (.string ex.nm)∧W.cell? ⟨g,3,none⟩=some (.string ⟨#[]⟩)∧W.cell? ⟨g,4,none⟩=some (.slice none 0 0)∧W.cell? ⟨g,5,none⟩=some (.int .i64 ex.ln)∧W.cell? ⟨g,6,none⟩=some (.int .i64 ex.cl):=fun W hW=>by
  rw[←hS1] at hW;have r1:=(hW.block N hN4).trans hr4;have kk:=(k4.grow hW).pg;exact⟨(rowAt r1 1 rfl).1,(rowAt r1 2 rfl).1,(rowAt r1 4 rfl).1,HG.out.2 0 _ rfl W kk,HG.out.2 1 _ rfl W kk,HG.out.2 2 _ rfl W kk,HG.out.2 3 _ rfl W kk,HG.out.2 4 _ rfl W kk,HG.out.2 5 _ rfl W kk,HG.out.2 6 _ rfl W kk⟩
 have HCE:=zH hce;have h4d:Mk m p L X (V++[y]) I S O4 s4 w4.drew:=k4.grow (Hw _ _).drew;have hV:=HVAL.out w4.drew O4 s4 h4d;unfold Ex.cells at hV;have HV:=zH hV;clear hS1 hce hV;refine aj 8 S1 (by kernel_rfl) ?_;refine zT 0 rfl HCE.out ?_;(try go_simp);refine zT 1 rfl HCE.out ?_;(try go_simp);refine zT 2 rfl HCE.out ?_;(try go_simp);refine zT 3 rfl HCE.out ?_;(try go_simp);refine zT 4 rfl HCE.out ?_;(try go_simp);refine zT 5 rfl HCE.out ?_;(try go_simp);refine zT 6 rfl HCE.out ?_;(try go_simp);refine zT 7 rfl HCE.out ?_;(try go_simp);refine zK rfl fun K' hK=> ?_;go_simp;go_at_call 217;refine HV.out.mono ?_;rintro e w5 ⟨rfl,O5,s5,k5,x5,o5⟩;refine hK _ _ ?_;clear hK;refine⟨by kernel_rfl, ?_⟩;have x15:Ext (fun q=>q=m∨O q) W1 w5:=x4.trans (((Ext.refl _ _).drew).trans x5 (fun q h=> .inl h)) (fun q hq=>by
  rcases hq with h|h
  ·exact .inl (.inl h)
  ·rcases o4 q h with h|h
   ·exact .inl (.inr h)
   ·exact .inr h)
 have hr5:=x15.heap HR1.out HON.out;have hN5:=ae hr5;have hm5:=ae k5.row;have ho15:∀k,O5 k→O k∨W1.heap.size≤k:=fun k hk=>by
  rcases o5 k hk with h|h
  ·exact o4 k h
  ·have:=x4.size;exact .inr (Nat.le_trans this h)
 obtain⟨i0,hi0,hi1,hi2,hi3⟩:=info_parts Cm;have hcs:=k5.cS.1;have hcI:(S.length:Int)≤(s5.sC:Int):=by omega
 have HK5:=zH k5;have HR5:=zH hr5;have HX15:=zH x15;have HO15:=zH ho15;clear k4 x4 o4 hr4 hN4 hm4 hS0 h4d x5 o5 x15 ho15
 go_upto_region 7 with(fail)
 obtain⟨S7,hS7⟩:=zE ((fun w'=>H9 w5.heap.size w5 w'):H5→Prop);have hS0:S7 w5.drew:=by rw[←hS7];exact(Hw _ _).drew
 have hss7:∀W,S7 W→H9 w5.heap.size w5 W:=fun W hW=>by rw[←hS7] at hW;exact hW
 have hsb7:∀W,H9 w5.heap.size w5 W→S7 W:=fun W hW=>by rw[←hS7];exact hW
 rcases hA:s5.sA with _|⟨b,off,fp⟩
 ·have hce7:∀W,S7 W→W.cell? ⟨m,12,none⟩=some (.slice none S.length s5.sC)∧W.cell? ⟨N,3,none⟩=some (.string nm):=fun W hW=>by
   have r1:=((hss7 W hW).block N hN5).trans hr5;have r2:=(k5.grow (hss7 W hW)).row;exact⟨by rw[←hA];exact(rowAt r2 12 rfl).1,(rowAt r1 3 rfl).1⟩
  have HCE7:=zH hce7;have HSS7:=zH hss7;have HSB7:=zH hsb7;clear hce7 hss7 hsb7 hS7 hr5 k5;refine aj 22 S7 (by kernel_rfl) ?_;refine zT 0 rfl HCE7.out ?_;(try go_simp);refine zT 1 rfl HCE7.out ?_;(try go_simp);refine zT 2 rfl HCE7.out ?_;(try go_simp);refine zT 3 rfl HCE7.out ?_;(try go_simp);refine zT 4 rfl HCE7.out ?_;(try go_simp);refine zT 5 rfl HCE7.out ?_;(try go_simp);refine zT 6 rfl HCE7.out ?_;(try go_simp);refine zT 7 rfl HCE7.out ?_;(try go_simp);refine zT 8 rfl HCE7.out ?_;(try go_simp);refine zT 9 rfl HCE7.out ?_;(try go_simp);refine zT 10 rfl HCE7.out ?_;(try go_simp);refine zT 11 rfl HCE7.out ?_;(try go_simp);refine zT 12 rfl HCE7.out ?_;(try go_simp);refine zT 13 rfl HCE7.out ?_;(try go_simp);refine zT 14 rfl HCE7.out ?_;(try go_simp);refine zT 15 rfl HCE7.out ?_;(try go_simp);refine zT 16 rfl HCE7.out ?_;(try go_simp);refine zT 17 rfl HCE7.out ?_;(try go_simp);refine zO 18 rfl fun K' hK=> ?_;go_simp;obtain⟨G,hG⟩:=zE w5.heap.size;obtain⟨w8,hw8⟩:=zE ((w5.alloc (.cells #[.string nm] 9)).drew);(try rw[hG]);(try rw[hw8]);have hb8:H9 w5.heap.size w5 w8:=by rw[←hw8];exact((Hw _ _).alloc (He _) _).drew
  have hrG:w8.heap[G]?=some (.cells #[.string nm] 9 (0,0)):=by rw[←hw8,←hG];exact alloc_at _ _
  have hS8:S7 w8:=HSB7.out _ hb8;refine hK _ _ hS8 ?_;clear hK;(try go_simp);refine zO 19 rfl fun K' hK=> ?_;have hsn:aG (fun x:ByteArray×Nat=>#[.string x.1]) 1 w8 w8.heap.size none S:=by rw[←hA];exact(HK5.out.grow hb8).seen
  have hsz:Ia (S.length=0):=by
   by_cases h:S=[]
   ·unfold Ia;rw[h];rfl
   ·obtain⟨_,_,h1,_⟩:=hsn h;cases h1
  have hold:=iM (f:=fun x:ByteArray×Nat=>Value.string x.1) hsn;refine bI (.tmp 54) (.tmp 57) 223 rfl 9 i0 _ 1 16 underlying223 hi0 hi1 hi2 hi3 rfl (by decide) none S.length S.length (S.map fun x:ByteArray×Nat=>Value.string x.1) rfl (fun _=>⟨hsz.out,hsz.out⟩) (jK _ _) hold ⟨G,0,none⟩ 1 1 [.string nm] rfl rfl (fun jj uu hu=>by rw[Addr.add_lit,Hf,cell_of_row _ _ _ _ _ _ hrG];simpa using hu) (by simp[Value.oneCell']) (by omega) (by unfold maxLen;omega) (by omega) ?_;intro v9 w9 hown9 hgr9;have hx9:Ext (fun _=>False) w8 w9:=Ext.of_grown hgr9 (fun q hq=>by cases hq);have hb9:H9 w5.heap.size w5 w9:=hb8.trans (hx9.below hb8.size (fun q h=>h.elim));have hS9:S7 w9:=HSB7.out _ hb9;obtain⟨ao9,c9,hv9⟩:=aD hown9;subst hv9;refine hK _ _ hS9 ?_;clear hK;(try go_simp);refine zT 20 rfl HCE7.out ?_;(try go_simp);refine zT 21 rfl HCE7.out ?_;(try go_simp);have hk9:=HK5.out.grow hb9;have hfz:=(rowAt hk9.row 12 rfl).2;obtain⟨x0,x1⟩:=HCE7.out w9 hS9;refine zK rfl fun K' hK=> ?_;go_simp;refine hK _ _ ?_;clear hK;refine⟨by kernel_rfl, ?_⟩;obtain⟨WF,hWF⟩:=zE (w9.setCell ⟨m,12,none⟩ (.slice ao9 (S.length+1) c9));(try rw[hWF]);have hxF:Ext (·=m) w9 WF:=by rw[←hWF];exact Ext.set1 w9 m 12 _
  have hrowF:WF.heap[m]?=some (.cells (Gs p X s5 V2.length I2.length (.slice ao9 (S.length+1) c9) (.slice s5.wA S.length s5.wC)) 236 (0,0)):=by rw[←hWF];exact Hz w9 m 12 _ _ _ hk9.row
  have hmw8:m<w8.heap.size:=by have:=hb8.size;omega
  have hownF:WF.ownsRow w5.heap.size 9 1 (.slice ao9 (S.length+1) c9) (S.length+1) ((S++[(nm,V.length)]).map fun x:ByteArray×Nat=>Value.string x.1):=by
   rw[List.map_append];exact aT (ah hown9 hxF (fun k hk e=>by have:=(ai hown9 hk).1;omega)) hb8.size
  have hx5F:Ext (·=m) w5 WF:=(Ext.of_below_size (M:=(·=m)) hb9).trans hxF (fun q h=> .inl h);have hseF:aG (fun x:ByteArray×Nat=>#[.int .i64 (x.2:Int)]) 1 WF WF.heap.size s5.wA S:=HK5.out.whic.stay hx5F (fun a hne e=>(HK5.out.ns a hne (.inr e)).1);have hmF:=ae hrowF;have HXF:=zH hx5F;have HRF:=zH hrowF;have HOF:=zH hownF;have HSF:=zH hseF;have hcs2:=HK5.out.cS.2;have hcI2:(S.length:Int)≤(s5.wC:Int):=by omega
  clear hxF hrowF hmw8 hownF hx5F hseF hWF hk9 hfz x0 x1 hown9 hgr9 hx9 hb9 hS9 hold hsn hrG hb8 hw8 hS8 hG hm5 hN5 hS0 i0 hi0 hi1 hi2 hi3 hcs hcI;obtain⟨i0,hi0,hi1,hi2,hi3⟩:=info_parts iP
  go_upto_region 8 with(fail)
  obtain⟨S8,hS8⟩:=zE ((fun w'=>H9 WF.heap.size WF w'):H5→Prop);have hS80:S8 WF.drew:=by rw[←hS8];exact(Hw _ _).drew
  have hss8:∀W,S8 W→H9 WF.heap.size WF W:=fun W hW=>by rw[←hS8] at hW;exact hW
  have hsb8:∀W,H9 WF.heap.size WF W→S8 W:=fun W hW=>by rw[←hS8];exact hW
  rcases hW2:s5.wA with _|⟨b2,off2,fp2⟩
  ·have hce8:∀W,S8 W→W.cell? ⟨m,13,none⟩=some (.slice none S.length s5.wC):=fun W hW=>by
    rw[←hW2];exact(rowAt (((hss8 W hW).block m hmF).trans HRF.out) 13 rfl).1
   have HCE8:=zH hce8;have HSB8:=zH hsb8;have HSS8:=zH hss8;clear hce8 hsb8 hss8 hS8;refine aj 21 S8 (by kernel_rfl) ?_;refine zT 0 rfl HCE8.out ?_;(try go_simp);refine zT 1 rfl HCE8.out ?_;(try go_simp);refine zT 2 rfl HCE8.out ?_;(try go_simp);refine zT 3 rfl HCE8.out ?_;(try go_simp);refine zT 4 rfl HCE8.out ?_;(try go_simp);refine zT 5 rfl HCE8.out ?_;(try go_simp);refine zT 6 rfl HCE8.out ?_;(try go_simp);refine zT 7 rfl HCE8.out ?_;(try go_simp);refine zT 8 rfl HCE8.out ?_;(try go_simp);refine zT 9 rfl HCE8.out ?_;(try go_simp);refine zT 10 rfl HCE8.out ?_;(try go_simp);refine zT 11 rfl HCE8.out ?_;(try go_simp);refine zT 12 rfl HCE8.out ?_;(try go_simp);refine zT 13 rfl HCE8.out ?_;(try go_simp);refine zT 14 rfl HCE8.out ?_;(try go_simp);refine zT 15 rfl HCE8.out ?_;(try go_simp);refine zT 16 rfl HCE8.out ?_;(try go_simp);refine zO 17 rfl fun K' hK=> ?_;go_simp;obtain⟨G,hG⟩:=zE WF.heap.size;obtain⟨w8,hw8⟩:=zE ((WF.alloc (.cells #[.int .i64 (V.length:Int)] 3)).drew);(try rw[hG]);(try rw[hw8]);have hb8:H9 WF.heap.size WF w8:=by rw[←hw8];exact((Hw _ _).alloc (He _) _).drew
   have hrG:w8.heap[G]?=some (.cells #[.int .i64 (V.length:Int)] 3 (0,0)):=by rw[←hw8,←hG];exact alloc_at _ _
   have hS88:S8 w8:=HSB8.out _ hb8;refine hK _ _ hS88 ?_;clear hK;(try go_simp);refine zO 18 rfl fun K' hK=> ?_;have hsn:aG (fun x:ByteArray×Nat=>#[.int .i64 (x.2:Int)]) 1 w8 w8.heap.size none S:=by rw[←hW2];exact HSF.out.stay (Ext.of_below_size (M:=fun _=>False) hb8) (fun _ _ _ h=>h)
   have hsz:Ia (S.length=0):=by
    by_cases h:S=[]
    ·unfold Ia;rw[h];rfl
    ·obtain⟨_,_,h1,_⟩:=hsn h;cases h1
   have hold:=iM (f:=fun x:ByteArray×Nat=>Value.int .i64 (x.2:Int)) hsn;refine bI (.tmp 76) (.tmp 78) 35 rfl 3 i0 _ 1 8 underlying35 hi0 hi1 hi2 hi3 rfl (by decide) none S.length S.length (S.map fun x:ByteArray×Nat=>Value.int .i64 (x.2:Int)) rfl (fun _=>⟨hsz.out,hsz.out⟩) (jK _ _) hold ⟨G,0,none⟩ 1 1 [.int .i64 (V.length:Int)] rfl rfl (fun jj uu hu=>by rw[Addr.add_lit,Hf,cell_of_row _ _ _ _ _ _ hrG];simpa using hu) (by simp[Value.oneCell']) (by omega) (by unfold maxLen;omega) (by omega) ?_;intro v9 w10 hown9 hgr9;have hx9:Ext (fun _=>False) w8 w10:=Ext.of_grown hgr9 (fun q hq=>by cases hq);have hb9:H9 WF.heap.size WF w10:=hb8.trans (hx9.below hb8.size (fun q h=>h.elim));have hS9:S8 w10:=HSB8.out _ hb9;obtain⟨aoW,cW,hv9⟩:=aD hown9;subst hv9;refine hK _ _ hS9 ?_;clear hK;(try go_simp);refine zT 19 rfl HCE8.out ?_;(try go_simp);refine zT 20 rfl HCE8.out ?_;(try go_simp);have hrow9:=(hb9.block m hmF).trans HRF.out;have hfz:=(rowAt hrow9 13 rfl).2;have x0:=HCE8.out w10 hS9;refine zK rfl fun K' hK=> ?_;go_simp;refine hK _ _ ?_;clear hK;refine⟨by kernel_rfl, ?_⟩;have hFIN:dA m p L X V2 I2 (S++[(nm,V.length)]) O w (w10.setCell ⟨m,13,none⟩ (.slice aoW (S.length+1) cW)):=ny HB1.out HX15.out HO15.out HK5.out HXF.out HRF.out HOF.out hb9 (by have:=hb8.size;exact hb8.size) (by rw[List.map_append];exact hown9) hlS;have HFIN:=zH hFIN;clear hFIN;go_wp2
   go_end0
   exact⟨rfl,HFIN.out⟩
  ·have hce8:∀W,S8 W→W.cell? ⟨m,13,none⟩=some (.slice (some ⟨b2,off2,fp2⟩) S.length s5.wC):=fun W hW=>by
    rw[←hW2];exact(rowAt (((hss8 W hW).block m hmF).trans HRF.out) 13 rfl).1
   have HCE8:=zH hce8;have HSB8:=zH hsb8;have HSS8:=zH hss8;clear hce8 hsb8 hss8 hS8;refine aj 21 S8 (by kernel_rfl) ?_;refine zT 0 rfl HCE8.out ?_;(try go_simp);refine zT 1 rfl HCE8.out ?_;(try go_simp);refine zT 2 rfl HCE8.out ?_;(try go_simp);refine zT 3 rfl HCE8.out ?_;(try go_simp);refine zT 4 rfl HCE8.out ?_;(try go_simp);refine zT 5 rfl HCE8.out ?_;(try go_simp);refine zT 6 rfl HCE8.out ?_;(try go_simp);refine zT 7 rfl HCE8.out ?_;(try go_simp);refine zT 8 rfl HCE8.out ?_;(try go_simp);refine zT 9 rfl HCE8.out ?_;(try go_simp);refine zT 10 rfl HCE8.out ?_;(try go_simp);refine zT 11 rfl HCE8.out ?_;(try go_simp);refine zT 12 rfl HCE8.out ?_;(try go_simp);refine zT 13 rfl HCE8.out ?_;(try go_simp);refine zT 14 rfl HCE8.out ?_;(try go_simp);refine zT 15 rfl HCE8.out ?_;(try go_simp);refine zT 16 rfl HCE8.out ?_;(try go_simp);refine zO 17 rfl fun K' hK=> ?_;go_simp;obtain⟨G,hG⟩:=zE WF.heap.size;obtain⟨w8,hw8⟩:=zE ((WF.alloc (.cells #[.int .i64 (V.length:Int)] 3)).drew);(try rw[hG]);(try rw[hw8]);have hb8:H9 WF.heap.size WF w8:=by rw[←hw8];exact((Hw _ _).alloc (He _) _).drew
   have hrG:w8.heap[G]?=some (.cells #[.int .i64 (V.length:Int)] 3 (0,0)):=by rw[←hw8,←hG];exact alloc_at _ _
   have hS88:S8 w8:=HSB8.out _ hb8;refine hK _ _ hS88 ?_;clear hK;(try go_simp);refine zO 18 rfl fun K' hK=> ?_;have hsn:aG (fun x:ByteArray×Nat=>#[.int .i64 (x.2:Int)]) 1 w8 w8.heap.size (some ⟨b2,off2,fp2⟩) S:=by rw[←hW2];exact HSF.out.stay (Ext.of_below_size (M:=fun _=>False) hb8) (fun _ _ _ h=>h)
   have hold:=iM (f:=fun x:ByteArray×Nat=>Value.int .i64 (x.2:Int)) hsn;refine bI (.tmp 76) (.tmp 78) 35 rfl 3 i0 _ 1 8 underlying35 hi0 hi1 hi2 hi3 rfl (by decide) (some ⟨b2,off2,fp2⟩) S.length S.length (S.map fun x:ByteArray×Nat=>Value.int .i64 (x.2:Int)) rfl (fun h=>by cases h) (jK _ _) hold ⟨G,0,none⟩ 1 1 [.int .i64 (V.length:Int)] rfl rfl (fun jj uu hu=>by rw[Addr.add_lit,Hf,cell_of_row _ _ _ _ _ _ hrG];simpa using hu) (by simp[Value.oneCell']) (by omega) (by unfold maxLen;omega) (by omega) ?_;intro v9 w10 hown9 hgr9;have hx9:Ext (fun _=>False) w8 w10:=Ext.of_grown hgr9 (fun q hq=>by cases hq);have hb9:H9 WF.heap.size WF w10:=hb8.trans (hx9.below hb8.size (fun q h=>h.elim));have hS9:S8 w10:=HSB8.out _ hb9;obtain⟨aoW,cW,hv9⟩:=aD hown9;subst hv9;refine hK _ _ hS9 ?_;clear hK;(try go_simp);refine zT 19 rfl HCE8.out ?_;(try go_simp);refine zT 20 rfl HCE8.out ?_;(try go_simp);have hrow9:=(hb9.block m hmF).trans HRF.out;have hfz:=(rowAt hrow9 13 rfl).2;have x0:=HCE8.out w10 hS9;refine zK rfl fun K' hK=> ?_;go_simp;refine hK _ _ ?_;clear hK;refine⟨by kernel_rfl, ?_⟩;have hFIN:dA m p L X V2 I2 (S++[(nm,V.length)]) O w (w10.setCell ⟨m,13,none⟩ (.slice aoW (S.length+1) cW)):=ny HB1.out HX15.out HO15.out HK5.out HXF.out HRF.out HOF.out hb9 (by have:=hb8.size;exact hb8.size) (by rw[List.map_append];exact hown9) hlS;have HFIN:=zH hFIN;clear hFIN;go_wp2
   go_end0
   exact⟨rfl,HFIN.out⟩
 ·have hce7:∀W,S7 W→W.cell? ⟨m,12,none⟩=some (.slice (some ⟨b,off,fp⟩) S.length s5.sC)∧W.cell? ⟨N,3,none⟩=some (.string nm):=fun W hW=>by
   have r1:=((hss7 W hW).block N hN5).trans hr5;have r2:=(k5.grow (hss7 W hW)).row;exact⟨by rw[←hA];exact(rowAt r2 12 rfl).1,(rowAt r1 3 rfl).1⟩
  have HCE7:=zH hce7;have HSS7:=zH hss7;have HSB7:=zH hsb7;clear hce7 hss7 hsb7 hS7 hr5 k5;refine aj 22 S7 (by kernel_rfl) ?_;refine zT 0 rfl HCE7.out ?_;(try go_simp);refine zT 1 rfl HCE7.out ?_;(try go_simp);refine zT 2 rfl HCE7.out ?_;(try go_simp);refine zT 3 rfl HCE7.out ?_;(try go_simp);refine zT 4 rfl HCE7.out ?_;(try go_simp);refine zT 5 rfl HCE7.out ?_;(try go_simp);refine zT 6 rfl HCE7.out ?_;(try go_simp);refine zT 7 rfl HCE7.out ?_;(try go_simp);refine zT 8 rfl HCE7.out ?_;(try go_simp);refine zT 9 rfl HCE7.out ?_;(try go_simp);refine zT 10 rfl HCE7.out ?_;(try go_simp);refine zT 11 rfl HCE7.out ?_;(try go_simp);refine zT 12 rfl HCE7.out ?_;(try go_simp);refine zT 13 rfl HCE7.out ?_;(try go_simp);refine zT 14 rfl HCE7.out ?_;(try go_simp);refine zT 15 rfl HCE7.out ?_;(try go_simp);refine zT 16 rfl HCE7.out ?_;(try go_simp);refine zT 17 rfl HCE7.out ?_;(try go_simp);refine zO 18 rfl fun K' hK=> ?_;go_simp;obtain⟨G,hG⟩:=zE w5.heap.size;obtain⟨w8,hw8⟩:=zE ((w5.alloc (.cells #[.string nm] 9)).drew);(try rw[hG]);(try rw[hw8]);have hb8:H9 w5.heap.size w5 w8:=by rw[←hw8];exact((Hw _ _).alloc (He _) _).drew
  have hrG:w8.heap[G]?=some (.cells #[.string nm] 9 (0,0)):=by rw[←hw8,←hG];exact alloc_at _ _
  have hS8:S7 w8:=HSB7.out _ hb8;refine hK _ _ hS8 ?_;clear hK;(try go_simp);refine zO 19 rfl fun K' hK=> ?_;have hsn:aG (fun x:ByteArray×Nat=>#[.string x.1]) 1 w8 w8.heap.size (some ⟨b,off,fp⟩) S:=by rw[←hA];exact(HK5.out.grow hb8).seen
  have hold:=iM (f:=fun x:ByteArray×Nat=>Value.string x.1) hsn;refine bI (.tmp 54) (.tmp 57) 223 rfl 9 i0 _ 1 16 underlying223 hi0 hi1 hi2 hi3 rfl (by decide) (some ⟨b,off,fp⟩) S.length S.length (S.map fun x:ByteArray×Nat=>Value.string x.1) rfl (fun h=>by cases h) (jK _ _) hold ⟨G,0,none⟩ 1 1 [.string nm] rfl rfl (fun jj uu hu=>by rw[Addr.add_lit,Hf,cell_of_row _ _ _ _ _ _ hrG];simpa using hu) (by simp[Value.oneCell']) (by omega) (by unfold maxLen;omega) (by omega) ?_;intro v9 w9 hown9 hgr9;have hx9:Ext (fun _=>False) w8 w9:=Ext.of_grown hgr9 (fun q hq=>by cases hq);have hb9:H9 w5.heap.size w5 w9:=hb8.trans (hx9.below hb8.size (fun q h=>h.elim));have hS9:S7 w9:=HSB7.out _ hb9;obtain⟨ao9,c9,hv9⟩:=aD hown9;subst hv9;refine hK _ _ hS9 ?_;clear hK;(try go_simp);refine zT 20 rfl HCE7.out ?_;(try go_simp);refine zT 21 rfl HCE7.out ?_;(try go_simp);have hk9:=HK5.out.grow hb9;have hfz:=(rowAt hk9.row 12 rfl).2;obtain⟨x0,x1⟩:=HCE7.out w9 hS9;refine zK rfl fun K' hK=> ?_;go_simp;refine hK _ _ ?_;clear hK;refine⟨by kernel_rfl, ?_⟩;obtain⟨WF,hWF⟩:=zE (w9.setCell ⟨m,12,none⟩ (.slice ao9 (S.length+1) c9));(try rw[hWF]);have hxF:Ext (·=m) w9 WF:=by rw[←hWF];exact Ext.set1 w9 m 12 _
  have hrowF:WF.heap[m]?=some (.cells (Gs p X s5 V2.length I2.length (.slice ao9 (S.length+1) c9) (.slice s5.wA S.length s5.wC)) 236 (0,0)):=by rw[←hWF];exact Hz w9 m 12 _ _ _ hk9.row
  have hmw8:m<w8.heap.size:=by have:=hb8.size;omega
  have hownF:WF.ownsRow w5.heap.size 9 1 (.slice ao9 (S.length+1) c9) (S.length+1) ((S++[(nm,V.length)]).map fun x:ByteArray×Nat=>Value.string x.1):=by
   rw[List.map_append];exact aT (ah hown9 hxF (fun k hk e=>by have:=(ai hown9 hk).1;omega)) hb8.size
  have hx5F:Ext (·=m) w5 WF:=(Ext.of_below_size (M:=(·=m)) hb9).trans hxF (fun q h=> .inl h);have hseF:aG (fun x:ByteArray×Nat=>#[.int .i64 (x.2:Int)]) 1 WF WF.heap.size s5.wA S:=HK5.out.whic.stay hx5F (fun a hne e=>(HK5.out.ns a hne (.inr e)).1);have hmF:=ae hrowF;have HXF:=zH hx5F;have HRF:=zH hrowF;have HOF:=zH hownF;have HSF:=zH hseF;have hcs2:=HK5.out.cS.2;have hcI2:(S.length:Int)≤(s5.wC:Int):=by omega
  clear hxF hrowF hmw8 hownF hx5F hseF hWF hk9 hfz x0 x1 hown9 hgr9 hx9 hb9 hS9 hold hsn hrG hb8 hw8 hS8 hG hm5 hN5 hS0 i0 hi0 hi1 hi2 hi3 hcs hcI;obtain⟨i0,hi0,hi1,hi2,hi3⟩:=info_parts iP
  go_upto_region 8 with(fail)
  obtain⟨S8,hS8⟩:=zE ((fun w'=>H9 WF.heap.size WF w'):H5→Prop);have hS80:S8 WF.drew:=by rw[←hS8];exact(Hw _ _).drew
  have hss8:∀W,S8 W→H9 WF.heap.size WF W:=fun W hW=>by rw[←hS8] at hW;exact hW
  have hsb8:∀W,H9 WF.heap.size WF W→S8 W:=fun W hW=>by rw[←hS8];exact hW
  rcases hW2:s5.wA with _|⟨b2,off2,fp2⟩
  ·have hce8:∀W,S8 W→W.cell? ⟨m,13,none⟩=some (.slice none S.length s5.wC):=fun W hW=>by
    rw[←hW2];exact(rowAt (((hss8 W hW).block m hmF).trans HRF.out) 13 rfl).1
   have HCE8:=zH hce8;have HSB8:=zH hsb8;have HSS8:=zH hss8;clear hce8 hsb8 hss8 hS8;refine aj 21 S8 (by kernel_rfl) ?_;refine zT 0 rfl HCE8.out ?_;(try go_simp);refine zT 1 rfl HCE8.out ?_;(try go_simp);refine zT 2 rfl HCE8.out ?_;(try go_simp);refine zT 3 rfl HCE8.out ?_;(try go_simp);refine zT 4 rfl HCE8.out ?_;(try go_simp);refine zT 5 rfl HCE8.out ?_;(try go_simp);refine zT 6 rfl HCE8.out ?_;(try go_simp);refine zT 7 rfl HCE8.out ?_;(try go_simp);refine zT 8 rfl HCE8.out ?_;(try go_simp);refine zT 9 rfl HCE8.out ?_;(try go_simp);refine zT 10 rfl HCE8.out ?_;(try go_simp);refine zT 11 rfl HCE8.out ?_;(try go_simp);refine zT 12 rfl HCE8.out ?_;(try go_simp);refine zT 13 rfl HCE8.out ?_;(try go_simp);refine zT 14 rfl HCE8.out ?_;(try go_simp);refine zT 15 rfl HCE8.out ?_;(try go_simp);refine zT 16 rfl HCE8.out ?_;(try go_simp);refine zO 17 rfl fun K' hK=> ?_;go_simp;obtain⟨G,hG⟩:=zE WF.heap.size;obtain⟨w8,hw8⟩:=zE ((WF.alloc (.cells #[.int .i64 (V.length:Int)] 3)).drew);(try rw[hG]);(try rw[hw8]);have hb8:H9 WF.heap.size WF w8:=by rw[←hw8];exact((Hw _ _).alloc (He _) _).drew
   have hrG:w8.heap[G]?=some (.cells #[.int .i64 (V.length:Int)] 3 (0,0)):=by rw[←hw8,←hG];exact alloc_at _ _
   have hS88:S8 w8:=HSB8.out _ hb8;refine hK _ _ hS88 ?_;clear hK;(try go_simp);refine zO 18 rfl fun K' hK=> ?_;have hsn:aG (fun x:ByteArray×Nat=>#[.int .i64 (x.2:Int)]) 1 w8 w8.heap.size none S:=by rw[←hW2];exact HSF.out.stay (Ext.of_below_size (M:=fun _=>False) hb8) (fun _ _ _ h=>h)
   have hsz:Ia (S.length=0):=by
    by_cases h:S=[]
    ·unfold Ia;rw[h];rfl
    ·obtain⟨_,_,h1,_⟩:=hsn h;cases h1
   have hold:=iM (f:=fun x:ByteArray×Nat=>Value.int .i64 (x.2:Int)) hsn;refine bI (.tmp 76) (.tmp 78) 35 rfl 3 i0 _ 1 8 underlying35 hi0 hi1 hi2 hi3 rfl (by decide) none S.length S.length (S.map fun x:ByteArray×Nat=>Value.int .i64 (x.2:Int)) rfl (fun _=>⟨hsz.out,hsz.out⟩) (jK _ _) hold ⟨G,0,none⟩ 1 1 [.int .i64 (V.length:Int)] rfl rfl (fun jj uu hu=>by rw[Addr.add_lit,Hf,cell_of_row _ _ _ _ _ _ hrG];simpa using hu) (by simp[Value.oneCell']) (by omega) (by unfold maxLen;omega) (by omega) ?_;intro v9 w10 hown9 hgr9;have hx9:Ext (fun _=>False) w8 w10:=Ext.of_grown hgr9 (fun q hq=>by cases hq);have hb9:H9 WF.heap.size WF w10:=hb8.trans (hx9.below hb8.size (fun q h=>h.elim));have hS9:S8 w10:=HSB8.out _ hb9;obtain⟨aoW,cW,hv9⟩:=aD hown9;subst hv9;refine hK _ _ hS9 ?_;clear hK;(try go_simp);refine zT 19 rfl HCE8.out ?_;(try go_simp);refine zT 20 rfl HCE8.out ?_;(try go_simp);have hrow9:=(hb9.block m hmF).trans HRF.out;have hfz:=(rowAt hrow9 13 rfl).2;have x0:=HCE8.out w10 hS9;refine zK rfl fun K' hK=> ?_;go_simp;refine hK _ _ ?_;clear hK;refine⟨by kernel_rfl, ?_⟩;have hFIN:dA m p L X V2 I2 (S++[(nm,V.length)]) O w (w10.setCell ⟨m,13,none⟩ (.slice aoW (S.length+1) cW)):=ny HB1.out HX15.out HO15.out HK5.out HXF.out HRF.out HOF.out hb9 (by have:=hb8.size;exact hb8.size) (by rw[List.map_append];exact hown9) hlS;have HFIN:=zH hFIN;clear hFIN;go_wp2
   go_end0
   exact⟨rfl,HFIN.out⟩
  ·have hce8:∀W,S8 W→W.cell? ⟨m,13,none⟩=some (.slice (some ⟨b2,off2,fp2⟩) S.length s5.wC):=fun W hW=>by
    rw[←hW2];exact(rowAt (((hss8 W hW).block m hmF).trans HRF.out) 13 rfl).1
   have HCE8:=zH hce8;have HSB8:=zH hsb8;have HSS8:=zH hss8;clear hce8 hsb8 hss8 hS8;refine aj 21 S8 (by kernel_rfl) ?_;refine zT 0 rfl HCE8.out ?_;(try go_simp);refine zT 1 rfl HCE8.out ?_;(try go_simp);refine zT 2 rfl HCE8.out ?_;(try go_simp);refine zT 3 rfl HCE8.out ?_;(try go_simp);refine zT 4 rfl HCE8.out ?_;(try go_simp);refine zT 5 rfl HCE8.out ?_;(try go_simp);refine zT 6 rfl HCE8.out ?_;(try go_simp);refine zT 7 rfl HCE8.out ?_;(try go_simp);refine zT 8 rfl HCE8.out ?_;(try go_simp);refine zT 9 rfl HCE8.out ?_;(try go_simp);refine zT 10 rfl HCE8.out ?_;(try go_simp);refine zT 11 rfl HCE8.out ?_;(try go_simp);refine zT 12 rfl HCE8.out ?_;(try go_simp);refine zT 13 rfl HCE8.out ?_;(try go_simp);refine zT 14 rfl HCE8.out ?_;(try go_simp);refine zT 15 rfl HCE8.out ?_;(try go_simp);refine zT 16 rfl HCE8.out ?_;(try go_simp);refine zO 17 rfl fun K' hK=> ?_;go_simp;obtain⟨G,hG⟩:=zE WF.heap.size;obtain⟨w8,hw8⟩:=zE ((WF.alloc (.cells #[.int .i64 (V.length:Int)] 3)).drew);(try rw[hG]);(try rw[hw8]);have hb8:H9 WF.heap.size WF w8:=by rw[←hw8];exact((Hw _ _).alloc (He _) _).drew
   have hrG:w8.heap[G]?=some (.cells #[.int .i64 (V.length:Int)] 3 (0,0)):=by rw[←hw8,←hG];exact alloc_at _ _
   have hS88:S8 w8:=HSB8.out _ hb8;refine hK _ _ hS88 ?_;clear hK;(try go_simp);refine zO 18 rfl fun K' hK=> ?_;have hsn:aG (fun x:ByteArray×Nat=>#[.int .i64 (x.2:Int)]) 1 w8 w8.heap.size (some ⟨b2,off2,fp2⟩) S:=by rw[←hW2];exact HSF.out.stay (Ext.of_below_size (M:=fun _=>False) hb8) (fun _ _ _ h=>h)
   have hold:=iM (f:=fun x:ByteArray×Nat=>Value.int .i64 (x.2:Int)) hsn;refine bI (.tmp 76) (.tmp 78) 35 rfl 3 i0 _ 1 8 underlying35 hi0 hi1 hi2 hi3 rfl (by decide) (some ⟨b2,off2,fp2⟩) S.length S.length (S.map fun x:ByteArray×Nat=>Value.int .i64 (x.2:Int)) rfl (fun h=>by cases h) (jK _ _) hold ⟨G,0,none⟩ 1 1 [.int .i64 (V.length:Int)] rfl rfl (fun jj uu hu=>by rw[Addr.add_lit,Hf,cell_of_row _ _ _ _ _ _ hrG];simpa using hu) (by simp[Value.oneCell']) (by omega) (by unfold maxLen;omega) (by omega) ?_;intro v9 w10 hown9 hgr9;have hx9:Ext (fun _=>False) w8 w10:=Ext.of_grown hgr9 (fun q hq=>by cases hq);have hb9:H9 WF.heap.size WF w10:=hb8.trans (hx9.below hb8.size (fun q h=>h.elim));have hS9:S8 w10:=HSB8.out _ hb9;obtain⟨aoW,cW,hv9⟩:=aD hown9;subst hv9;refine hK _ _ hS9 ?_;clear hK;(try go_simp);refine zT 19 rfl HCE8.out ?_;(try go_simp);refine zT 20 rfl HCE8.out ?_;(try go_simp);have hrow9:=(hb9.block m hmF).trans HRF.out;have hfz:=(rowAt hrow9 13 rfl).2;have x0:=HCE8.out w10 hS9;refine zK rfl fun K' hK=> ?_;go_simp;refine hK _ _ ?_;clear hK;refine⟨by kernel_rfl, ?_⟩;have hFIN:dA m p L X V2 I2 (S++[(nm,V.length)]) O w (w10.setCell ⟨m,13,none⟩ (.slice aoW (S.length+1) cW)):=ny HB1.out HX15.out HO15.out HK5.out HXF.out HRF.out HOF.out hb9 (by have:=hb8.size;exact hb8.size) (by rw[List.map_append];exact hown9) hlS;have HFIN:=zH hFIN;clear hFIN;go_wp2
   go_end0
   exact⟨rfl,HFIN.out⟩
def BK (m:Nat)(p:Pg)(L:Nat)(X:Fx)(V:List Ty)(I:List fV)(S:List (ByteArray×Nat))(s:Sm)(V2:List Ty)(I2:List fV)(S2:List (ByteArray×Nat)):Prop:=
 ∀(W:H5)(O:Nat→Prop)(sl:Sl),Mk m p L X V I S O sl W→Calls prog 180 #[.pointer (some ⟨m,0,none⟩),.agg s.cells] W fun e w'=>e= .returned (.tuple #[])∧dA m p L X V2 I2 S2 O W w'
inductive jY (m:Nat) (p:Pg) (L:Nat) (X:Fx):List Ty→List fV→List (ByteArray×Nat)→List Sm→List Ty→List fV→Prop
 |nil (V:List Ty) (I:List fV) (S:List (ByteArray×Nat)):jY m p L X V I S [] V I
 |cons (V V1 V2:List Ty) (I I1 I2:List fV) (S S1:List (ByteArray×Nat)) (s:Sm) (l:List Sm):BK m p L X V I S s V1 I1 S1→jY m p L X V1 I1 S1 l V2 I2→jY m p L X V I S (s::l) V2 I2
def Gt (m:Nat)(p:Pg)(L:Nat)(X:Fx)(V2:List Ty)(I2:List fV)(O:Nat→Prop)(w:H5)(k:Value)(wr:H5):Prop:=
 ∃(j:Nat) (V:List Ty) (I:List fV) (S:List (ByteArray×Nat)) (O':Nat→Prop) (s:Sl),k= .int .i64 (j:Int)∧j≤p.ss.length∧jY m p L X V I S (p.ss.drop j) V2 I2∧Mk m p L X V I S O' s wr∧Ext (fun q=>q=m∨O q) w wr∧∀k,O' k→O k∨w.heap.size≤k
theorem sV {m:Nat}{p:Pg}{L:Nat}{X:Fx}{V V2:List Ty}{I I2:List fV}{O:Nat→Prop}{s:Sl}(w:H5)(h:Mk m p L X V I [] O s w)(hk:jY m p L X V I [] p.ss V2 I2)(hss:p.ss.length≤1000)(hne:p.ss≠[]):
  Calls prog 132 #[.pointer (some ⟨m,0,none⟩),.slice p.bA p.ss.length p.bC] w fun e w'=>e= .returned (.tuple #[])∧dA m p L X V2 I2 [] O w w':=by
 obtain⟨b,off,hA,hbL,_⟩:=h.pg.st hne;have hmw:=ae h.row;have c12:w.cell? ⟨m,12,none⟩=some (.slice s.sA 0 s.sC):=(rowAt h.row 12 rfl).1;have H:=zH h;have HA:=zH hA;have HK:=zH hk;have HL:=h.hm;rw[hA];clear h hA hk hne;go_enter func132,ntmps132
 go_upto_region 2 with(fail)
 clear c12
 go_loopw [5] (fun k wr=>Gt m p L X V2 I2 O w k wr) (fun k _=>p.ss.length-(intOf k).toNat)
 case atStart=>exact⟨0,V,I,[],O,s,rfl,Hg _,HK.out,H.out,Ext.refl _ _,fun k hk=> .inl hk⟩
 case round=>
  obtain⟨j,V1,I1,S1,O1,s1,rfl,hj,hok,hmk,hx,ho⟩:=hrel;have HMK:=zH hmk;have HX:=zH hx;have HO:=zH ho
  by_cases hjl:j<p.ss.length
  ·have hjI:(j:Int)<(p.ss.length:Int):=by omega
   obtain⟨x,hs⟩:∃x,p.ss[j]?=some x:=⟨_,GN hjl⟩
   have hdrop:p.ss.drop j=x::p.ss.drop (j+1):=by
    rw[List.drop_eq_getElem_cons hjl];have:p.ss[j]=x:=by rw[GN hjl] at hs;exact Hl hs
    rw[this]
   rw[hdrop] at hok;cases hok with
   |cons _ V3 _ _ I3 _ _ S3 _ _ hst hrest=>
    have hsm:=GV hs;obtain⟨⟨ao,n,cp,hE⟩,_⟩:=hmk.pg.sm hsm;obtain⟨b',off',h1,h2,h3⟩:=hmk.pg.st (by intro e;rw[e] at hjl;simp at hjl);rw[HA.out] at h1;simp only[Option.some.injEq,Addr.mk.injEq,and_true] at h1;obtain⟨rfl,rfl⟩:=h1;have k0:=h3 j x hs 0 _ rfl;have k1:=h3 j x hs 1 _ rfl;have k2:=h3 j x hs 2 _ rfl;have k3:=h3 j x hs 3 _ rfl;have k4:=h3 j x hs 4 _ rfl;have k5:=h3 j x hs 5 _ rfl;have k6:=h3 j x hs 6 _ rfl;have k7:=h3 j x hs 7 _ rfl;have k8:=h3 j x hs 8 _ rfl;rw[Nat.add_zero] at k0;rw[hE] at k4;have hblc:b<wr.heap.size:=Hd h2 hmk.pg.lo;have hjc:j≤p.bC:=by have:=hmk.pg.cb;omega
    have hSTM:=hst wr O1 s1 hmk;unfold Sm.cells at hSTM;rw[hE] at hSTM;have HSTM:=zH hSTM;have HREST:=zH hrest;clear hmk hx ho hs hdrop hst hrest hsm hE h3 hSTM
    go_wp2_with (go_at_call 180;refine HSTM.out.mono ?_;rintro en w5 ⟨rfl,O5,s5,hmk5,hx5,ho5⟩;have HMK5:=zH hmk5;have HX5:=zH hx5;have HO5:=zH ho5;clear hmk5 hx5 ho5)
    go_roundw
    case rel=>
     have hmv:dA m p L X V3 I3 S3 O w w5:=dA.trans HX.out HO.out ⟨O5,s5,HMK5.out,HX5.out,HO5.out⟩;refine⟨j+1,V3,I3,S3,O5,s5,by go_num,hjl,HREST.out,HMK5.out,HX.out.trans HX5.out (fun q hq=> ?_),fun k hk=> ?_⟩
     ·rcases hq with h|h
      ·exact .inl (.inl h)
      ·rcases HO.out q h with h|h
       ·exact .inl (.inr h)
       ·exact .inr h
     ·rcases HO5.out k hk with h|h
      ·exact HO.out k h
      ·exact .inr (Nat.le_trans HX.out.size h)
    case measure=>simp[intOf];omega
  ·have hje:j=p.ss.length:=by omega
   have hdz:p.ss.drop j=[]:=by rw[hje];simp
   rw[hdz] at hok;cases hok;have hrc:=hmk.row;have hcl:=ae hrc;have f12:wr.frozen? ⟨m,12,none⟩=false:=(rowAt hrc 12 rfl).2;have c12:wr.cell? ⟨m,12,none⟩=some (.slice s1.sA S1.length s1.sC):=(rowAt hrc 12 rfl).1;have f13:wr.frozen? ⟨m,13,none⟩=false:=(rowAt hrc 13 rfl).2;have c13:wr.cell? ⟨m,13,none⟩=some (.slice s1.wA S1.length s1.wC):=(rowAt hrc 13 rfl).1;have hcS:=hmk.cS;clear hmk hx hrc ho;go_wp2
   go_end0
   have hx2:Ext (·=m) wr ((wr.setCell ⟨m,12,none⟩ (.slice s1.sA 0 s1.sC)).setCell ⟨m,13,none⟩ (.slice s1.wA 0 s1.wC)):=(Ext.set1 wr m 12 _).trans (Ext.set1 _ m 13 _) (fun q h=> .inl h);have k:=HMK.out;have hO1:∀q,O1 q→q≠m:=fun q h=>by have:=(k.ol q h).1;omega
   refine⟨rfl,O1,s1,⟨?_,k.pg.ext hx2 (fun q hq e=>by omega),k.hm,ah k.vars hx2 (fun q hq e=>hO1 q (k.ov q hq) e),ah k.ins hx2 (fun q hq e=>hO1 q (k.oi q hq) e),k.dis,k.ov,k.oi,fun q hq=>⟨(k.ol q hq).1,Hd (k.ol q hq).2 hx2.size⟩,fun h=>absurd rfl h,fun h=>absurd rfl h,fun a h=>absurd rfl h,k.lV,k.lI,by simp,⟨Hg _,Hg _⟩⟩,HX.out.trans hx2 (fun q h=> .inl (.inl h)),HO.out⟩;exact Hz _ m 13 _ _ _ (Hz wr m 12 _ _ _ k.row)
def fV.ins (i:fV):Ins:=⟨i.op,i.d,i.a,0,i.f,i.n,⟨#[]⟩,.slice none 0 0,.slice none 0 0,0,0,i.ln,i.cl,[]⟩
def Cn (y:Ty):Vr:=⟨y.1,y.2,0⟩
def mE (p:Pg)(V:List Ty)(I:List fV)(s:Sl):Fn:=
 ⟨⟨p.nm,0,s.vA,V.length,s.vC,p.ret.1,p.ret.2,0,none,0,0,s.iA,s.iC,I.map fV.ins⟩,V.map Cn,[],I.map fun _=>[]⟩
def EJ (p:Pg):St:=⟨⟨p.snm,p.fA,p.fs.length,p.fC,p.sl,p.sc⟩,p.fs⟩
def ji (p:Pg)(V:List Ty)(I:List fV)(s:Sl)(fA:Nat)(fC:Nat):Mo:=⟨some ⟨p.pA,0,none⟩,p.pC,some ⟨fA,0,none⟩,fC,[EJ p],[mE p V I s]⟩
def X0 (p:Pg):Fx:=⟨p.ret,p.nm,.int .i64 0,.bool p.ret.1,.string p.ret.2,.int .i64 0,.slice none 0 0,.slice none 0 0,.slice none 0 0⟩
def Fy (p:Pg)(nV nI:Nat)(s:Sl):List Value:=[.string p.nm,.int .i64 0,.slice s.vA nV s.vC,.bool p.ret.1,.string p.ret.2,.int .i64 0,.slice none 0 0,.slice s.iA nI s.iC]
theorem Co (I:List fV):I.flatMap Ga=(I.map fV.ins).flatMap fun x=>x.cells.toList:=by
 induction I with
 |nil=>rfl
 |cons a I ih=>rw[List.flatMap_cons,List.map_cons,List.flatMap_cons,ih];rfl
theorem Cq (V:List Ty):V.flatMap Gb=(V.map Cn).flatMap fun x=>x.cells.toList:=by
 induction V with
 |nil=>rfl
 |cons a V ih=>rw[List.flatMap_cons,List.map_cons,List.flatMap_cons,ih];rfl
theorem DL {p:Pg}{L:Nat}{V:List Ty}{I:List fV}{s:Sl}{w:H5}{fA fC B1 B2 B3:Nat}(hp:jh p L w)(hn:p.nm.size≤maxLen)(hsn:p.snm.size≤maxLen)(hfn:∀f∈p.fs,f.nm.size≤maxLen)
  (hv:w.ownsRow B1 34 3 (.slice s.vA V.length s.vC) V.length (V.flatMap Gb))(hi:w.ownsRow B2 42 13 (.slice s.iA I.length s.iC) I.length (I.flatMap Ga))
  (hf:w.ownsRow B3 38 8 (.slice (some ⟨fA,0,none⟩) 1 fC) 1 (Fy p V.length I.length s))(lV:V.length≤1000)(lI:I.length≤1000):(ji p V I s fA fC).inn w:=by
 have hvr:aG Vr.cells 3 w w.heap.size s.vA (V.map Cn):=eO (cells:=Vr.cells) (m:=3) (fun _=>rfl) (by rw[←Cq];exact hv) (by simp);have hir:dM w w.heap.size s.iA (I.map fV.ins):=eO (cells:=Ins.cells) (m:=13) (fun _=>rfl) (by rw[←Co];exact hi) (by simp);have hml:maxLen=9223372036854775807:=rfl;refine⟨fun _=>⟨p.pA,0,rfl,Hd hp.pA hp.lo,fun i x hx k u hu=> ?_⟩,eO (cells:=Fn.cells) (m:=8) (fun _=>rfl) (l:=[mE p V I s]) (n:=1) (c:=fC) (base:=B3) (e:=38) ?_ rfl,fun x hx=> ?_,fun x hx=> ?_,by simp[ji,maxLen],by simp[ji,maxLen]⟩
 ·cases i with
  |succ i=>simp[ji] at hx
  |zero=>
   obtain rfl:EJ p=x:=by simpa[ji] using hx
   have:=hp.s k u hu;simpa using this
 ·simp only[List.flatMap_cons,List.flatMap_nil,List.append_nil]
  have he:(mE p V I s).cells.toList=Fy p V.length I.length s:=by simp[mE,Fn.cells,dQ.cells,Fy]
  rw[he];exact hf
 ·obtain rfl:x=EJ p:=by simpa[ji] using hx
  exact⟨rfl,fun hne=>(let ⟨b,off,h1,h2,h3⟩:=hp.fd hne;⟨b,off,h1,Hd h2 hp.lo,h3⟩),by have:=hp.lfs;show p.fs.length≤_;omega,hsn,hfn⟩
 ·obtain rfl:x=mE p V I s:=by simpa[ji] using hx
  refine⟨⟨hir,fun x hx=> ?_,by simp only[mE,List.length_map];omega,⟨V.map Cn,by simp[mE],hvr⟩,by simp only[mE];omega,by simp[mE,maxLen],⟨[],rfl,fun h=>absurd rfl h⟩⟩,hn,by simp[mE],hvr,rfl,fun h=>absurd rfl h,by simp[mE],fun k i l h1 h2=> ?_⟩
  ·simp only[mE,List.mem_map] at hx
   obtain⟨y,_,rfl⟩:=hx;exact⟨⟨⟨none,0,rfl⟩,none,0,0,rfl⟩,none,0,rfl,fun h=>absurd rfl h⟩
  ·simp only[mE,List.getElem?_map,Option.map_eq_some_iff] at h1 h2
   obtain⟨y,_,rfl⟩:=h1;obtain⟨_,_,rfl⟩:=h2;exact⟨none,0,rfl,fun h=>absurd rfl h⟩
def BL (w:H5)(p:Pg)(V:List Ty)(I:List fV)(e:Ending)(w':H5):Prop:=
 ∃s fA fC,e= .returned (.tuple #[.agg (ji p V I s fA fC).cells,.agg #[.int .i64 0,.int .i64 0,.int .i64 0,.int .i64 0]])∧w'.ownsRow w.heap.size 34 3 (.slice s.vA V.length s.vC) V.length (V.flatMap Gb)∧w'.ownsRow w.heap.size 42 13 (.slice s.iA I.length s.iC) I.length (I.flatMap Ga)∧w'.ownsRow w.heap.size 38 8 (.slice (some ⟨fA,0,none⟩) 1 fC) 1 (Fy p V.length I.length s)∧H9 w.heap.size w w'
theorem AA:(prog.info? 38).map (fun i=>(i.zero,i.size,i.bytes))=some (some (.agg #[.string ⟨#[]⟩,.int .i64 0,.slice none 0 0,.bool false,.string ⟨#[]⟩,.int .i64 0,.slice none 0 0,.slice none 0 0]),8,128):=by kernel_rfl
theorem mF {w:H5}:∀(c:Array Value),c.size=4→(storeCells ⟨w.heap.size,0,none⟩ [.int .i64 0,.int .i64 0,.int .i64 0,.int .i64 0] 0).run prog (w.alloc (.cells c 113))= .ok () (w.alloc (.cells #[.int .i64 0,.int .i64 0,.int .i64 0,.int .i64 0] 113)):=fun c hc=>
 run_storeCells_new (P:=prog) w 113 c #[.int .i64 0,.int .i64 0,.int .i64 0,.int .i64 0] (by show _=some 4;kernel_rfl) hc (by simp[Value.oneCell'])
theorem DN {p:Pg}{w:H5}:∀(c:Array Value),c.size=7→(storeCells ⟨w.heap.size,0,none⟩ [.string p.nm,.slice none 0 0,.bool p.ret.1,.string p.ret.2,.slice p.bA p.ss.length p.bC,.int .i64 p.gl,.int .i64 p.gc] 0).run prog (w.alloc (.cells c 233))= .ok () (w.alloc (.cells #[.string p.nm,.slice none 0 0,.bool p.ret.1,.string p.ret.2,.slice p.bA p.ss.length p.bC,.int .i64 p.gl,.int .i64 p.gc] 233)):=fun c hc=>
 run_storeCells_new (P:=prog) w 233 c #[.string p.nm,.slice none 0 0,.bool p.ret.1,.string p.ret.2,.slice p.bA p.ss.length p.bC,.int .i64 p.gl,.int .i64 p.gc] (by show _=some 7;kernel_rfl) hc (by simp[Value.oneCell'])
theorem DR {a:Option Addr}{c1:Nat}{w:H5}:∀(c:Array Value),c.size=2→(storeCells ⟨w.heap.size,0,none⟩ [.slice a 1 c1,.slice none 0 0] 0).run prog (w.alloc (.cells c 25))= .ok () (w.alloc (.cells #[.slice a 1 c1,.slice none 0 0] 25)):=fun c hc=>
 run_storeCells_new (P:=prog) w 25 c #[.slice a 1 c1,.slice none 0 0] (by show _=some 2;kernel_rfl) hc (by simp[Value.oneCell'])
structure Gp (N E:Nat)(p:Pg)(L:Nat)(w W:H5)(out:Value):Prop where
 pg:jh p L W
 lN:L≤N
 r0:W.heap[N]?=some (.cells p.cells 179 (0,0))
 r1:W.heap[N+1]?=some (.cells #[.slice none 0 0,.slice none 0 0] 25 (0,0))
 r2:W.heap[N+2]?=some (.cells #[.int .i64 0,.int .i64 0,.int .i64 0,.int .i64 0] 113 (0,0))
 rE:W.heap[E]?=some (.cells #[.slice (some ⟨p.pA,0,none⟩) 1 p.pC,out] 25 (0,0))
 hE:N+2<E
 low:H9 N w W
def GA (N E:Nat)(p:Pg)(L:Nat)(V:List Ty)(I:List fV)(w:H5)(k:Value)(W:H5):Prop:=
 (k= .int .i64 0∧Gp N E p L w W (.slice none 0 0))∨(k= .int .i64 1∧∃s fA fC,Gp N E p L w W (.slice (some ⟨fA,0,none⟩) 1 fC)∧W.ownsRow (E+1) 34 3 (.slice s.vA V.length s.vC) V.length (V.flatMap Gb)∧W.ownsRow (E+1) 42 13 (.slice s.iA I.length s.iC) I.length (I.flatMap Ga)∧W.ownsRow (E+1) 38 8 (.slice (some ⟨fA,0,none⟩) 1 fC) 1 (Fy p V.length I.length s))
theorem sW {p:Pg}{L:Nat}{V:List Ty}{I:List fV}(w:H5)(h:jh p L w)(ho:EH p)(hst:∀m,jY m p L (X0 p) [] [] [] p.ss V I)(lV:V.length≤300)(lI:I.length≤1000):
  Calls prog 93 #[.agg p.cells] w (BL w p V I):=by
 obtain⟨N,hN⟩:=zE w.heap.size;have hLN:L≤N:=by have:=h.lo;omega
 obtain⟨W2,hW2⟩:=zE (((w.alloc (.cells #[.slice (some ⟨p.pA,0,none⟩) 1 p.pC,.slice (some ⟨p.qA,0,none⟩) 1 p.qC] 179)).alloc (.cells #[.slice none 0 0,.slice none 0 0] 25)).alloc (.cells #[.int .i64 0,.int .i64 0,.int .i64 0,.int .i64 0] 113));have hb2:H9 N w W2:=by rw[←hW2,←hN];exact(((Hw _ _).alloc (He _) _).alloc (by simp) _).alloc (by simp;omega) _
 have hs2:W2.heap.size=N+3:=by rw[←hW2];simp[hN]
 have hr0:W2.heap[N]?=some (.cells #[.slice (some ⟨p.pA,0,none⟩) 1 p.pC,.slice (some ⟨p.qA,0,none⟩) 1 p.qC] 179 (0,0)):=by
  rw[←hW2];refine(Hy _ _ N (by simp;omega)).trans ?_;rw[←hN];exact heap_alloc2_old _ _ _
 have hr1:W2.heap[N+1]?=some (.cells #[.slice none 0 0,.slice none 0 0] 25 (0,0)):=by
  rw[←hW2];refine(Hy _ _ (N+1) (by simp;omega)).trans ?_;rw[←hN];exact heap_alloc2_new _ _ _
 have hr2:W2.heap[N+2]?=some (.cells #[.int .i64 0,.int .i64 0,.int .i64 0,.int .i64 0] 113 (0,0)):=by
  rw[←hW2];have:=alloc_at ((w.alloc (.cells #[.slice (some ⟨p.pA,0,none⟩) 1 p.pC,.slice (some ⟨p.qA,0,none⟩) 1 p.qC] 179)).alloc (.cells #[.slice none 0 0,.slice none 0 0] 25)) (.cells #[.int .i64 0,.int .i64 0,.int .i64 0,.int .i64 0] 113);simpa[hN] using this
 have hpg2:=h.grow (show H9 w.heap.size w W2 by rw[hN];exact hb2);have HCK:Ia (zP 130 #[.agg #[.slice (some ⟨p.pA,0,none⟩) 1 p.pC,.slice (some ⟨p.qA,0,none⟩) 1 p.qC]] W2 (.agg #[.int .i64 0,.int .i64 0,.int .i64 0,.int .i64 0])):=sU W2 hpg2 ho;have HPG:=zH hpg2;have HO:=zH ho;have HST:=zH hst;have HW2:=zH hW2;have HB2:=zH hb2;have HS2:=zH hs2;have HR0:=zH hr0;have HR1:=zH hr1;have HR2:=zH hr2;obtain⟨⟨a0,a1⟩,_,hN2⟩:=bZ hr0;unfold Pg.cells;clear h ho hst hW2 hb2 hr0 hr1 hr2 hpg2 hs2;go_enter func93,ntmps93
 go_upto_region 1 with(fail)
 rw[HW2.out]
 go_upto_region 2 with(go_at_call 130;refine HCK.out.mono ?_;rintro en w4 ⟨rfl,hb4⟩;have hds:=mF (w:=w4);have HB4:=zH hb4;clear hb4)
 obtain⟨D,hD⟩:=zE w4.heap.size;obtain⟨W5,hW5⟩:=zE (w4.alloc (.cells #[.int .i64 0,.int .i64 0,.int .i64 0,.int .i64 0] 113));rw[hD,hW5];have hb45:=gK hW5;have hrD:W5.heap[D]?=some (.cells #[.int .i64 0,.int .i64 0,.int .i64 0,.int .i64 0] 113 (0,0)):=by rw[←hW5,←hD];exact alloc_at _ _
 have hb25:H9 W2.heap.size W2 W5:=HB4.out.trans (hb45.mono HB4.out.size);have hE5:D+1=W5.heap.size:=by rw[←hW5];simp[hD]
 have hDN:N+2<D:=by have:=HB4.out.size;have:=HS2.out;omega
 clear hds a0 a1 hD hW5 hb45 hN2;have hr05:=(hb25.block N (by rw[HS2.out];omega)).trans HR0.out;obtain⟨⟨a0,a1⟩,_,hN5⟩:=bZ hr05;obtain⟨⟨e0,e1,e2,e3⟩,_,hDl⟩:=lJ hrD;have hms:=DR (a:=some ⟨p.pA,0,none⟩) (c1:=p.pC) (w:=W5);obtain⟨E,hE⟩:=zE W5.heap.size;have HB25:=zH hb25;have HE5:=zH hE5;clear hb25 hrD hr05 hE5
 go_upto_region 6 with(fail)
 clear hms;obtain⟨W6,hW6⟩:=zE (W5.alloc (.cells #[.slice (some ⟨p.pA,0,none⟩) 1 p.pC,.slice none 0 0] 25));rw[hW6];(try rw[hE]);have hb56:=gK hW6;have hrE:W6.heap[E]?=some (.cells #[.slice (some ⟨p.pA,0,none⟩) 1 p.pC,.slice none 0 0] 25 (0,0)):=by rw[←hW6,←hE];exact alloc_at _ _
 have hb26:H9 W2.heap.size W2 W6:=HB25.out.trans (hb56.mono HB25.out.size);have hLS:Ia (Gp N E p L w W6 (.slice none 0 0)):=⟨HPG.out.grow hb26,hLN,(hb26.block N (by rw[HS2.out];omega)).trans HR0.out,(hb26.block (N+1) (by rw[HS2.out];omega)).trans HR1.out,(hb26.block (N+2) (by rw[HS2.out];omega)).trans HR2.out,hrE,by have:=HE5.out;omega,HB2.out.trans (hb26.mono (by rw[HS2.out];omega))⟩
 clear hb56 hrE hb26 hW6 e0 e1 e2 e3 a0 a1 hDl hN5 hDN HE5 HB25 hE HB4
 go_loopw [6] (fun k wr=>GA N E p L V I w k wr) (fun k _=>1-(intOf k).toNat)
 case atStart=>exact .inl ⟨rfl,hLS.out⟩
 case round=>
  obtain⟨wo,hwo⟩:=zE wr;rw[hwo] at hrel⊢;clear hwo wr;rcases hrel with⟨rfl,hls⟩|⟨rfl,s,fA,fC,hls,hv,hi,hf⟩
  ·have hpg:=hls.pg
   obtain⟨⟨a0,a1⟩,_,hNr⟩:=bZ hls.r0;have hf:=hpg.f;have q0:=hf 0 _ rfl;have q1:=hf 1 _ rfl;have q2:=hf 2 _ rfl;have q3:=hf 3 _ rfl;have q4:=hf 4 _ rfl;have q5:=hf 5 _ rfl;have q6:=hf 6 _ rfl;have hql:p.qA<wo.heap.size:=Hd hpg.qA hpg.lo;have hfs:=DN (p:=p) (w:=wo);have HLS:=zH hls;clear hls hpg hf
   go_upto_region 9 with(fail)
   clear hfs a0 a1 q0 q1 q2 q3 q4 q5 q6;obtain⟨FB,hFB⟩:=zE wo.heap.size;obtain⟨W7,hW7⟩:=zE (wo.alloc (.cells #[.string p.nm,.slice none 0 0,.bool p.ret.1,.string p.ret.2,.slice p.bA p.ss.length p.bC,.int .i64 p.gl,.int .i64 p.gc] 233));rw[hFB,hW7];have hb7:=gK hW7;have hrF:W7.heap[FB]?=some (.cells #[.string p.nm,.slice none 0 0,.bool p.ret.1,.string p.ret.2,.slice p.bA p.ss.length p.bC,.int .i64 p.gl,.int .i64 p.gc] 233 (0,0)):=by rw[←hW7,←hFB];exact alloc_at _ _
   have hr07:=(hb7.block N hNr).trans HLS.out.r0;have hs7:W7.heap.size=FB+1:=by rw[←hW7];simp[hFB]
   obtain⟨⟨a0,a1⟩,_,hN7⟩:=bZ hr07;obtain⟨⟨g0,g1,g2,g3,g4,g5,g6⟩,_,hF7⟩:=ed hrF;obtain⟨M,hM⟩:=zE W7.heap.size;have HB7:=zH hb7;have HRF:=zH hrF;have HS7:=zH hs7;have HFB:=zH hFB;clear hW7 hb7 hrF hr07 hs7 hFB
   go_upto_region 11 with(fail)
   obtain⟨W8,hW8⟩:=zE (W7.alloc (.cells (EI p (X0 p) ⟨none,0,none,0,none,0,none,0⟩ 0 0 0) 236));have hW8':=hW8;unfold EI X0 at hW8';simp only at hW8';rw[hW8'];(try rw[hM]);have hb8:=gK hW8;have hrM:W8.heap[M]?=some (.cells (EI p (X0 p) ⟨none,0,none,0,none,0,none,0⟩ 0 0 0) 236 (0,0)):=by rw[←hW8,←hM];exact alloc_at _ _
   have hb78:H9 wo.heap.size wo W8:=HB7.out.trans (hb8.mono HB7.out.size);have hMF:FB+1=M:=by have:=HS7.out;omega
   have hLM:L≤M:=by have:=HLS.out.pg.lo;have:=HFB.out;omega
   have hmk:Mk M p L (X0 p) [] [] [] (fun _=>False) ⟨none,0,none,0,none,0,none,0⟩ W8:=⟨hrM,HLS.out.pg.grow hb78,hLM,World.ownsRow_nil _ _ _ _,World.ownsRow_nil _ _ _ _,fun k h=>by simp[Value.ownBlock] at h,fun k h=>by simp[Value.ownBlock] at h,fun k h=>by simp[Value.ownBlock] at h,fun k h=>h.elim,fun h=>absurd rfl h,fun h=>absurd rfl h,fun a h=>absurd rfl h,by simp,by simp,by simp,by simp⟩
   have HBL:=zH (sV W8 hmk (HST.out M) HO.out.ss HO.out.ne);have HB78:=zH hb78;have HRF8:=zH ((hb8.block FB (by omega)).trans HRF.out);have hr78:=(hb8.block FB (by omega)).trans HRF.out;clear a0 a1 g0 g1 g2 g3 g4 g5 g6 hF7 hN7;obtain⟨⟨g0,g1,g2,g3,g4,g5,g6⟩,_,hF8⟩:=ed hr78;clear hW8 hW8' hb8 hrM hb78 hmk hr78
   go_loopw [9] (fun k wr=>k= .int .i64 0∧wr=W8) (fun _ _=>0)
   case atStart=>exact⟨rfl,rfl⟩
   case round=>
    obtain⟨rfl,hq⟩:=hrel;rw[hq];clear hq wr
    go_upto_region 16 with(go_at_call 132;refine HBL.out.mono ?_;rintro en w9 ⟨rfl,O9,s9,hk9,hx9,ho9⟩;have HK9:=zH hk9;have HX9:=zH hx9;have HO9:=zH ho9;have hr9:=hk9.row;clear hk9 hx9 ho9)
    have c15:w9.cell? ⟨M,15,none⟩=some (.int .i64 0):=(rowAt hr9 15 rfl).1;have c4:w9.cell? ⟨M,4,none⟩=some (.string p.nm):=(rowAt hr9 4 rfl).1;have c5:w9.cell? ⟨M,5,none⟩=some (.int .i64 0):=(rowAt hr9 5 rfl).1;have c6:w9.cell? ⟨M,6,none⟩=some (.slice s9.vA V.length s9.vC):=(rowAt hr9 6 rfl).1;have c7:w9.cell? ⟨M,7,none⟩=some (.bool p.ret.1):=(rowAt hr9 7 rfl).1;have c8:w9.cell? ⟨M,8,none⟩=some (.string p.ret.2):=(rowAt hr9 8 rfl).1;have c9:w9.cell? ⟨M,9,none⟩=some (.int .i64 0):=(rowAt hr9 9 rfl).1;have c10:w9.cell? ⟨M,10,none⟩=some (.slice none 0 0):=(rowAt hr9 10 rfl).1;have c11:w9.cell? ⟨M,11,none⟩=some (.slice s9.iA I.length s9.iC):=(rowAt hr9 11 rfl).1;have hMl:=ae hr9;clear hr9 g0 g1 g2 g3 g4 g5 g6 hF8;have hV300:decide ((300:Int)<(V.length:Int))=false:=decide_eq_false (by omega);have hI3000:decide ((3000:Int)<(I.length:Int))=false:=decide_eq_false (by omega);have hVle:(V.length:Int)≤300:=by omega
    have hIle:(I.length:Int)≤3000:=by omega
    go_upto_region 20 with(fail)
    have hrE9:w9.heap[E]?=some (.cells #[.slice (some ⟨p.pA,0,none⟩) 1 p.pC,.slice none 0 0] 25 (0,0)):=HX9.out.heap ((HB78.out.block E (ae HLS.out.rE)).trans HLS.out.rE) (by have:=ae HLS.out.rE;have:=HFB.out;rintro(h|h);omega;exact h);have hEl:=ae hrE9;obtain⟨S1,hS1⟩:=zE ((fun W'=>H9 w9.heap.size w9 W'):H5→Prop);have hss:∀W,S1 W→H9 w9.heap.size w9 W:=fun W h=>by rw[←hS1] at h;exact h
    have hsb:∀W,H9 w9.heap.size w9 W→S1 W:=fun W h=>by rw[←hS1];exact h
    have hS0:S1 w9.drew:=hsb _ (Hw _ _).drew;have hce:∀W,S1 W→W.cell? ⟨E,1,none⟩=some (.slice none 0 0)∧W.cell? ⟨M,4,none⟩=some (.string p.nm)∧W.cell? ⟨M,5,none⟩=some (.int .i64 0)∧W.cell? ⟨M,6,none⟩=some (.slice s9.vA V.length s9.vC)∧W.cell? ⟨M,7,none⟩=some (.bool p.ret.1)∧W.cell? ⟨M,8,none⟩=some (.string p.ret.2)∧W.cell? ⟨M,9,none⟩=some (.int .i64 0)∧W.cell? ⟨M,10,none⟩=some (.slice none 0 0)∧W.cell? ⟨M,11,none⟩=some (.slice s9.iA I.length s9.iC)∧M<W.heap.size∧E<W.heap.size:=fun W hW=>by
     have hb:=hss W hW;have r1:=(hb.block M hMl).trans HK9.out.row;have r2:=(hb.block E hEl).trans hrE9;exact⟨(rowAt r2 1 rfl).1,(rowAt r1 4 rfl).1,(rowAt r1 5 rfl).1,(rowAt r1 6 rfl).1,(rowAt r1 7 rfl).1,(rowAt r1 8 rfl).1,(rowAt r1 9 rfl).1,(rowAt r1 10 rfl).1,(rowAt r1 11 rfl).1,ae r1,ae r2⟩
    have HCE:=zH hce;have HSB:=zH hsb;have HRE9:=zH hrE9;obtain⟨i0,hi0,hi1,hi2,hi3⟩:=info_parts AA;clear hS1 hss hsb hce hrE9 c15 c4 c5 c6 c7 c8 c9 c10 c11;refine aj 9 S1 (by kernel_rfl) ?_;refine zT 0 rfl HCE.out ?_;(try go_simp);refine zT 1 rfl HCE.out ?_;(try go_simp);refine zT 2 rfl HCE.out ?_;(try go_simp);refine zT 3 rfl HCE.out ?_;(try go_simp);refine zT 4 rfl HCE.out ?_;(try go_simp);refine zT 5 rfl HCE.out ?_;(try go_simp);refine zO 6 rfl fun K' hK=> ?_;go_simp;obtain⟨G,hG⟩:=zE w9.heap.size;obtain⟨W10,hW10⟩:=zE ((w9.alloc (.cells #[.string p.nm,.int .i64 0,.slice s9.vA V.length s9.vC,.bool p.ret.1,.string p.ret.2,.int .i64 0,.slice none 0 0,.slice s9.iA I.length s9.iC] 38)).drew);(try rw[hG]);(try rw[hW10]);have hb10:H9 w9.heap.size w9 W10:=by rw[←hW10];exact((Hw _ _).alloc (He _) _).drew
    have hrG:W10.heap[G]?=some (.cells #[.string p.nm,.int .i64 0,.slice s9.vA V.length s9.vC,.bool p.ret.1,.string p.ret.2,.int .i64 0,.slice none 0 0,.slice s9.iA I.length s9.iC] 38 (0,0)):=by rw[←hW10,←hG];exact alloc_at _ _
    have hE10:=hb10.size;refine hK _ _ (HSB.out _ hb10) ?_;clear hK;(try go_simp);refine zO 7 rfl fun K' hK=> ?_;refine aF (.tmp 121) (.tmp 126) 23 rfl (E+1) 38 i0 _ 8 128 underlying23 hi0 hi1 hi2 hi3 rfl (by decide) (.slice none 0 0) 0 [] rfl (World.ownsRow_nil _ _ _ _) (some ⟨G,0,none⟩) 1 1 (Fy p V.length I.length s9) rfl rfl (fun h=>by cases h) (fun ad had jj uu hu=>by
     obtain rfl:(⟨G,0,none⟩:Addr)=ad:=by simpa using had
     rw[Addr.add_lit,Hf,cell_of_row _ _ _ _ _ _ hrG];simpa[Fy] using hu) (by simp[Fy,Value.oneCell']) (by unfold maxLen;omega) (by omega) (by omega) ?_
    intro v11 w11 hown11 hgr11 hat11;have hx11:Ext (fun _=>False) W10 w11:=Ext.of_grown hgr11 (fun q hq=>by cases hq);have hb11:H9 w9.heap.size w9 w11:=hb10.trans (hx11.below hb10.size (fun q h=>h.elim));have hS11:S1 w11:=HSB.out _ hb11;obtain⟨g11,c11,hv11,hg11,hgl11⟩:=fu (n:=0) (by simpa using hown11);subst hv11;refine hK _ _ hS11 ?_;clear hK;(try go_simp);refine zT 8 rfl HCE.out ?_;(try go_simp);have hrE11:=(hb11.block E hEl).trans HRE9.out;have hfz:=(rowAt hrE11 1 rfl).2;have hcz:=(rowAt hrE11 1 rfl).1;refine zK rfl fun K' hK=> ?_;go_simp;refine hK _ _ ?_;clear hK;refine⟨by kernel_rfl, ?_⟩;obtain⟨WF,hWF⟩:=zE (w11.setCell ⟨E,1,none⟩ (.slice (some ⟨g11,0,none⟩) (0+1) c11));have hWF':=hWF;simp only[Hf] at hWF';(try rw[hWF]);(try rw[hWF']);have hxF:Ext (·=E) w11 WF:=by rw[←hWF];exact Ext.set1 w11 E 1 _
    have hrEF:WF.heap[E]?=some (.cells #[.slice (some ⟨p.pA,0,none⟩) 1 p.pC,.slice (some ⟨g11,0,none⟩) 1 c11] 25 (0,0)):=by rw[←hWF];exact Hz w11 E 1 _ _ _ hrE11
    have hx9F:Ext (·=E) w9 WF:=(Ext.of_below_size hb11).trans hxF (fun q h=> .inl h);have hxall:Ext (fun q=>q=E∨q=M) wo WF:=((Ext.of_below_size HB78.out).trans (HX9.out.mono (fun q h=>by rcases h with h|h;exact .inr h;exact h.elim)) (fun q h=> .inl h)).trans (hx9F.mono (fun q h=> .inl h)) (fun q h=> .inl h);have hEo:=ae HLS.out.rE;have hFBo:=HFB.out;have hNE:=HLS.out.hE;have hLoE:=HLS.out.lN;have hpgF:=HLS.out.pg.ext hxall (fun k hk h=>by rcases h with h|h<;>omega);have hLSF:Gp N E p L w WF (.slice (some ⟨g11,0,none⟩) 1 c11):=⟨hpgF,hLoE,hxall.heap HLS.out.r0 (by rintro(h|h)<;>omega),hxall.heap HLS.out.r1 (by rintro(h|h)<;>omega),hxall.heap HLS.out.r2 (by rintro(h|h)<;>omega),hrEF,hNE,HLS.out.low.trans (hxall.below (by omega) (fun q h=>by rcases h with h|h<;>omega))⟩
    have HFIN:Ia (GA N E p L V I w (.int .i64 1) WF):= .inr ⟨rfl,s9,g11,c11,hLSF,aT (ah HK9.out.vars hx9F (fun k hk e=>by have:=(ai HK9.out.vars hk).1;omega)) (by omega),aT (ah HK9.out.ins hx9F (fun k hk e=>by have:=(ai HK9.out.ins hk).1;omega)) (by omega),ah (by simpa using hown11) hxF (fun k hk e=>by have:=(ai hown11 hk).1;omega)⟩;clear hWF hWF' hxF hrEF hx9F hxall hpgF hLSF hown11 hgr11 hat11 hx11 hb11 hS11 hfz hcz hrE11 hrG hW10 hb10 hG hE10;go_wp2;go_roundw
    case rel=>exact HFIN.out
    case measure=>simp[intOf]
  ·obtain⟨⟨a0,a1⟩,_,hNr⟩:=bZ hls.r0
   obtain⟨⟨m0,m1⟩,_,hEr⟩:=bZ hls.rE;obtain⟨⟨e0,e1⟩,⟨f0,f1⟩,hN1⟩:=bZ hls.r1;obtain⟨⟨d0,d1,d2,d3⟩,⟨g0,g1,g2,g3⟩,hN2⟩:=lJ hls.r2;have hr1:=hls.r1;have hr2:=hls.r2;have q4:=hls.pg.f 4 _ rfl;have HLS:=zH hls;have HV:=zH hv;have HI:=zH hi;have HF:=zH hf;have HR1:=zH hr1;have HR2:=zH hr2;clear hls hv hi hf hr1 hr2;go_wp2;(try simp only[Exit.inBlock,Exit.then]);have hxe:∀W u0 u1,Ext (·=N+1) W ((W.setCell ⟨N+1,0,none⟩ u0).setCell ⟨N+1,1,none⟩ u1):=fun W u0 u1=>aa (aa (Ext.refl _ _) _) _;have hxd:∀W u0 u1 u2 u3,Ext (·=N+1+1) W ((((W.setCell ⟨N+1+1,0,none⟩ u0).setCell ⟨N+1+1,1,none⟩ u1).setCell ⟨N+1+1,2,none⟩ u2).setCell ⟨N+1+1,3,none⟩ u3):=fun W u0 u1 u2 u3=>aa (aa (aa (aa (Ext.refl _ _) _) _) _) _;refine bodyPost_ret (cZ rfl _ _ (N+1) (N+1+1) 25 113 _ _ (0,0) (0,0) _ _ rfl ((hxd _ _ _ _ _).heap (bf HR1.out) (show¬N+1=N+1+1 by omega)) rfl (iX ((hxe _ _ _).heap HR2.out (show¬N+1+1=N+1 by omega))) underlying25 (by kernel_rfl) underlying113 (by kernel_rfl)) rfl ?_;have hxall:=((hxe wo (.slice (some ⟨p.pA,0,none⟩) 1 p.pC) (.slice (some ⟨fA,0,none⟩) 1 fC)).mono (fun q h=>Or.inl h)).trans ((hxd _ (.int .i64 0) (.int .i64 0) (.int .i64 0) (.int .i64 0)).mono (fun q h=>Or.inr h)) (fun q (h:q=N+1∨q=N+1+1)=> .inl h);have hE:=HLS.out.hE;have hLN':=HLS.out.lN;have hsz:=HLS.out.low.size;have hNw:=hN;refine⟨s,fA,fC,rfl,aT (ah HV.out hxall (fun k hk h=>by have:=(ai HV.out hk).1;rcases h with h|h<;>omega)) (by omega),aT (ah HI.out hxall (fun k hk h=>by have:=(ai HI.out hk).1;rcases h with h|h<;>omega)) (by omega),aT (ah HF.out hxall (fun k hk h=>by have:=(ai HF.out hk).1;rcases h with h|h<;>omega)) (by omega), ?_⟩;rw[hN];exact HLS.out.low.trans (hxall.below (by omega) (fun q h=>by rcases h with h|h<;>omega))
theorem sm_at {p:Pg}{L:Nat}{W0:H5}(h:jh p L W0){s:Sm}{e:Ex}(hs:s∈p.ss)(hes:s.es=[e]):∃g cp,s.E= .slice (some ⟨g,0,none⟩) 1 cp∧g<L∧∀(j:Nat)(u:Value),e.cells.toList[j]?=some u→∀W,jh p L W→W.cell? ⟨g,j,none⟩=some u:=by
 rcases h.ex s hs with⟨h1,_⟩|⟨g,cap,h1,h2,h3⟩
 ·rw[hes] at h1;cases h1
 ·refine⟨g,cap,by rw[h1,hes];rfl,h2,fun j u hu W hW=> ?_⟩
  rcases hW.ex s hs with⟨e1,_⟩|⟨g',cap',e1,e2,e3⟩
  ·rw[hes] at e1;cases e1
  ·have hg:g=g':=by
    rw[h1] at e1;simp only[Value.slice.injEq,Option.some.injEq,Addr.mk.injEq] at e1;exact e1.1.1
   subst hg;have:=e3 0 e (by rw[hes];rfl) j u hu;simpa using this
section
variable {m:Nat}{p:Pg}{L:Nat}{X:Fx}{V V2:List Ty}{I I2:List fV}{S:List (ByteArray×Nat)}
theorem Cr {s:Sm}{e:Ex}{d:Int}(hos:X.os= .slice none 0 0)(hs:s∈p.ss)(hk:s.kind=8)(hes:s.es=[e])(hlI:I2.length+1≤1000)
  (hval:∀W O sl,Mk m p L X V I S O sl W→Calls prog 217 #[.pointer (some ⟨m,0,none⟩),.agg e.cells,.agg #[.bool X.rt.1,.string X.rt.2],.int .i64 (-1)] W fun e w'=>e= .returned (.int .i64 d)∧dA m p L X V2 I2 S O W w'):
  BK m p L X V I S s V2 (I2++[⟨18,0,d,0,0,s.ln,s.cl⟩]) S:=fun W O sl h=>by
 obtain⟨g,cp,hE,hgl,hgc⟩:=sm_at h.pg hs hes;have:=Az hos s.ty.1 s.ty.2 s.nm g cp e ⟨hgl,hgc⟩ d V2 I2 hlI hval s.ln s.cl W h;unfold Sm.cells;rw[hk,hE];exact this
theorem AB {s:Sm}{e:Ex}{d:Int}(hos:X.os= .slice none 0 0)(hs:s∈p.ss)(hk:s.kind=1)(hes:s.es=[e])(hlV:V.length+1≤1000)(hlS:S.length+1≤1000)
  (hval:∀W O sl,Mk m p L X (V++[s.ty]) I S O sl W→Calls prog 217 #[.pointer (some ⟨m,0,none⟩),.agg e.cells,.agg #[.bool s.ty.1,.string s.ty.2],.int .i64 (V.length:Int)] W fun e w'=>e= .returned (.int .i64 d)∧dA m p L X V2 I2 S O W w'):
  BK m p L X V I S s V2 I2 (S++[(s.nm,V.length)]):=fun W O sl h=>by
 obtain⟨g,cp,hE,hgl,hgc⟩:=sm_at h.pg hs hes;have:=yB hos s.ty s.nm g cp e ⟨hgl,hgc⟩ d V2 I2 hlV hlS hval s.ln s.cl W h;unfold Sm.cells;rw[hk,hE];exact this
theorem AC {s:Sm}{j:Nat}{z:ByteArray×Nat}(hos:X.os= .slice none 0 0)(hs:s∈p.ss)(hk:s.kind=9)(hlI:I.length+1≤1000)(hj:S[j]?=some z)(hn:(z.1==s.nm)=true)(hl:∀q y,j<q→S[q]?=some y→(y.1==s.nm)=false):
  BK m p L X V I S s V (I++[⟨13,0,(z.2:Int),0,0,s.ln,s.cl⟩]) S:=fun W O sl h=>by
 obtain⟨⟨ao,n,cp,hE⟩,_⟩:=h.pg.sm hs;have:=yz hos s.ty.1 s.ty.2 s.nm ao n cp j z hj hn hl hlI s.ln s.cl W h;unfold Sm.cells;rw[hk,hE];exact this
end
def yD (w:H5)(K:Pg→List Ty→List fV→Prop)(e:Ending)(w':H5):Prop:=
 ∃p V I s fA fC,K p V I∧e= .returned (.tuple #[.agg (ji p V I s fA fC).cells,.agg #[.int .i64 0,.int .i64 0,.int .i64 0,.int .i64 0]])∧(ji p V I s fA fC).inn w'∧H9 w.heap.size w w'
theorem wM (s:ByteArray)(R:List zY)(n0:Nat)(Q:List oZ→Prop)(snm nm:ByteArray)(l:List (ByteArray×Ty))(y:Ty)(K:Pg→List Ty→List fV→Prop)(w:H5)(hs:s.size≤1000000)(hns:mV s)(h0:s.size≠0)(hR:kP s n0 (fG s s.size 0)=some R)
  (hT:∀T:List Tok,T.map Tok.sig=R++[(5,⟨#[]⟩,0)]→∃shs,Q shs∧qJ T snm l nm y shs)
  (hK:∀(p:Pg),Q (p.ss.map Sm.shp)→p.snm=snm→p.fs.map Fd.shp=l→p.nm=nm→p.ret=y→EH p∧p.nm.size≤maxLen∧p.snm.size≤maxLen∧(∀f∈p.fs,f.nm.size≤maxLen)∧p.fs.length≤1000000∧∃V I,K p V I∧V.length≤300∧I.length≤1000∧∀m L,jY m p L (X0 p) [] [] [] p.ss V I):
  Calls prog 52 #[.string s] w (yD w K):=by
 obtain⟨N,hN⟩:=zE w.heap.size;obtain⟨W2,hW2⟩:=zE ((w.alloc (.cells #[.slice none 0 0,.slice none 0 0] 25)).alloc (.cells #[.int .i64 0,.int .i64 0,.int .i64 0,.int .i64 0] 113));have hb2:=uG hW2 hN;have hs2:W2.heap.size=N+2:=by rw[←hW2];simp[hN]
 have hr0:=xV hW2 hN;have hr1:=zV hW2 hN;have HTX:=zH (wF s R n0 Q snm nm l y W2 hs hns h0 hR hT);have HST:Ia (∀(w:H5)(c:Array Value),c.size=4→(storeCells ⟨w.heap.size,0,none⟩ [.int .i64 0,.int .i64 0,.int .i64 0,.int .i64 0] 0).run prog (w.alloc (.cells c 113))= .ok () (w.alloc (.cells #[.int .i64 0,.int .i64 0,.int .i64 0,.int .i64 0] 113))):=fun w=>mF (w:=w);have hps:∀(w:H5)(p:Pg)(c:Array Value),c.size=2→(storeCells ⟨w.heap.size,0,none⟩ [.slice (some ⟨p.pA,0,none⟩) 1 p.pC,.slice (some ⟨p.qA,0,none⟩) 1 p.qC] 0).run prog (w.alloc (.cells c 179))= .ok () (w.alloc (.cells #[.slice (some ⟨p.pA,0,none⟩) 1 p.pC,.slice (some ⟨p.qA,0,none⟩) 1 p.qC] 179)):=fun w p c hc=>
  run_storeCells_new (P:=prog) w 179 c #[.slice (some ⟨p.pA,0,none⟩) 1 p.pC,.slice (some ⟨p.qA,0,none⟩) 1 p.qC] (by show _=some 2;kernel_rfl) hc (by simp[Value.oneCell'])
 have HPS:=zH hps;have HK:=zH hK;have HW2:=zH hW2;have HB2:=zH hb2;have HS2:=zH hs2;have HR0:=zH hr0;have HR1:=zH hr1;clear hR hT hW2 hb2 hs2 hr0 hr1 hps hK;go_enter func52,ntmps52
 go_upto_region 1 with(fail)
 rw[HW2.out]
 go_upto_region 2 with(go_at_call 92;refine HTX.out.mono ?_;rintro e w3 ⟨shs,hQ,p,rfl,p1,p2,p3,p4,p5,hpi,hb3⟩;unfold Pg.cells;have HP1:=zH p1;have HP2:=zH p2;have HP3:=zH p3;have HP4:=zH p4;have HP5:=zH p5;have HQ:=zH hQ;have HPI:=zH hpi;have HB3:=zH hb3;clear p1 p2 p3 p4 p5 hQ hpi hb3)
 obtain⟨D,hD⟩:=zE w3.heap.size;obtain⟨W5,hW5⟩:=zE ((w3.alloc (.cells #[.slice (some ⟨p.pA,0,none⟩) 1 p.pC,.slice (some ⟨p.qA,0,none⟩) 1 p.qC] 179)).alloc (.cells #[.int .i64 0,.int .i64 0,.int .i64 0,.int .i64 0] 113));rw[hD,hW5];have hb35:=EA hW5;have hb25:H9 W2.heap.size W2 W5:=HB3.out.trans (hb35.mono HB3.out.size);have hrP:=xV hW5 hD;have hrD:=zV hW5 hD;obtain⟨ho,hn,hsn,hfn,hfl,V,I,hKp,lV,lI,hst⟩:=HK.out p (by rw[HP5.out];exact HQ.out) HP1.out HP2.out HP3.out HP4.out;have hpg3:=BJ HPI.out hfl (by have:=ho.ss;omega);have HLO:Ia (Calls prog 93 #[.agg #[.slice (some ⟨p.pA,0,none⟩) 1 p.pC,.slice (some ⟨p.qA,0,none⟩) 1 p.qC]] W5 (BL W5 p V I)):=sW W5 (hpg3.grow hb35) ho (fun m=>hst m _) lV lI;have HO:=zH ho;have HSZ:=zH (And.intro hn (And.intro hsn (And.intro hfn hfl)));have HKP:=zH hKp;have HB25:=zH hb25;have HPI5:Ia (p.inn W2.heap.size W5):=⟨ownsRow_below HPI.out.fields hb35,ownsRow_below HPI.out.strs hb35,ownsRow_below HPI.out.stmts hb35,fun x hx=>(HPI.out.exprs x hx).ext (Ext.of_below_size (M:=fun _=>False) hb35) (fun _ _ _ h=>h),ownsRow_below HPI.out.fns hb35⟩
 obtain⟨⟨a0,a1⟩,_,hDl⟩:=bZ hrP;obtain⟨⟨e0,e1,e2,e3⟩,_,hDl1⟩:=lJ hrD;clear hD hW5 hb35 hb25 hrP hrD ho hn hsn hfn hfl hKp hst hpg3 HPS HST HPI
 go_upto_region 4 with(fail)
 clear e0 e1 e2 e3
 go_wp2_with (go_at_call 93;refine HLO.out.mono ?_;rintro e w6 ⟨s6,fA,fC,rfl,hv,hi,hf,hb6⟩;unfold Mo.cells;have HV:=zH hv;have HI:=zH hi;have HF:=zH hf;have HB6:=zH hb6;have hb26:=HB25.out.trans (hb6.mono HB25.out.size);have HB26:=zH hb26;have hr06:=(hb26.block N (by rw[HS2.out];omega)).trans HR0.out;have hr16:=(hb26.block (N+1) (by rw[HS2.out];omega)).trans HR1.out;have HR06:=zH hr06;have HR16:=zH hr16;obtain⟨⟨b0,b1⟩,⟨d0,d1⟩,hNlt⟩:=bZ hr06;obtain⟨⟨g0,g1,g2,g3⟩,⟨f0,f1,f2,f3⟩,hN1lt⟩:=lJ hr16;clear hv hi hf hb6 hb26 hr06 hr16)
 (try simp only[Exit.inBlock,Exit.then]);have hxe:∀W u0 u1,Ext (·=N) W ((W.setCell ⟨N,0,none⟩ u0).setCell ⟨N,1,none⟩ u1):=fun W u0 u1=>aa (aa (Ext.refl _ _) _) _;have hxd:∀W u0 u1 u2 u3,Ext (·=N+1) W ((((W.setCell ⟨N+1,0,none⟩ u0).setCell ⟨N+1,1,none⟩ u1).setCell ⟨N+1,2,none⟩ u2).setCell ⟨N+1,3,none⟩ u3):=fun W u0 u1 u2 u3=>aa (aa (aa (aa (Ext.refl _ _) _) _) _) _;refine bodyPost_ret (cZ rfl _ _ N (N+1) 25 113 _ _ (0,0) (0,0) _ _ rfl ((hxd _ _ _ _ _).heap (bf HR06.out) (show¬N=N+1 by omega)) rfl (iX ((hxe _ _ _).heap HR16.out (show¬N+1=N by omega))) underlying25 (by kernel_rfl) underlying113 (by kernel_rfl)) rfl ?_;have hxall:Ext (fun q=>q=N∨q=N+1) w6 _:=((hxe w6 (.slice (some ⟨p.pA,0,none⟩) 1 p.pC) (.slice (some ⟨fA,0,none⟩) 1 fC)).mono (fun q h=> .inl h)).trans (hxd _ (.int .i64 0) (.int .i64 0) (.int .i64 0) (.int .i64 0)) (fun q h=> .inl (.inr h));have hN4:N+2≤W5.heap.size:=by rw[←HS2.out];exact HB25.out.size
 have hall:Ext (fun q=>q=N∨q=N+1) W5 _:=(Ext.of_below_size HB6.out).trans hxall (fun q h=> .inl h);have keep:∀{e:TypeId}{size n:Nat}{v:Value}{xs:List Value},W5.ownsRow W2.heap.size e size v n xs→_:=fun{e size n v xs} h=>ah (e:=e) (size:=size) (n:=n) (v:=v) (xs:=xs) h hall (fun q hq e=>by have:=(ai h hq).1;have:=HS2.out;omega);have keep6:∀{e:TypeId}{size n:Nat}{v:Value}{xs:List Value},w6.ownsRow W5.heap.size e size v n xs→_:=fun{e size n v xs} h=>ah (e:=e) (size:=size) (n:=n) (v:=v) (xs:=xs) h hxall (fun q hq e=>by have:=(ai h hq).1;omega);have hpin:p.inn W2.heap.size _:=⟨keep HPI5.out.fields,keep HPI5.out.strs,keep HPI5.out.stmts,fun s hs=>(HPI5.out.exprs s hs).ext hall (fun q h1 _ e=>by have:=HS2.out;omega),keep HPI5.out.fns⟩
 refine⟨p,V,I,s6,fA,fC,HKP.out,rfl,DL (BJ hpin HSZ.out.2.2.2 (by have:=HO.out.ss;omega)) HSZ.out.1 HSZ.out.2.1 HSZ.out.2.2.1 (keep6 HV.out) (keep6 HI.out) (keep6 HF.out) (by omega) lI, ?_⟩;rw[hN];exact HB2.out.trans ((HB26.out.mono (by rw[HS2.out];omega)).trans (hxall.below (Nat.le_trans (by rw[HS2.out];omega) HB26.out.size) (fun q h=>by omega)))
def qM (ln cl:Nat→Int):Nat→List zY→List Tok
 |_,[]=>[]
 |i,g::r=>⟨g.1,g.2.1,g.2.2,ln i,cl i⟩::qM ln cl (i+1) r
theorem uN {ln cl:Nat→Int}:∀(R:List zY)(T:List Tok)(i:Nat),T.map Tok.sig=R→(∀(k:Nat)(t:Tok),T[k]?=some t→t.ln=ln (i+k)∧t.cl=cl (i+k))→T=qM ln cl i R
 |[],T,i,h,_=>by unfold qM;simpa using h
 |g::R,[],_,h,_=>by simp at h
 |g::R,t::T,i,h,hp=>by
  rw[List.map_cons] at h;obtain⟨h1,h2⟩:=List.cons.inj h;unfold qM;obtain⟨a,b,c,d,e⟩:=t;have h0:=hp 0 _ rfl;rw[Nat.add_zero] at h0;rw[←uN R T (i+1) h2 (fun k t hk=>by rw[show i+1+k=i+(k+1) by omega];exact hp (k+1) t (by simpa using hk)),←h1,←h0.1,←h0.2];rfl
theorem EK (R:List zY)(T:List Tok)(h:T.map Tok.sig=R):∃ln cl:Nat→Int,T=qM ln cl 0 R:=
 ⟨fun i=>(T[i]?.map Tok.ln).getD 0,fun i=>(T[i]?.map Tok.cl).getD 0,uN R T 0 h (fun k t hk=>by rw[Hf,hk];exact⟨rfl,rfl⟩)⟩
theorem Cs {A:List Tok}{e:Tok}(h:(A.all fun t=>t.kind != 5)=true)(he:e.kind=5):Ap (A++[e]):=by
 intro k t hk;rw[GU,G5];rw[List.getElem?_append] at hk
 by_cases hl:k<A.length
 ·rw[if_pos hl] at hk
  have:=List.all_eq_true.1 h t (GV hk);have h5:t.kind≠5:=by simpa using this
  constructor
  ·intro h6;exact absurd h6 h5
  ·intro h6;omega
 ·rw[if_neg hl] at hk
  have hz:k-A.length=0:=by
   cases hq:k-A.length with
   |zero=>rfl
   |succ q=>rw[hq] at hk;simp at hk
  rw[hz] at hk;obtain rfl:e=t:=by simpa using hk
  constructor
  ·intro _;omega
  ·intro _;exact he
theorem AJ {s:ByteArray}(h:(s.data.toList.all fun b=>b != 47)=true):mV s:=by
 intro i;unfold eu
 by_cases hi:i<s.size
 ·rw[dif_pos hi]
  have hm:s[i]'hi∈s.data.toList:=by
   have:s[i]'hi=s.data[i]'hi:=rfl;rw[this];simp
  have:=List.all_eq_true.1 h _ hm;intro e;have h2:(s[i]'hi).toNat=47:=by omega
  have h3:s[i]'hi=47:=UInt8.toNat_inj.1 h2;rw[h3] at this;exact absurd this (by decide)
 ·rw[dif_neg hi];decide
def bS:ByteArray:=⟨#[83]⟩
def Gc:ByteArray:=⟨#[110]⟩
def EL:ByteArray:=⟨#[97]⟩
theorem DT {m:Nat}{p:Pg}{L:Nat}{X:Fx}{V:List Ty}{I:List fV}(ss:List Sm)(h:p.ss=ss)(h2:jY m p L X [] [] [] ss V I):jY m p L X [] [] [] p.ss V I:=by rw[h];exact h2
theorem AL {m:Nat}{p:Pg}{L:Nat}{X:Fx}{V:List Ty}{I:List fV}{S:List (ByteArray×Nat)}(y:Ty)(nm:ByteArray)(ln cl:Int)(hst:mZ p nm=0)(hlV:V.length+2≤1000)(hlI:I.length+1≤1000):
  ∀W O sl,Mk m p L X (V++[y]) I S O sl W→Calls prog 217 #[.pointer (some ⟨m,0,none⟩),.agg (⟨7,0,nm,ln,cl⟩:Ex).cells,.agg #[.bool y.1,.string y.2],.int .i64 (V.length:Int)] W fun e w'=>e= .returned (.int .i64 (V.length:Int))∧dA m p L X (V++[y]) (I++[⟨12,(V.length:Int),0,0,0,ln,cl⟩]) S O W w':=fun W O sl h=>by
 have:=yx 0 nm ln cl y (V.length:Int) W h (by simp;omega) hlI;have hd:zZ (V.length:Int) (V++[y])=(V.length:Int):=by unfold zZ;rw[if_pos (by omega)]
 have hv:DK (V.length:Int) (V++[y]) (true,nm)=V++[y]:=by unfold DK;rw[if_pos (by omega)]
 rw[hd,hv,hst] at this;exact this
theorem AO {m:Nat}{p:Pg}{L:Nat}{X:Fx}{V:List Ty}{I:List fV}{S:List (ByteArray×Nat)}(n:Int)(ln cl:Int)(hlV:V.length+1≤1000)(hlI:I.length+1≤1000):
  ∀W O sl,Mk m p L X V I S O sl W→Calls prog 217 #[.pointer (some ⟨m,0,none⟩),.agg (⟨1,n,⟨#[]⟩,ln,cl⟩:Ex).cells,.agg #[.bool X.rt.1,.string X.rt.2],.int .i64 (-1)] W fun e w'=>e= .returned (.int .i64 (V.length:Int))∧dA m p L X (V++[bF]) (I++[⟨1,(V.length:Int),0,0,n,ln,cl⟩]) S O W w':=fun W O sl h=>by
 have:=yw n ⟨#[]⟩ ln cl X.rt (-1) W h hlV hlI;have hd:zZ (-1) V=(V.length:Int):=by unfold zZ;rw[if_neg (by omega)]
 have hv:DK (-1) V bF=V++[bF]:=by unfold DK;rw[if_neg (by omega)]
 rw[hd,hv] at this;exact this
theorem Gd (nm:ByteArray)(S:List (ByteArray×Nat))(h:(S.drop 1).all (fun y=> !(y.1==nm))=true):∀q y,0<q→S[q]?=some y→(y.1==nm)=false:=by
 intro q y hq hy;have hm:y∈S.drop 1:=by
  obtain⟨k,rfl⟩:∃k,q=1+k:=⟨q-1,by omega⟩
  have:(S.drop 1)[k]?=some y:=by rw[List.getElem?_drop];exact hy
  exact GV this
 have:=List.all_eq_true.1 h y hm;simpa using this
def Ct:ByteArray:=⟨#[115,116,114,117,99,116,32,83,32,123,32,83,32,42,110,59,32,125,59,32,105,110,116,32,109,97,105,110,40,41,32,123,32,83,32,42,97,32,61,32,110,101,119,32,83,59,32,102,114,101,101,40,97,41,59,32,114,101,116,117,114,110,32,48,59,32,125]⟩
def FO:List zY:=[(2,⟨#[115,116,114,117,99,116]⟩,0),(1,⟨#[83]⟩,0),(4,⟨#[123]⟩,0),(1,⟨#[83]⟩,0),(4,⟨#[42]⟩,0),(1,⟨#[110]⟩,0),(4,⟨#[59]⟩,0),(4,⟨#[125]⟩,0),(4,⟨#[59]⟩,0),(2,⟨#[105,110,116]⟩,0),(1,⟨#[109,97,105,110]⟩,0),(4,⟨#[40]⟩,0),(4,⟨#[41]⟩,0),(4,⟨#[123]⟩,0),(1,⟨#[83]⟩,0),(4,⟨#[42]⟩,0),(1,⟨#[97]⟩,0),(4,⟨#[61]⟩,0),(2,⟨#[110,101,119]⟩,0),(1,⟨#[83]⟩,0),(4,⟨#[59]⟩,0),(2,⟨#[102,114,101,101]⟩,0),(4,⟨#[40]⟩,0),(1,⟨#[97]⟩,0),(4,⟨#[41]⟩,0),(4,⟨#[59]⟩,0),(2,⟨#[114,101,116,117,114,110]⟩,0),(3,⟨#[48]⟩,0),(4,⟨#[59]⟩,0),(4,⟨#[125]⟩,0)]
theorem Gf:kP Ct 31 (fG Ct Ct.size 0)=some FO:=by kernel_rfl
def QA (l:List oZ):Prop:=∃l1 c1 l2 c2:Int,l=[⟨1,(true,bS),EL,[⟨7,0,bS,l1,c1⟩]⟩,⟨9,bF,EL,[]⟩,⟨8,bF,⟨#[]⟩,[⟨1,0,⟨#[]⟩,l2,c2⟩]⟩]
def KA (p:Pg)(V:List Ty)(I:List fV):Prop:=p.snm=bS∧p.nm=o9∧p.ret=bF∧p.fs.map Fd.shp=[(Gc,(true,bS))]∧V=[(true,bS),bF]∧∃l0 c0 l1 c1 l2 c2 l3 c3:Int,I=[⟨12,0,0,0,0,l0,c0⟩,⟨13,0,0,0,0,l1,c1⟩,⟨1,1,0,0,0,l2,c2⟩,⟨18,0,1,0,0,l3,c3⟩]
theorem EM (T:List Tok)(h:T.map Tok.sig=FO++[(5,⟨#[]⟩,0)]):∃shs,QA shs∧qJ T bS [(Gc,(true,bS))] o9 bF shs:=by
 obtain⟨ln,cl,hT0⟩:=EK _ T h;have hT:T=[⟨2,⟨#[115,116,114,117,99,116]⟩,0,ln 0,cl 0⟩,⟨1,⟨#[83]⟩,0,ln 1,cl 1⟩,⟨4,⟨#[123]⟩,0,ln 2,cl 2⟩,⟨1,⟨#[83]⟩,0,ln 3,cl 3⟩,⟨4,⟨#[42]⟩,0,ln 4,cl 4⟩,⟨1,⟨#[110]⟩,0,ln 5,cl 5⟩,⟨4,⟨#[59]⟩,0,ln 6,cl 6⟩,⟨4,⟨#[125]⟩,0,ln 7,cl 7⟩,⟨4,⟨#[59]⟩,0,ln 8,cl 8⟩,⟨2,⟨#[105,110,116]⟩,0,ln 9,cl 9⟩,⟨1,⟨#[109,97,105,110]⟩,0,ln 10,cl 10⟩,⟨4,⟨#[40]⟩,0,ln 11,cl 11⟩,⟨4,⟨#[41]⟩,0,ln 12,cl 12⟩,⟨4,⟨#[123]⟩,0,ln 13,cl 13⟩,⟨1,⟨#[83]⟩,0,ln 14,cl 14⟩,⟨4,⟨#[42]⟩,0,ln 15,cl 15⟩,⟨1,⟨#[97]⟩,0,ln 16,cl 16⟩,⟨4,⟨#[61]⟩,0,ln 17,cl 17⟩,⟨2,⟨#[110,101,119]⟩,0,ln 18,cl 18⟩,⟨1,⟨#[83]⟩,0,ln 19,cl 19⟩,⟨4,⟨#[59]⟩,0,ln 20,cl 20⟩,⟨2,⟨#[102,114,101,101]⟩,0,ln 21,cl 21⟩,⟨4,⟨#[40]⟩,0,ln 22,cl 22⟩,⟨1,⟨#[97]⟩,0,ln 23,cl 23⟩,⟨4,⟨#[41]⟩,0,ln 24,cl 24⟩,⟨4,⟨#[59]⟩,0,ln 25,cl 25⟩,⟨2,⟨#[114,101,116,117,114,110]⟩,0,ln 26,cl 26⟩,⟨3,⟨#[48]⟩,0,ln 27,cl 27⟩,⟨4,⟨#[59]⟩,0,ln 28,cl 28⟩,⟨4,⟨#[125]⟩,0,ln 29,cl 29⟩,⟨5,⟨#[]⟩,0,ln 30,cl 30⟩]:=hT0;clear h hT0;subst hT;refine⟨_,⟨ln 18,cl 18,ln 27,cl 27,rfl⟩, ?_⟩;refine⟨?_,by simp, ?_⟩
 ·exact Cs (A:=[⟨2,⟨#[115,116,114,117,99,116]⟩,0,ln 0,cl 0⟩,⟨1,⟨#[83]⟩,0,ln 1,cl 1⟩,⟨4,⟨#[123]⟩,0,ln 2,cl 2⟩,⟨1,⟨#[83]⟩,0,ln 3,cl 3⟩,⟨4,⟨#[42]⟩,0,ln 4,cl 4⟩,⟨1,⟨#[110]⟩,0,ln 5,cl 5⟩,⟨4,⟨#[59]⟩,0,ln 6,cl 6⟩,⟨4,⟨#[125]⟩,0,ln 7,cl 7⟩,⟨4,⟨#[59]⟩,0,ln 8,cl 8⟩,⟨2,⟨#[105,110,116]⟩,0,ln 9,cl 9⟩,⟨1,⟨#[109,97,105,110]⟩,0,ln 10,cl 10⟩,⟨4,⟨#[40]⟩,0,ln 11,cl 11⟩,⟨4,⟨#[41]⟩,0,ln 12,cl 12⟩,⟨4,⟨#[123]⟩,0,ln 13,cl 13⟩,⟨1,⟨#[83]⟩,0,ln 14,cl 14⟩,⟨4,⟨#[42]⟩,0,ln 15,cl 15⟩,⟨1,⟨#[97]⟩,0,ln 16,cl 16⟩,⟨4,⟨#[61]⟩,0,ln 17,cl 17⟩,⟨2,⟨#[110,101,119]⟩,0,ln 18,cl 18⟩,⟨1,⟨#[83]⟩,0,ln 19,cl 19⟩,⟨4,⟨#[59]⟩,0,ln 20,cl 20⟩,⟨2,⟨#[102,114,101,101]⟩,0,ln 21,cl 21⟩,⟨4,⟨#[40]⟩,0,ln 22,cl 22⟩,⟨1,⟨#[97]⟩,0,ln 23,cl 23⟩,⟨4,⟨#[41]⟩,0,ln 24,cl 24⟩,⟨4,⟨#[59]⟩,0,ln 25,cl 25⟩,⟨2,⟨#[114,101,116,117,114,110]⟩,0,ln 26,cl 26⟩,⟨3,⟨#[48]⟩,0,ln 27,cl 27⟩,⟨4,⟨#[59]⟩,0,ln 28,cl 28⟩,⟨4,⟨#[125]⟩,0,ln 29,cl 29⟩]) (e:=⟨5,⟨#[]⟩,0,ln 30,cl 30⟩) rfl rfl
 ·refine⟨7,10,29,_,_,_,_,_,_,_,_,_,_,_,_,rfl,rfl,rfl,rfl,rfl,rfl,rfl,.cons 3 5 7 (true,bS) ⟨1,⟨#[110]⟩,0,ln 5,cl 5⟩ ⟨4,⟨#[59]⟩,0,ln 6,cl 6⟩ [] (.ptr ⟨1,⟨#[83]⟩,0,ln 3,cl 3⟩ ⟨4,⟨#[42]⟩,0,ln 4,cl 4⟩ rfl rfl rfl rfl) rfl rfl rfl rfl (.nil 7),rfl,rfl,rfl,rfl,rfl,rfl,.int _ rfl rfl,rfl,rfl,rfl,rfl,rfl,rfl,rfl,rfl,rfl, ?_,rfl,rfl,rfl,rfl⟩
  exact .cons 14 21 29 _ _ (.decl ⟨1,⟨#[83]⟩,0,ln 14,cl 14⟩ ⟨4,⟨#[42]⟩,0,ln 15,cl 15⟩ ⟨1,⟨#[97]⟩,0,ln 16,cl 16⟩ ⟨4,⟨#[61]⟩,0,ln 17,cl 17⟩ ⟨4,⟨#[59]⟩,0,ln 20,cl 20⟩ ⟨7,0,⟨#[83]⟩,ln 18,cl 18⟩ 20 rfl rfl rfl rfl rfl rfl rfl rfl rfl (.new ⟨2,⟨#[110,101,119]⟩,0,ln 18,cl 18⟩ ⟨1,⟨#[83]⟩,0,ln 19,cl 19⟩ rfl rfl rfl rfl rfl) rfl rfl) (.cons 21 26 29 _ _ (.free ⟨2,⟨#[102,114,101,101]⟩,0,ln 21,cl 21⟩ ⟨4,⟨#[40]⟩,0,ln 22,cl 22⟩ ⟨1,⟨#[97]⟩,0,ln 23,cl 23⟩ ⟨4,⟨#[41]⟩,0,ln 24,cl 24⟩ ⟨4,⟨#[59]⟩,0,ln 25,cl 25⟩ rfl rfl rfl rfl rfl rfl rfl rfl rfl rfl) (.cons 26 29 29 _ _ (.ret ⟨2,⟨#[114,101,116,117,114,110]⟩,0,ln 26,cl 26⟩ ⟨4,⟨#[59]⟩,0,ln 28,cl 28⟩ ⟨1,0,⟨#[]⟩,ln 27,cl 27⟩ 28 rfl rfl (.num ⟨3,⟨#[48]⟩,0,ln 27,cl 27⟩ rfl rfl) rfl rfl) (.nil 29)))
theorem Gu {p:Pg}(h:QA (p.ss.map Sm.shp)):∃s1 s2 s3:Sm,∃l1 c1 l2 c2:Int,p.ss=[s1,s2,s3]∧s1.kind=1∧s1.ty=(true,bS)∧s1.nm=EL∧s1.es=[⟨7,0,bS,l1,c1⟩]∧s2.kind=9∧s2.nm=EL∧s3.kind=8∧s3.es=[⟨1,0,⟨#[]⟩,l2,c2⟩]:=by
 obtain⟨l1,c1,l2,c2,h⟩:=h
 match hss:p.ss,h with
 |[s1,s2,s3],h=>
  simp only[List.map_cons,List.map_nil,List.cons.injEq,and_true,Sm.shp,oZ.mk.injEq] at h;obtain⟨⟨a1,a2,a3,a4⟩,⟨b1,b2,b3,b4⟩,c1',c2',c3',c4'⟩:=h;exact⟨s1,s2,s3,l1,c1,l2,c2,rfl,a1,a2,a3,a4,b1,b3,c1',c4'⟩
 |[],h=>simp at h
 |[_],h=>simp at h
 |[_,_],h=>simp at h
 |_::_::_::_::_,h=>simp at h
theorem wN {p:Pg}(h:p.fs.map Fd.shp=[(Gc,(true,bS))]):∃fd,p.fs=[fd]∧fd.ty=(true,bS)∧fd.nm=Gc:=by
 match hfs:p.fs,h with
 |[fd],h=>
  simp only[List.map_cons,List.map_nil,List.cons.injEq,and_true,Fd.shp,Prod.mk.injEq] at h;exact⟨fd,rfl,h.2,h.1⟩
 |[],h=>simp at h
 |_::_::_,h=>simp at h
theorem yE (w:H5):Calls prog 52 #[.string Ct] w (yD w KA):=by
 refine wM Ct FO 31 QA bS o9 [(Gc,(true,bS))] bF KA w (by decide) (AJ (by kernel_rfl)) (by decide) Gf (fun T h=>EM T h) (fun p hq h1 h2 h3 h4=> ?_);obtain⟨s1,s2,s3,l1,c1,l2,c2,hss,k1,t1,n1,e1,k2,n2,k3,e3⟩:=Gu hq;obtain⟨fd,hfs,hft,hfn⟩:=wN h2;have hm1:s1∈p.ss:=by rw[hss];simp
 have hm2:s2∈p.ss:=by rw[hss];simp
 have hm3:s3∈p.ss:=by rw[hss];simp
 have hix:mZ p bS=0:=by unfold mZ;rw[h1];rfl
 have hS:(⟨s1.nm,s1.ty.1,s1.ty.2,0,0⟩:Fd)=⟨EL,true,bS,0,0⟩:=by rw[n1,t1]
 refine⟨⟨⟨fd,hfs,by rw[hft,h1]⟩,h3,by rw[h4];rfl, ?_,by rw[hss];simp,fun j hj=> ?_,by rw[hss];simp,by rw[hss];simp[gT,k3]⟩,by rw[h3];decide,by rw[h1];decide,fun f hf=> ?_,by rw[hfs];simp,[(true,bS),bF],[⟨12,0,0,0,0,l1,c1⟩,⟨13,0,0,0,0,s2.ln,s2.cl⟩,⟨1,1,0,0,0,l2,c2⟩,⟨18,0,1,0,0,s3.ln,s3.cl⟩],⟨h1,h3,h4,h2,rfl,l1,c1,s2.ln,s2.cl,l2,c2,s3.ln,s3.cl,rfl⟩,by simp,by simp,fun m L=> ?_⟩
 ·rw[hss]
  refine .cons _ _ _ _ (.inr (.inr ⟨k1,_,e1,.inr (.inr ⟨rfl,h1,t1⟩),by rw[t1,h1],rfl,rfl⟩)) (.cons _ _ _ _ (.inr (.inl ⟨k2,⟨EL,true,bS,0,0⟩, ?_,rfl,rfl⟩)) (.cons _ _ _ _ (.inl ⟨k3,_,e3,.inl ⟨rfl,h4⟩,rfl⟩) (.nil _)));rw[hS,n2];rfl
 ·rw[hss] at hj⊢
  match j,hj with
  |0,_=>rfl
  |1,_=>simp[gT,k1]
  |2,_=>simp[gT,k1,k2]
 ·rw[hfs,Hq] at hf
  rw[hf,hfn];decide
 ·refine DT _ hss ?_
  have g1:=AB (m:=m) (L:=L) (X:=X0 p) (V:=[]) (I:=[]) (S:=[]) (s:=s1) (e:=⟨7,0,bS,l1,c1⟩) rfl hm1 k1 e1 (by simp) (by simp) (AL s1.ty bS l1 c1 hix (by simp) (by simp));rw[t1,n1] at g1;have g2:=AC (m:=m) (p:=p) (L:=L) (X:=X0 p) (V:=[(true,bS)]) (I:=[⟨12,0,0,0,0,l1,c1⟩]) (S:=[(EL,0)]) (s:=s2) (j:=0) (z:=(EL,0)) rfl hm2 k2 (by simp) rfl (by rw[n2];rfl) (Gd _ _ (by rw[n2];rfl));have g3:=Cr (m:=m) (p:=p) (L:=L) (X:=X0 p) (V:=[(true,bS)]) (I:=[⟨12,0,0,0,0,l1,c1⟩,⟨13,0,0,0,0,s2.ln,s2.cl⟩]) (S:=[(EL,0)]) (s:=s3) (e:=⟨1,0,⟨#[]⟩,l2,c2⟩) rfl hm3 k3 e3 (by simp) (AO 0 l2 c2 (by simp) (by simp));exact .cons _ _ _ _ _ _ _ _ _ _ g1 (.cons _ _ _ _ _ _ _ _ _ _ g2 (.cons _ _ _ _ _ _ _ _ _ _ g3 (.nil _ _ _)))
end Go.Proofs.YtjomgckjhcfbgaaGreat
