/- Walks. -/
import Derived.Test.YtjomgckjhcfbgaaGreatS18
set_option maxRecDepth 100000
set_option maxHeartbeats 64000000
set_option linter.all false
namespace Go.Proofs.YtjomgckjhcfbgaaGreat
open Go.RowKit
open _root_.List renaming getElem?_eq_getElem→GN,getElem?_eq_some_iff→GQ,length_append→GU,mem_of_getElem?→GV,length_singleton→G5,take_length→Ha,append_assoc→Hr,length_take→Ht
open _root_.Nat renaming le_refl→He,zero_add→Hf,zero_le→Hg
open Go.RowKit.Below renaming refl→Hw
open Go renaming World→H5
open Go.RowKit renaming Below→H9,Hid→Ia
open Tryz
structure Ag (T Bb MB:Nat)(lv:Option Addr×Nat)(P:List (Int×Int))(N:Int)(F:Int×Int→Int)(C:List (List Int))(Y:List (Int×Int))(at_:Int×Int)(B:Nat)(tg:Nat→Nat)(s:nU)(w0:H5)(TT RB:Nat)(c:dQ)(b:Nat→Nat→Nat)(hi:Nat)(D:Nat)(ac ic:Array Value)(w:H5):Prop where
 as_:As T Bb MB lv P N F C Y at_ B tg s w0 TT RB c b hi w
 r0:w.heap[D]?=some (.cells ac 129 (0,0))
 r1:w.heap[D+1]?=some (.cells ic 42 (0,0))
 z0:tg D=0
 z1:tg (D+1)=0
section
variable {T Bb MB:Nat}{lv:Option Addr×Nat}{P:List (Int×Int)}{N:Int}{F:Int×Int→Int}{C C2:List (List Int)}{Y Y2:List (Int×Int)}{at_ at2:Int×Int}{B:Nat}{tg:Nat→Nat}{s:nU}{w0:H5}{TT RB hi:Nat}{c:dQ}{b:Nat→Nat→Nat}{D:Nat}{ac ic:Array Value}{w w':H5}
theorem Ag.grow (h:Ag T Bb MB lv P N F C Y at_ B tg s w0 TT RB c b hi D ac ic w)(hb:H9 w.heap.size w w'):Ag T Bb MB lv P N F C Y at_ B tg s w0 TT RB c b hi D ac ic w':=
 ⟨h.as_.grow hb,(hb.block D (ae h.r0)).trans h.r0,(hb.block (D+1) (ae h.r1)).trans h.r1,h.z0,h.z1⟩
theorem Ag.mv (h:Ag T Bb MB lv P N F C Y at_ B tg s w0 TT RB c b hi D ac ic w)(hm:aV T Bb MB lv P N F C2 Y2 at2 B tg w w'):∃tg' s',Ag T Bb MB lv P N F C2 Y2 at2 B tg' s' w0 TT RB c b hi D ac ic w'∧Ext (fun q=>tg q≠0) w w'∧(∀k,tg' k≠0→tg k≠0∨w.heap.size≤k)∧∀k,tg k≠0→tg' k=tg k:=by
 obtain⟨tg',s',h1,h2,h3,h4⟩:=h.as_.mv hm;have hz:∀k,tg k=0→k<w.heap.size→tg' k=0:=fun k hk hl=>by
  cases hz:tg' k with
  |zero=>rfl
  |succ q=>
   rcases h3 k (by omega) with e|e
   ·exact absurd hk e
   ·omega
 exact⟨tg',s',⟨h1,h2.heap h.r0 (fun e=>e h.z0),h2.heap h.r1 (fun e=>e h.z1),hz D h.z0 (ae h.r0),hz (D+1) h.z1 (ae h.r1)⟩,h2,h3,h4⟩
theorem Ag.box (h:As T Bb MB lv P N F C Y at_ B tg s w0 TT RB c b hi w)(ac ic:Array Value):Ag T Bb MB lv P N F C Y at_ B tg s w0 TT RB c b hi w.heap.size ac ic ((w.alloc (.cells ac 129)).alloc (.cells ic 42)):=by
 have hz:∀k,w.heap.size≤k→tg k=0:=fun k hk=>by
  cases hz:tg k with
  |zero=>rfl
  |succ q=>have:=(h.wn.lo k (by omega)).2;omega
 exact⟨h.grow (((Hw _ _).alloc (He _) _).alloc (by simp) _),heap_alloc2_old _ _ _,heap_alloc2_new _ _ _,hz _ (He _),hz _ (by omega)⟩
end
section
variable {T Bb MB:Nat}{lv:Option Addr×Nat}{P:List (Int×Int)}{N:Int}{F:Int×Int→Int}{C C2:List (List Int)}{Y Y2:List (Int×Int)}{at_ at2:Int×Int}{B:Nat}{tg:Nat→Nat}{s:nU}{w0:H5}{TT RB hi:Nat}{c:dQ}{b:Nat→Nat→Nat}
theorem ak.lit1 (w:H5)(z:Int){G:Nat}(h:w.heap[G]?=some (.cells #[.int .i64 z] 3 (0,0))):ak w (some ⟨G,0,none⟩) [z]:=fun _=>⟨G,0,rfl,ae h,fun i x hx=>by
 cases i with
 |succ i=>simp at hx
 |zero=>
  obtain rfl:z=x:=by simpa using hx
  exact(rowAt h 0 rfl).1⟩
theorem ak.lit2 (w:H5)(z y:Int){G:Nat}(h:w.heap[G]?=some (.cells #[.int .i64 z,.int .i64 y] 3 (0,0))):ak w (some ⟨G,0,none⟩) [z,y]:=fun _=>⟨G,0,rfl,ae h,fun i x hx=>by
 match i with
 |0=>
  obtain rfl:z=x:=by simpa using hx
  exact(rowAt h 0 rfl).1
 |1=>
  obtain rfl:y=x:=by simpa using hx
  exact(rowAt h 1 rfl).1
 |i+2=>simp at hx⟩
abbrev kZ (D T MB TT:Nat)(f ff v:Int)(a1 a2:Option Addr)(n1 n2 c1 c2 g off len gc n:Nat)(w:H5):Prop:=(w.cell? ⟨D,0,none⟩=some (.pointer (some ⟨T,0,none⟩))∧w.cell? ⟨D,1,none⟩=some (.int .i64 f)∧w.cell? ⟨D,2,none⟩=some (.slice a1 n1 c1)∧w.cell? ⟨D,3,none⟩=some (.slice a2 n2 c2)∧w.cell? ⟨D,4,none⟩=some (.pointer (some ⟨TT,0,none⟩)))∧(w.cell? ⟨D+1,7,none⟩=some (.slice (some ⟨g,off,none⟩) len gc)∧w.cell? ⟨D+1,4,none⟩=some (.int .i64 ff))∧w.cell? ⟨g,off+n,none⟩=some (.int .i64 v)∧D+1<w.heap.size∧w.cell? ⟨T,2,none⟩=some (.map (some MB))∧T<w.heap.size
theorem CZ (w:H5)(h:As T Bb MB lv P N F C Y at_ B tg s w0 TT RB c b hi w)(hN:0≤N∧N≤9000000)(hF:∀x,0≤F x∧F x≤9000000)(f:Int)(hf:bG f)(a1 a2:Option Addr)(n1 n2 c1 c2:Nat)(i:Ins)(ga:Option Addr)(gc:Nat)(hia:i.argsV= .slice ga i.args.length gc)(hmo:∃ao n cap,i.modeV= .slice ao n cap)(hga:ak w0 ga i.args)(hal:i.args.length≤40)(hff:bG i.f)
  (n:Nat)(v:Int)(hn:i.args[n]?=some v)(k:Nat)(hk:k<c.ins.length)(hv:isVar c.nvars v=true)(hnl:c.ins.length≤90000)(hnv:c.nvars≤90000)(hl:C.length+3≤1000000)(hly:Y.length+3≤1000000)
  (hok:∀x∈lL (fun v=>F (f,v)) (F (i.f,(n:Int))) (eG (aW b k) i.d i.args n v) v,x.all (bH N)=true):
  Calls prog 149 #[.agg #[.pointer (some ⟨T,0,none⟩),.int .i64 f,.slice a1 n1 c1,.slice a2 n2 c2,.pointer (some ⟨TT,0,none⟩)],.agg i.cells,.int .i64 (n:Int),.int .i64 (k:Int)] w fun e w'=>e= .returned (.tuple #[])∧aV T Bb MB lv P N F (C++lL (fun v=>F (f,v)) (F (i.f,(n:Int))) (eG (aW b k) i.d i.args n v) v) (Y++(lL (fun v=>F (f,v)) (F (i.f,(n:Int))) (eG (aW b k) i.d i.args n v) v).map fun _=>at_) at_ B tg w w':=by
 obtain⟨D,hD⟩:=zE w.heap.size;have hAG:∀w C Y tg s,Ag T Bb MB lv P N F C Y at_ B tg s w0 TT RB c b hi D #[.pointer (some ⟨T,0,none⟩),.int .i64 f,.slice a1 n1 c1,.slice a2 n2 c2,.pointer (some ⟨TT,0,none⟩)] i.cells w→∀W,H9 w.heap.size w W→zP 195 #[.agg #[.pointer (some ⟨T,0,none⟩),.int .i64 f,.slice a1 n1 c1,.slice a2 n2 c2,.pointer (some ⟨TT,0,none⟩)],.agg i.cells,.int .i64 (n:Int),.int .i64 (k:Int)] W (.bool (eG (aW b k) i.d i.args n v)):=fun w C Y tg s hg W hW=>
  zB W (hg.grow hW).as_ f a1 a2 n1 n2 c1 c2 i ga gc hia hmo hga hal n v hn k hk hv hnl hnv
 have hbox:=Ag.box h #[.pointer (some ⟨T,0,none⟩),.int .i64 f,.slice a1 n1 c1,.slice a2 n2 c2,.pointer (some ⟨TT,0,none⟩)] i.cells;rw[hD] at hbox;obtain⟨mo,mn,mc,hmode⟩:=hmo;obtain⟨ag,hag⟩:=zE (eG (aW b k) i.d i.args n v);rw[hag] at hok hAG⊢;clear hag;obtain⟨op,d,a,bb,ff,nn,sign,argsV,modeV,tgt,els,ln,cl,args⟩:=i;simp only at hia hmode hn hal hff hga hok hAG hbox⊢;subst hia hmode;simp only[Ins.cells] at hbox hAG⊢;obtain⟨W1,hW1⟩:=zE ((w.alloc (.cells #[.pointer (some ⟨T,0,none⟩),.int .i64 f,.slice a1 n1 c1,.slice a2 n2 c2,.pointer (some ⟨TT,0,none⟩)] 129)).alloc (.cells #[.int .i64 op,.int .i64 d,.int .i64 a,.int .i64 bb,.int .i64 ff,.int .i64 nn,.string sign,.slice ga args.length gc,.slice mo mn mc,.int .i64 tgt,.int .i64 els,.int .i64 ln,.int .i64 cl] 42));rw[hW1] at hbox;have hb1:=EA hW1;have hnlen:n<args.length:=(GQ.1 hn).1;have hnI:(n:Int)<(args.length:Int):=by omega
 have hne:args≠[]:=by intro e;rw[e] at hn;simp at hn
 obtain⟨g,off,rfl,_,_⟩:=hga hne;obtain⟨z,hz⟩:=zE (F (ff,(n:Int)));obtain⟨oa,hoa⟩:=zE (F (f,v));have hzb:=hF (ff,(n:Int));have hob:=hF (f,v);rw[hz] at hzb hok⊢;rw[hoa] at hob;obtain⟨hz0,hz9⟩:=hzb;obtain⟨ho0,ho9⟩:=hob;have hvw:bG v:=by have:=bO.1 hv;unfold bG;omega
 have hnw:bG (n:Int):=by unfold bG;omega
 have hcells:∀w C Y tg s,Ag T Bb MB lv P N F C Y at_ B tg s w0 TT RB c b hi D #[.pointer (some ⟨T,0,none⟩),.int .i64 f,.slice a1 n1 c1,.slice a2 n2 c2,.pointer (some ⟨TT,0,none⟩)] #[.int .i64 op,.int .i64 d,.int .i64 a,.int .i64 bb,.int .i64 ff,.int .i64 nn,.string sign,.slice (some ⟨g,off,none⟩) args.length gc,.slice mo mn mc,.int .i64 tgt,.int .i64 els,.int .i64 ln,.int .i64 cl] w→kZ D T MB TT f ff v a1 a2 n1 n2 c1 c2 g off args.length gc n w:=fun w C Y tg s hg=>by
  obtain⟨g',off',e1,_,e3⟩:=hg.as_.ints hga hne;simp only[Option.some.injEq,Addr.mk.injEq,and_true] at e1;obtain⟨rfl,rfl⟩:=e1;exact⟨⟨(rowAt hg.r0 0 rfl).1,(rowAt hg.r0 1 rfl).1,(rowAt hg.r0 2 rfl).1,(rowAt hg.r0 3 rfl).1,(rowAt hg.r0 4 rfl).1⟩,⟨(rowAt hg.r1 7 rfl).1,(rowAt hg.r1 4 rfl).1⟩,e3 n v hn,ae hg.r1,(rowAt hg.as_.wn.row 2 rfl).1,ae hg.as_.wn.row⟩
 have HCELLS:=zH hcells;have HOC:Ia (∀w C Y tg s,Ag T Bb MB lv P N F C Y at_ B tg s w0 TT RB c b hi D #[.pointer (some ⟨T,0,none⟩),.int .i64 f,.slice a1 n1 c1,.slice a2 n2 c2,.pointer (some ⟨TT,0,none⟩)] #[.int .i64 op,.int .i64 d,.int .i64 a,.int .i64 bb,.int .i64 ff,.int .i64 nn,.string sign,.slice (some ⟨g,off,none⟩) args.length gc,.slice mo mn mc,.int .i64 tgt,.int .i64 els,.int .i64 ln,.int .i64 cl] w→zP 107 #[.agg #[.pointer (some ⟨T,0,none⟩),.int .i64 f,.slice a1 n1 c1,.slice a2 n2 c2,.pointer (some ⟨TT,0,none⟩)],.int .i64 v] w (.int .i64 oa)):=fun w C Y tg s hg=>by rw[←hoa];exact xE w hg.as_.wn f v hf hvw a1 a2 n1 n2 c1 c2 _
 have HLK:Ia (∀w C Y tg s,Ag T Bb MB lv P N F C Y at_ B tg s w0 TT RB c b hi D #[.pointer (some ⟨T,0,none⟩),.int .i64 f,.slice a1 n1 c1,.slice a2 n2 c2,.pointer (some ⟨TT,0,none⟩)] #[.int .i64 op,.int .i64 d,.int .i64 a,.int .i64 bb,.int .i64 ff,.int .i64 nn,.string sign,.slice (some ⟨g,off,none⟩) args.length gc,.slice mo mn mc,.int .i64 tgt,.int .i64 els,.int .i64 ln,.int .i64 cl] w→(Instr.lookup 118 (.map (some MB)) (.agg #[.int .i64 ff,.int .i64 (n:Int)]) false).run prog w= .ok (.int .i64 z) w):=fun w C Y tg s hg=>by rw[←hz];exact hg.as_.wn.map.look hff hnw
 have HAG:=zH hAG;have HB1:=zH hb1;have HW1:=zH hW1;have HBOX:=zH hbox;have HOK:=zH hok;have HOA:=zH hoa;have HZW:IntKind.i64.wrap (-z)= -z:=by simp[IntKind.wrap,IntKind.bits,IntKind.signed];omega
 have HZP:IntKind.i64.wrap (z+1)=z+1:=by simp[IntKind.wrap,IntKind.bits,IntKind.signed];omega
 have HZQ:IntKind.i64.wrap (-(z+1))= -(z+1):=by simp[IntKind.wrap,IntKind.bits,IntKind.signed];omega
 have hD1:D+1<W1.heap.size:=ae hbox.r1;clear h hga hn hbox hok hAG hW1 hb1 hcells hz hoa;go_enter func149,ntmps149
 go_upto_region 1 with(fail)
 rw[HW1.out];obtain⟨S0,hS0e⟩:=zE ((fun w'=>w'=W1.drew):H5→Prop);have hS0:S0 W1.drew:=by rw[←hS0e]
 have hbd:Ag T Bb MB lv P N F C Y at_ B tg s w0 TT RB c b hi D #[.pointer (some ⟨T,0,none⟩),.int .i64 f,.slice a1 n1 c1,.slice a2 n2 c2,.pointer (some ⟨TT,0,none⟩)] #[.int .i64 op,.int .i64 d,.int .i64 a,.int .i64 bb,.int .i64 ff,.int .i64 nn,.string sign,.slice (some ⟨g,off,none⟩) args.length gc,.slice mo mn mc,.int .i64 tgt,.int .i64 els,.int .i64 ln,.int .i64 cl] W1.drew:=HBOX.out.grow (Hw _ _).drew;have HCE0:Ia (∀w,S0 w→kZ D T MB TT f ff v a1 a2 n1 n2 c1 c2 g off args.length gc n w∧(Instr.lookup 118 (.map (some MB)) (.agg #[.int .i64 ff,.int .i64 (n:Int)]) false).run prog w= .ok (.int .i64 z) w):=fun w hw=>by rw[←hS0e] at hw;rw[hw];exact And.intro (HCELLS.out _ _ _ _ _ hbd) (HLK.out _ _ _ _ _ hbd)
 have HBD:=zH hbd;clear hS0e hbd;refine aj 10 S0 (by kernel_rfl) ?_;refine zT 0 rfl HCE0.out ?_;(try go_simp);refine zT 1 rfl HCE0.out ?_;(try go_simp);refine zT 2 rfl HCE0.out ?_;(try go_simp);refine zT 3 rfl HCE0.out ?_;(try go_simp);refine zT 4 rfl HCE0.out ?_;(try go_simp);refine zT 5 rfl HCE0.out ?_;(try go_simp);refine zT 6 rfl HCE0.out ?_;(try go_simp);refine zT 7 rfl HCE0.out ?_;(try go_simp);refine zT 8 rfl HCE0.out ?_;(try go_simp);refine zT 9 rfl HCE0.out ?_;(try go_simp);refine zK rfl fun K' hK=> ?_;go_simp;refine hK _ _ ?_;clear hK;refine⟨by kernel_rfl, ?_⟩;clear HCE0 hS0
 by_cases hzz:z=0
 ·have hzb:(z==0)=true:=by rw[hzz];rfl
  have HZZ:=zH hzz;have HAC:Ia (lL (fun v=>F (f,v)) z ag v=[]):=by unfold Ia lL;rw[if_pos hzz]
  clear hzz;go_wp2;refine bodyPost_ret (results_none rfl _ _ _) rfl ?_;rw[HAC.out,List.map_nil,List.append_nil,List.append_nil];exact⟨rfl,(HBD.out.as_.wn.same (Hw _ _)).below (HB1.out.drew)⟩
 ·have hzb:(z==0)=false:=beq_false_of_ne hzz
  have HAC:Ia (lL (fun v=>F (f,v)) z ag v=[[-z,oa]]++(if ag=true then[[-z]] else[])++[[-(z+1),oa,oa+1]]):=by unfold Ia lL;rw[if_neg hzz];simp only[HOA.out]
  have hok1:[-z,oa].all (bH N)=true:=HOK.out _ (by rw[HAC.out];simp);have hok3:[-(z+1),oa,oa+1].all (bH N)=true:=HOK.out _ (by rw[HAC.out];simp);have hok2:ag=true→[-z].all (bH N)=true:=fun e=>HOK.out _ (by rw[HAC.out,if_pos e];simp);have HOK1:=zH hok1;have HOK2:=zH hok2;have HOK3:=zH hok3;clear hzz hok1 hok2 hok3 HLK
  go_upto_region 3 with(fail)
  obtain⟨Wd,hWd⟩:=zE W1.drew;rw[hWd] at HBD;(try rw[hWd]);have hb1d:H9 w.heap.size w Wd:=by rw[←hWd];exact HB1.out.drew
  have HB1D:=zH hb1d;clear hWd hb1d hD1;obtain⟨S1,hS1⟩:=zE ((fun w'=>H9 Wd.heap.size Wd w'):H5→Prop);have hS1d:S1 Wd.drew:=by rw[←hS1];exact(Hw _ _).drew
  have HSB:Ia (∀W,H9 Wd.heap.size Wd W→S1 W):=fun W hW=>by rw[←hS1];exact hW
  have HCE1:Ia (∀w,S1 w→kZ D T MB TT f ff v a1 a2 n1 n2 c1 c2 g off args.length gc n w):=fun w hw=>by rw[←hS1] at hw;exact HCELLS.out _ _ _ _ _ (HBD.out.grow hw)
  clear hS1;refine aj 12 S1 (by kernel_rfl) ?_;refine zT 0 rfl HCE1.out ?_;(try go_simp);refine zT 1 rfl HCE1.out ?_;(try go_simp);refine zT 2 rfl HCE1.out ?_;(try go_simp);refine zT 3 rfl HCE1.out ?_;(try go_simp);refine zT 4 rfl HCE1.out ?_;(try go_simp);refine zT 5 rfl HCE1.out ?_;(try go_simp);refine zT 6 rfl HCE1.out ?_;(try go_simp);refine zT 7 rfl HCE1.out ?_;(try go_simp);refine zT 8 rfl HCE1.out ?_;(try go_simp);refine zT 9 rfl HCE1.out ?_;(try go_simp);refine zO 10 rfl fun K' hK=> ?_;go_simp;go_at_call 107;refine(HOC.out _ _ _ _ _ (HBD.out.grow (Hw _ _).drew)).mono ?_;rintro e w5 ⟨rfl,hb5⟩;have hb5d:H9 Wd.heap.size Wd w5:=(Hw _ _).drew.trans hb5;have hS5:S1 w5:=HSB.out _ hb5d;refine hK _ _ hS5 ?_;clear hK;(try go_simp);refine zO 11 rfl fun K' hK=> ?_;go_simp;(try rw[HZW]);obtain⟨G,hG⟩:=zE w5.heap.size;obtain⟨W8,hW8⟩:=zE (w5.alloc (.cells #[.int .i64 (-z),.int .i64 oa] 3));(try rw[hG]);(try rw[hW8]);have hb8:=gK hW8;have hb8d:H9 Wd.heap.size Wd W8:=hb5d.trans (hb8.mono hb5d.size);have hrG:W8.heap[G]?=some (.cells #[.int .i64 (-z),.int .i64 oa] 3 (0,0)):=by rw[←hW8,←hG];exact alloc_at _ _
  have hS8:S1 W8:=HSB.out _ hb8d;refine hK _ _ hS8 ?_;clear hK;(try go_simp);refine zK rfl fun K' hK=> ?_;go_simp;have HPUT:=zH (iO W8 (HBD.out.grow hb8d).as_.wn hN (some ⟨G,0,none⟩) [-z,oa] 2 (ak.lit2 W8 (-z) oa hrG) HOK1.out (by simp) (by omega) (by omega));go_at_call 56;refine HPUT.out.mono ?_;rintro e w9 ⟨rfl,hmv⟩;refine hK _ _ ?_;clear hK;refine⟨by kernel_rfl, ?_⟩;obtain⟨tg9,s9,hg9,hx9,ho9',hk9⟩:=(HBD.out.grow hb8d).mv hmv;have HG9:=zH hg9;have HX9:=zH hx9;have HO9:=zH ho9';have HK9:=zH hk9;have hb8w:H9 w.heap.size w W8:=HB1D.out.trans (hb8d.mono HB1D.out.size);have HB8W:=zH hb8w;obtain⟨⟨x0,x1,x2,x3,x4⟩,⟨x7,x8⟩,y1,y2,y3,y4⟩:=HCELLS.out _ _ _ _ _ hg9;have HG9R:=zH hg9.r1;have hr1:=hg9.r1;clear hmv hg9 hx9 ho9' hk9 hb8w hb8d hb8 hrG hW8 hG hS8 hS5 hb5d hb5 hS1d HPUT HCE1 HSB;have z0:=(rowAt hr1 0 rfl).1;have z1:=(rowAt hr1 1 rfl).1;have z2:=(rowAt hr1 2 rfl).1;have z3:=(rowAt hr1 3 rfl).1;have z5:=(rowAt hr1 5 rfl).1;have z6:=(rowAt hr1 6 rfl).1;have z8:=(rowAt hr1 8 rfl).1;have z9:=(rowAt hr1 9 rfl).1;have z10:=(rowAt hr1 10 rfl).1;have z11:=(rowAt hr1 11 rfl).1;have z12:=(rowAt hr1 12 rfl).1;clear hr1;have HAGC:=zH (HAG.out w9 _ _ _ _ HG9.out w9 (Hw _ _));have HLAST:Ia (∀(C1:List (List Int))(Y1:List (Int×Int)) tg1 s1 (w1 W:H5)(G:Nat),Ag T Bb MB lv P N F C1 Y1 at_ B tg1 s1 w0 TT RB c b hi D #[.pointer (some ⟨T,0,none⟩),.int .i64 f,.slice a1 n1 c1,.slice a2 n2 c2,.pointer (some ⟨TT,0,none⟩)] #[.int .i64 op,.int .i64 d,.int .i64 a,.int .i64 bb,.int .i64 ff,.int .i64 nn,.string sign,.slice (some ⟨g,off,none⟩) args.length gc,.slice mo mn mc,.int .i64 tgt,.int .i64 els,.int .i64 ln,.int .i64 cl] w1→C1.length+1≤1000000→Y1.length+1≤1000000→H9 w1.heap.size w1 W→W.heap[G]?=some (.cells #[.int .i64 (-(z+1))] 3 (0,0))→Calls prog 106 #[.agg #[.pointer (some ⟨T,0,none⟩),.int .i64 f,.slice a1 n1 c1,.slice a2 n2 c2,.pointer (some ⟨TT,0,none⟩)],.int .i64 v,.slice (some ⟨G,0,none⟩) 1 1] W fun e w'=>e= .returned (.tuple #[])∧aV T Bb MB lv P N F (C1++[[-(z+1),oa,oa+1]]) (Y1++[at_]) at_ B tg1 W w'):=fun C1 Y1 tg1 s1 w1 W G hg hl1 hl2 hW hr=>by
   have:=kw W (hg.grow hW).as_.wn hN f v hf hvw (by rw[HOA.out];omega) a1 a2 n1 n2 c1 c2 (some ⟨TT,0,none⟩) (some ⟨G,0,none⟩) [-(z+1)] 1 (ak.lit1 W _ hr) (fun h=>by cases h) (by simp) (by rw[HOA.out];exact HOK3.out) (by simp) hl1 hl2;rw[HOA.out] at this;exact this
  cases ag with
  |false=>
   go_upto_region 6 with(go_at_call 195;refine HAGC.out.mono ?_;rintro e wz ⟨rfl,hbz⟩;have HGZ:=zH (HG9.out.grow hbz);have HBZ:=zH hbz;clear hbz)
   have HFZ:Ia (∀{C3 Y3 w3},aV T Bb MB lv P N F C3 Y3 at_ B tg9 wz w3→aV T Bb MB lv P N F C3 Y3 at_ B tg w w3):=fun h3=>aV.below HB8W.out (oK HX9.out HO9.out HK9.out (aV.below HBZ.out h3));clear x0 x1 x2 x3 x4 x7 x8 y1 y2 y3 y4 z0 z1 z2 z3 z5 z6 z8 z9 z10 z11 z12;obtain⟨S2,hS2⟩:=zE ((fun w'=>H9 wz.heap.size wz w'):H5→Prop);have hS2d:S2 wz.drew:=by rw[←hS2];exact(Hw _ _).drew
   have HSB2:Ia (∀W,H9 wz.heap.size wz W→S2 W):=fun W hW=>by rw[←hS2];exact hW
   have HCE2:Ia (∀w,S2 w→kZ D T MB TT f ff v a1 a2 n1 n2 c1 c2 g off args.length gc n w):=fun w hw=>by rw[←hS2] at hw;exact HCELLS.out _ _ _ _ _ (HGZ.out.grow hw)
   clear hS2;refine aj 10 S2 (by kernel_rfl) ?_;refine zT 0 rfl HCE2.out ?_;(try go_simp);refine zT 1 rfl HCE2.out ?_;(try go_simp);refine zT 2 rfl HCE2.out ?_;(try go_simp);refine zT 3 rfl HCE2.out ?_;(try go_simp);refine zT 4 rfl HCE2.out ?_;(try go_simp);refine zT 5 rfl HCE2.out ?_;(try go_simp);refine zT 6 rfl HCE2.out ?_;(try go_simp);refine zT 7 rfl HCE2.out ?_;(try go_simp);refine zT 8 rfl HCE2.out ?_;(try go_simp);refine zO 9 rfl fun K' hK=> ?_;go_simp;(try rw[HZQ]);obtain⟨G2,hG2⟩:=zE wz.heap.size;obtain⟨W12,hW12⟩:=zE ((wz.alloc (.cells #[.int .i64 (-(z+1))] 3)).drew);(try rw[hG2]);(try rw[hW12]);have hb12:H9 wz.heap.size wz W12:=by rw[←hW12];exact((Hw _ _).alloc (He _) _).drew
   have hrG2:W12.heap[G2]?=some (.cells #[.int .i64 (-(z+1))] 3 (0,0)):=by rw[←hW12,←hG2];exact alloc_at _ _
   have hS12:S2 W12:=HSB2.out _ hb12;refine hK _ _ hS12 ?_;clear hK;(try go_simp);refine zK rfl fun K' hK=> ?_;go_simp;have HCHG:=zH (HLAST.out _ _ _ _ wz W12 G2 HGZ.out (by simp only[GU,G5];omega) (by simp only[GU,G5];omega) hb12 hrG2);go_at_call 106;refine HCHG.out.mono ?_;rintro e w13 ⟨rfl,hmv13⟩;refine hK _ _ ?_;clear hK;refine⟨by kernel_rfl, ?_⟩;have hFIN:=(HFZ.out (aV.below hb12 hmv13))
   have HFIN:=zH hFIN;clear hFIN hmv13 hb12 hrG2 hW12 hG2 hS12 hS2d HCHG HCE2 HSB2;go_wp2
   go_end0
   refine⟨rfl, ?_⟩;rw[HAC.out];simpa using HFIN.out
  |true=>
   go_upto_region 5 with(go_at_call 195;refine HAGC.out.mono ?_;rintro e wy ⟨rfl,hby⟩;have HGY:=zH (HG9.out.grow hby);have HBY:=zH hby;clear hby)
   clear x0 x1 x2 x3 x4 x7 x8 y1 y2 y3 y4 z0 z1 z2 z3 z5 z6 z8 z9 z10 z11 z12;obtain⟨⟨x0,x1,x2,x3,x4⟩,⟨x7,x8⟩,y1,y2,y3,y4⟩:=HCELLS.out _ _ _ _ _ HGY.out;obtain⟨G1,hG1⟩:=zE wy.heap.size;obtain⟨W10,hW10⟩:=zE (wy.alloc (.cells #[.int .i64 (-z)] 3));have hb10:=gK hW10;have hrG1:W10.heap[G1]?=some (.cells #[.int .i64 (-z)] 3 (0,0)):=by rw[←hW10,←hG1];exact alloc_at _ _
   have HPUT2:=zH (iO W10 (HGY.out.grow hb10).as_.wn hN (some ⟨G1,0,none⟩) [-z] 1 (ak.lit1 W10 (-z) hrG1) (HOK2.out (by first|rfl|trivial)) (by simp) (by simp only[GU,G5];omega) (by simp only[GU,G5];omega));have HG10:=zH (HGY.out.grow hb10);have HB10:=zH hb10;have HW10:=zH hW10;have HG1:=zH hG1;clear hb10 hrG1 hW10 hG1
   go_upto_region 6 with(go_at_call 56;(try rw[HZW]);(try rw[HG1.out]);(try rw[HW10.out]);refine HPUT2.out.mono ?_;rintro e wz ⟨rfl,hmvz⟩;obtain⟨tgz,sz,hgz,hxz,hoz,hkz⟩:=HG10.out.mv hmvz;have HGZ:=zH hgz;have HXZ:=zH hxz;have HOZ:=zH hoz;have HKZ:=zH hkz;clear hmvz hgz hxz hoz hkz)
   have HFZ:Ia (∀{C3 Y3 w3},aV T Bb MB lv P N F C3 Y3 at_ B tgz wz w3→aV T Bb MB lv P N F C3 Y3 at_ B tg w w3):=fun h3=>aV.below HB8W.out (oK HX9.out HO9.out HK9.out (aV.below HBY.out (aV.below HB10.out (oK HXZ.out HOZ.out HKZ.out h3))));have z0:True:=trivial;have z1:=z0;have z2:=z0;have z3:=z0;have z5:=z0;have z6:=z0;have z8:=z0;have z9:=z0;have z10:=z0;have z11:=z0;have z12:=z0;clear x0 x1 x2 x3 x4 x7 x8 y1 y2 y3 y4 z0 z1 z2 z3 z5 z6 z8 z9 z10 z11 z12;obtain⟨S2,hS2⟩:=zE ((fun w'=>H9 wz.heap.size wz w'):H5→Prop);have hS2d:S2 wz.drew:=by rw[←hS2];exact(Hw _ _).drew
   have HSB2:Ia (∀W,H9 wz.heap.size wz W→S2 W):=fun W hW=>by rw[←hS2];exact hW
   have HCE2:Ia (∀w,S2 w→kZ D T MB TT f ff v a1 a2 n1 n2 c1 c2 g off args.length gc n w):=fun w hw=>by rw[←hS2] at hw;exact HCELLS.out _ _ _ _ _ (HGZ.out.grow hw)
   clear hS2;refine aj 10 S2 (by kernel_rfl) ?_;refine zT 0 rfl HCE2.out ?_;(try go_simp);refine zT 1 rfl HCE2.out ?_;(try go_simp);refine zT 2 rfl HCE2.out ?_;(try go_simp);refine zT 3 rfl HCE2.out ?_;(try go_simp);refine zT 4 rfl HCE2.out ?_;(try go_simp);refine zT 5 rfl HCE2.out ?_;(try go_simp);refine zT 6 rfl HCE2.out ?_;(try go_simp);refine zT 7 rfl HCE2.out ?_;(try go_simp);refine zT 8 rfl HCE2.out ?_;(try go_simp);refine zO 9 rfl fun K' hK=> ?_;go_simp;(try rw[HZQ]);obtain⟨G2,hG2⟩:=zE wz.heap.size;obtain⟨W12,hW12⟩:=zE ((wz.alloc (.cells #[.int .i64 (-(z+1))] 3)).drew);(try rw[hG2]);(try rw[hW12]);have hb12:H9 wz.heap.size wz W12:=by rw[←hW12];exact((Hw _ _).alloc (He _) _).drew
   have hrG2:W12.heap[G2]?=some (.cells #[.int .i64 (-(z+1))] 3 (0,0)):=by rw[←hW12,←hG2];exact alloc_at _ _
   have hS12:S2 W12:=HSB2.out _ hb12;refine hK _ _ hS12 ?_;clear hK;(try go_simp);refine zK rfl fun K' hK=> ?_;go_simp;have HCHG:=zH (HLAST.out _ _ _ _ wz W12 G2 HGZ.out (by simp only[GU,G5];omega) (by simp only[GU,G5];omega) hb12 hrG2);go_at_call 106;refine HCHG.out.mono ?_;rintro e w13 ⟨rfl,hmv13⟩;refine hK _ _ ?_;clear hK;refine⟨by kernel_rfl, ?_⟩;have hFIN:=(HFZ.out (aV.below hb12 hmv13))
   have HFIN:=zH hFIN;clear hFIN hmv13 hb12 hrG2 hW12 hG2 hS12 hS2d HCHG HCE2 HSB2;go_wp2
   go_end0
   refine⟨rfl, ?_⟩;rw[HAC.out];simpa using HFIN.out
end
def aL (T Bb MB:Nat)(lv:Option Addr×Nat)(P:List (Int×Int))(N:Int)(F:Int×Int→Int)(at_:Int×Int)(B:Nat)(tg:Nat→Nat)(w0:H5)(TT RB:Nat)(c:dQ)(b:Nat→Nat→Nat)(hi:Nat)(D:Nat)(ac ic:Array Value)(W1:H5)(C:List (List Int))(Y:List (Int×Int))(w:H5):Prop:=
 ∃tg' s',Ag T Bb MB lv P N F C Y at_ B tg' s' w0 TT RB c b hi D ac ic w∧Ext (fun q=>tg q≠0) W1 w∧(∀k,tg' k≠0→tg k≠0∨W1.heap.size≤k)∧∀k,tg k≠0→tg' k=tg k
section
variable {T Bb MB:Nat}{lv:Option Addr×Nat}{P:List (Int×Int)}{N:Int}{F:Int×Int→Int}{C C2:List (List Int)}{Y Y2:List (Int×Int)}{at_ at2:Int×Int}{B:Nat}{tg:Nat→Nat}{s:nU}{w0:H5}{TT RB hi:Nat}{c:dQ}{b:Nat→Nat→Nat}{D:Nat}{ac ic:Array Value}{W1 w w' w2:H5}
theorem aL.wn (h:aL T Bb MB lv P N F at_ B tg w0 TT RB c b hi D ac ic W1 C Y w):aV T Bb MB lv P N F C Y at_ B tg W1 w:=by
 obtain⟨tg',s',h1,h2,h3,h4⟩:=h;exact⟨tg',s',h1.as_.wn,h2,h3,h4⟩
theorem aL.start (h:Ag T Bb MB lv P N F C Y at_ B tg s w0 TT RB c b hi D ac ic W1):aL T Bb MB lv P N F at_ B tg w0 TT RB c b hi D ac ic W1 C Y W1:=⟨tg,s,h,Ext.refl _ _,fun _ hk=> .inl hk,fun _ _=>rfl⟩
theorem aL.grow (h:aL T Bb MB lv P N F at_ B tg w0 TT RB c b hi D ac ic W1 C Y w)(hb:H9 w.heap.size w w'):aL T Bb MB lv P N F at_ B tg w0 TT RB c b hi D ac ic W1 C Y w':=by
 obtain⟨tg',s',h1,h2,h3,h4⟩:=h;exact⟨tg',s',h1.grow hb,h2.trans (Ext.of_below_size (M:=fun _=>False) hb) (fun q h=>h.elim),h3,h4⟩
theorem aL.of {tg1:Nat→Nat}{s1:nU}(h1:Ag T Bb MB lv P N F C Y at_ B tg1 s1 w0 TT RB c b hi D ac ic w)(h2:Ext (fun q=>tg q≠0) W1 w)(h3:∀k,tg1 k≠0→tg k≠0∨W1.heap.size≤k)(h4:∀k,tg k≠0→tg1 k=tg k)(hm:aV T Bb MB lv P N F C2 Y2 at_ B tg1 w w'):aL T Bb MB lv P N F at_ B tg w0 TT RB c b hi D ac ic W1 C2 Y2 w':=by
 obtain⟨tg2,s2,g1,g2,g3,g4⟩:=h1.mv hm;refine⟨tg2,s2,g1,h2.trans g2 (fun q hq=>h3 q hq),fun k hk=> ?_,fun k hk=> ?_⟩
 ·rcases g3 k hk with e|e
  ·exact h3 k e
  ·exact .inr (Nat.le_trans h2.size e)
 ·have:=h4 k hk
  rw[g4 k (by omega),this]
theorem aL.then_ {tg1:Nat→Nat}{s1:nU}(h1:Ag T Bb MB lv P N F C Y at_ B tg1 s1 w0 TT RB c b hi D ac ic w)(h2:Ext (fun q=>tg q≠0) W1 w)(h3:∀k,tg1 k≠0→tg k≠0∨W1.heap.size≤k)(h4:∀k,tg k≠0→tg1 k=tg k)(hb:H9 w.heap.size w w2)(hm:aV T Bb MB lv P N F C2 Y2 at_ B tg1 w2 w'):aL T Bb MB lv P N F at_ B tg w0 TT RB c b hi D ac ic W1 C2 Y2 w':=
 aL.of h1 h2 h3 h4 (aV.below hb hm)
theorem aL.put2 (h:aL T Bb MB lv P N F at_ B tg w0 TT RB c b hi D ac ic W1 C Y w)(hN:0≤N∧N≤9000000)(x y:Int)(hok:[x,y].all (bH N)=true)(hl:C.length+1≤1000000)(hly:Y.length+1≤1000000):
  Calls prog 56 #[.pointer (some ⟨T,0,none⟩),.slice (some ⟨w.heap.size,0,none⟩) 2 2] (w.alloc (.cells #[.int .i64 x,.int .i64 y] 3)) fun e w'=>e= .returned (.tuple #[])∧aL T Bb MB lv P N F at_ B tg w0 TT RB c b hi D ac ic W1 (C++[[x,y]]) (Y++[at_]) w':=by
 have hb:H9 w.heap.size w (w.alloc (.cells #[.int .i64 x,.int .i64 y] 3)):=(Hw _ _).alloc (He _) _;obtain⟨tg',s',h1,h2,h3,h4⟩:=h;refine(iO _ (h1.grow hb).as_.wn hN (some ⟨w.heap.size,0,none⟩) [x,y] 2 (ak.lit2 _ x y (alloc_at _ _)) hok (by simp) hl hly).mono ?_;rintro e w2 ⟨rfl,hm⟩;exact⟨rfl,aL.then_ h1 h2 h3 h4 hb hm⟩
theorem aL.put1 (h:aL T Bb MB lv P N F at_ B tg w0 TT RB c b hi D ac ic W1 C Y w)(hN:0≤N∧N≤9000000)(x:Int)(hok:[x].all (bH N)=true)(hl:C.length+1≤1000000)(hly:Y.length+1≤1000000):
  Calls prog 56 #[.pointer (some ⟨T,0,none⟩),.slice (some ⟨w.heap.size,0,none⟩) 1 1] (w.alloc (.cells #[.int .i64 x] 3)) fun e w'=>e= .returned (.tuple #[])∧aL T Bb MB lv P N F at_ B tg w0 TT RB c b hi D ac ic W1 (C++[[x]]) (Y++[at_]) w':=by
 have hb:H9 w.heap.size w (w.alloc (.cells #[.int .i64 x] 3)):=(Hw _ _).alloc (He _) _;obtain⟨tg',s',h1,h2,h3,h4⟩:=h;refine(iO _ (h1.grow hb).as_.wn hN (some ⟨w.heap.size,0,none⟩) [x] 1 (ak.lit1 _ x (alloc_at _ _)) hok (by simp) hl hly).mono ?_;rintro e w2 ⟨rfl,hm⟩;exact⟨rfl,aL.then_ h1 h2 h3 h4 hb hm⟩
theorem aL.o (h:aL T Bb MB lv P N F at_ B tg w0 TT RB c b hi D ac ic W1 C Y w)(f v:Int)(hf:bG f)(hv:bG v)(a1 a2:Option Addr)(n1 n2 c1 c2:Nat)(tp:Option Addr):
  zP 107 #[.agg #[.pointer (some ⟨T,0,none⟩),.int .i64 f,.slice a1 n1 c1,.slice a2 n2 c2,.pointer tp],.int .i64 v] w (.int .i64 (F (f,v))):=by
 obtain⟨tg',s',h1,h2,h3,h4⟩:=h;exact xE w h1.as_.wn f v hf hv a1 a2 n1 n2 c1 c2 tp
theorem aL.look (h:aL T Bb MB lv P N F at_ B tg w0 TT RB c b hi D ac ic W1 C Y w){f v:Int}(hf:bG f)(hv:bG v):(Instr.lookup 118 (.map (some MB)) (.agg #[.int .i64 f,.int .i64 v]) false).run prog w= .ok (.int .i64 (F (f,v))) w:=by
 obtain⟨tg',s',h1,h2,h3,h4⟩:=h;exact h1.as_.wn.map.look hf hv
theorem aL.rows (h:aL T Bb MB lv P N F at_ B tg w0 TT RB c b hi D ac ic W1 C Y w):w.heap[D]?=some (.cells ac 129 (0,0))∧w.heap[D+1]?=some (.cells ic 42 (0,0))∧w.cell? ⟨T,2,none⟩=some (.map (some MB))∧T<w.heap.size:=by
 obtain⟨tg',s',h1,h2,h3,h4⟩:=h;exact⟨h1.r0,h1.r1,(rowAt h1.as_.wn.row 2 rfl).1,ae h1.as_.wn.row⟩
end
abbrev jQ (D T TT:Nat)(f op d a bb ff nn:Int)(sign:ByteArray)(ga mo:Option Addr)(nl gc mn mc:Nat)(tgt els ln cl:Int)(a1 a2:Option Addr)(n1 n2 c1 c2:Nat)(w:H5):Prop:=
 (w.cell? ⟨D,0,none⟩=some (.pointer (some ⟨T,0,none⟩))∧w.cell? ⟨D,1,none⟩=some (.int .i64 f)∧w.cell? ⟨D,2,none⟩=some (.slice a1 n1 c1)∧w.cell? ⟨D,3,none⟩=some (.slice a2 n2 c2)∧w.cell? ⟨D,4,none⟩=some (.pointer (some ⟨TT,0,none⟩)))∧
 (w.cell? ⟨D+1,0,none⟩=some (.int .i64 op)∧w.cell? ⟨D+1,1,none⟩=some (.int .i64 d)∧w.cell? ⟨D+1,2,none⟩=some (.int .i64 a)∧w.cell? ⟨D+1,3,none⟩=some (.int .i64 bb)∧w.cell? ⟨D+1,4,none⟩=some (.int .i64 ff)∧w.cell? ⟨D+1,5,none⟩=some (.int .i64 nn)∧w.cell? ⟨D+1,6,none⟩=some (.string sign)∧w.cell? ⟨D+1,7,none⟩=some (.slice ga nl gc)∧w.cell? ⟨D+1,8,none⟩=some (.slice mo mn mc)∧w.cell? ⟨D+1,9,none⟩=some (.int .i64 tgt)∧w.cell? ⟨D+1,10,none⟩=some (.int .i64 els)∧w.cell? ⟨D+1,11,none⟩=some (.int .i64 ln)∧w.cell? ⟨D+1,12,none⟩=some (.int .i64 cl))∧D+1<w.heap.size
theorem rM {D T TT:Nat}{f op d a bb ff nn:Int}{sign:ByteArray}{ga mo:Option Addr}{nl gc mn mc:Nat}{tgt els ln cl:Int}{a1 a2:Option Addr}{n1 n2 c1 c2:Nat}{w:H5}(h0:w.heap[D]?=some (.cells #[.pointer (some ⟨T,0,none⟩),.int .i64 f,.slice a1 n1 c1,.slice a2 n2 c2,.pointer (some ⟨TT,0,none⟩)] 129 (0,0)))(h1:w.heap[D+1]?=some (.cells #[.int .i64 op,.int .i64 d,.int .i64 a,.int .i64 bb,.int .i64 ff,.int .i64 nn,.string sign,.slice ga nl gc,.slice mo mn mc,.int .i64 tgt,.int .i64 els,.int .i64 ln,.int .i64 cl] 42 (0,0))):jQ D T TT f op d a bb ff nn sign ga mo nl gc mn mc tgt els ln cl a1 a2 n1 n2 c1 c2 w:=
 ⟨⟨(rowAt h0 0 rfl).1,(rowAt h0 1 rfl).1,(rowAt h0 2 rfl).1,(rowAt h0 3 rfl).1,(rowAt h0 4 rfl).1⟩,⟨(rowAt h1 0 rfl).1,(rowAt h1 1 rfl).1,(rowAt h1 2 rfl).1,(rowAt h1 3 rfl).1,(rowAt h1 4 rfl).1,(rowAt h1 5 rfl).1,(rowAt h1 6 rfl).1,(rowAt h1 7 rfl).1,(rowAt h1 8 rfl).1,(rowAt h1 9 rfl).1,(rowAt h1 10 rfl).1,(rowAt h1 11 rfl).1,(rowAt h1 12 rfl).1⟩,ae h1⟩
def qc (o:Int→Int)(a:Int):List (List Int):=if o (-1)=0 then[] else[[-(o (-1)),o a],[o (-1),-(o a)],[-(o (-1)+1),o a+1]]
def jf (F:Int×Int→Int)(o:Int→Int)(beh:Int→Bool)(i:Ins):Nat→List Int→List (List Int)
 |_,[]=>[]
 |n,a::r=>lL o (F (i.f,(n:Int))) (eG beh i.d i.args n a) a++jf F o beh i (n+1) r
theorem oL {P:List (Int×Int)}{o:Int→Int}{beh:Int→Bool}{i:Ins}:∀(l:List Int)(n:Nat),jf (aM 0 P) o beh i n l=mh P o beh i n l
 |[],_=>rfl
 |a::r,n=>by unfold jf mh;rw[oL r (n+1)]
theorem rO {F:Int×Int→Int}{o:Int→Int}{beh:Int→Bool}{i:Ins}{a:Int}:∀(l:List Int)(n:Nat),jf F o beh i n (l++[a])=jf F o beh i n l++lL o (F (i.f,((n+l.length:Nat):Int))) (eG beh i.d i.args (n+l.length) a) a
 |[],n=>by simp[jf]
 |x::r,n=>by
  rw[List.cons_append];unfold jf;rw[rO r (n+1),Hr,List.length_cons,show n+1+r.length=n+(r.length+1) by omega]
theorem En {o:Int→Int}{p a:Int}{ag:Bool}:(lL o p ag a).length≤3:=by
 unfold lL
 by_cases h:p=0
 ·rw[if_pos h];simp
 ·rw[if_neg h];cases ag<;>simp
theorem oM {F:Int×Int→Int}{o:Int→Int}{beh:Int→Bool}{i:Ins}:∀(l:List Int)(n:Nat),(jf F o beh i n l).length≤3*l.length
 |[],_=>by simp[jf]
 |x::r,n=>by
  unfold jf;rw[GU,List.length_cons];have h1:=oM (F:=F) (o:=o) (beh:=beh) (i:=i) r (n+1);have h2:=En (o:=o) (p:=F (i.f,(n:Int))) (a:=x) (ag:=eG beh i.d i.args n x);omega
theorem vF {F:Int×Int→Int}{o:Int→Int}{beh:Int→Bool}{i:Ins}{a:Int}{x:List Int}:∀(l:List Int)(n j:Nat),l[j]?=some a→x∈lL o (F (i.f,((n+j:Nat):Int))) (eG beh i.d i.args (n+j) a) a→x∈jf F o beh i n l
 |[],_,_,h,_=>by simp at h
 |y::r,n,0,h,hx=>by
  obtain rfl:y=a:=by simpa using h
  unfold jf;exact List.mem_append.2 (.inl hx)
 |y::r,n,j+1,h,hx=>by
  unfold jf;refine List.mem_append.2 (.inr (vF r (n+1) j (by simpa using h) ?_));rw[show n+1+j=n+(j+1) by omega];exact hx
def jR (F:Int×Int→Int)(f:Int)(beh:Int→Bool)(i:Ins):List (List Int):=
 jf F (fun v=>F (f,v)) beh i 0 i.args++(if 0<F (f,i.d) then[[-(F (f,i.d)),F (i.f,-1)],[F (f,i.d),-(F (i.f,-1))],[-(F (f,i.d)+1),F (i.f,-1)+1],[F (f,i.d)+1,-(F (i.f,-1)+1)]] else[])
section
variable {T Bb MB:Nat}{lv:Option Addr×Nat}{P:List (Int×Int)}{N:Int}{F:Int×Int→Int}{C C2:List (List Int)}{Y Y2:List (Int×Int)}{at_ at2:Int×Int}{B:Nat}{tg:Nat→Nat}{s:nU}{w0:H5}{TT RB hi:Nat}{c:dQ}{b:Nat→Nat→Nat}
theorem C8 (w:H5)(h:As T Bb MB lv P N F C Y at_ B tg s w0 TT RB c b hi w)(hN:0≤N∧N≤9000000)(hF:∀x,0≤F x∧F x≤9000000)(f:Int)(hf:bG f)(a1 a2:Option Addr)(n1 n2 c1 c2:Nat)(i:Ins)(ga:Option Addr)(gc:Nat)(hia:i.argsV= .slice ga i.args.length gc)(hmo:∃ao n cap,i.modeV= .slice ao n cap)(hav:bG i.a)
  (hl:C.length+3≤1000000)(hly:Y.length+3≤1000000)(hok:∀x∈qc (fun v=>F (f,v)) i.a,x.all (bH N)=true):
  Calls prog 110 #[.agg #[.pointer (some ⟨T,0,none⟩),.int .i64 f,.slice a1 n1 c1,.slice a2 n2 c2,.pointer (some ⟨TT,0,none⟩)],.agg i.cells] w fun e w'=>e= .returned (.tuple #[])∧aV T Bb MB lv P N F (C++qc (fun v=>F (f,v)) i.a) (Y++(qc (fun v=>F (f,v)) i.a).map fun _=>at_) at_ B tg w w':=by
 obtain⟨D,hD⟩:=zE w.heap.size;have hbox:=Ag.box h #[.pointer (some ⟨T,0,none⟩),.int .i64 f,.slice a1 n1 c1,.slice a2 n2 c2,.pointer (some ⟨TT,0,none⟩)] i.cells;rw[hD] at hbox;obtain⟨mo,mn,mc,hmode⟩:=hmo;obtain⟨op,d,a,bb,ff,nn,sign,argsV,modeV,tgt,els,ln,cl,args⟩:=i;simp only at hia hmode hav hok⊢;subst hia hmode;simp only[Ins.cells] at hbox⊢;obtain⟨W1,hW1⟩:=zE ((w.alloc (.cells #[.pointer (some ⟨T,0,none⟩),.int .i64 f,.slice a1 n1 c1,.slice a2 n2 c2,.pointer (some ⟨TT,0,none⟩)] 129)).alloc (.cells #[.int .i64 op,.int .i64 d,.int .i64 a,.int .i64 bb,.int .i64 ff,.int .i64 nn,.string sign,.slice ga args.length gc,.slice mo mn mc,.int .i64 tgt,.int .i64 els,.int .i64 ln,.int .i64 cl] 42));rw[hW1] at hbox;have hb1:=EA hW1;have HS0:Ia (aL T Bb MB lv P N F at_ B tg w0 TT RB c b hi D #[.pointer (some ⟨T,0,none⟩),.int .i64 f,.slice a1 n1 c1,.slice a2 n2 c2,.pointer (some ⟨TT,0,none⟩)] #[.int .i64 op,.int .i64 d,.int .i64 a,.int .i64 bb,.int .i64 ff,.int .i64 nn,.string sign,.slice ga args.length gc,.slice mo mn mc,.int .i64 tgt,.int .i64 els,.int .i64 ln,.int .i64 cl] W1 C Y W1):=aL.start hbox;have HCE:Ia (∀C2 Y2 w2,aL T Bb MB lv P N F at_ B tg w0 TT RB c b hi D #[.pointer (some ⟨T,0,none⟩),.int .i64 f,.slice a1 n1 c1,.slice a2 n2 c2,.pointer (some ⟨TT,0,none⟩)] #[.int .i64 op,.int .i64 d,.int .i64 a,.int .i64 bb,.int .i64 ff,.int .i64 nn,.string sign,.slice ga args.length gc,.slice mo mn mc,.int .i64 tgt,.int .i64 els,.int .i64 ln,.int .i64 cl] W1 C2 Y2 w2→jQ D T TT f op d a bb ff nn sign ga mo args.length gc mn mc tgt els ln cl a1 a2 n1 n2 c1 c2 w2∧w2.cell? ⟨T,2,none⟩=some (.map (some MB))∧T<w2.heap.size):=fun C2 Y2 w2 h2=>by
  obtain⟨r0,r1,r2,r3⟩:=h2.rows;exact⟨rM r0 r1,r2,r3⟩
 have HW1:=zH hW1;have HB1:=zH hb1;clear hW1 hb1 h hbox;obtain⟨r,hr⟩:=zE (F (f,-1));obtain⟨x,hx⟩:=zE (F (f,a));have hrb:=hF (f,-1);have hxb:=hF (f,a);rw[hr] at hrb;rw[hx] at hxb;obtain⟨hr0,hr9⟩:=hrb;obtain⟨hx0,hx9⟩:=hxb;have HOR:Ia (∀C2 Y2 w2,aL T Bb MB lv P N F at_ B tg w0 TT RB c b hi D #[.pointer (some ⟨T,0,none⟩),.int .i64 f,.slice a1 n1 c1,.slice a2 n2 c2,.pointer (some ⟨TT,0,none⟩)] #[.int .i64 op,.int .i64 d,.int .i64 a,.int .i64 bb,.int .i64 ff,.int .i64 nn,.string sign,.slice ga args.length gc,.slice mo mn mc,.int .i64 tgt,.int .i64 els,.int .i64 ln,.int .i64 cl] W1 C2 Y2 w2→zP 107 #[.agg #[.pointer (some ⟨T,0,none⟩),.int .i64 f,.slice a1 n1 c1,.slice a2 n2 c2,.pointer (some ⟨TT,0,none⟩)],.int .i64 (-1)] w2 (.int .i64 r)):=fun C2 Y2 w2 h2=>by rw[←hr];exact h2.o f (-1) hf (by unfold bG;omega) a1 a2 n1 n2 c1 c2 _
 have HOX:Ia (∀C2 Y2 w2,aL T Bb MB lv P N F at_ B tg w0 TT RB c b hi D #[.pointer (some ⟨T,0,none⟩),.int .i64 f,.slice a1 n1 c1,.slice a2 n2 c2,.pointer (some ⟨TT,0,none⟩)] #[.int .i64 op,.int .i64 d,.int .i64 a,.int .i64 bb,.int .i64 ff,.int .i64 nn,.string sign,.slice ga args.length gc,.slice mo mn mc,.int .i64 tgt,.int .i64 els,.int .i64 ln,.int .i64 cl] W1 C2 Y2 w2→zP 107 #[.agg #[.pointer (some ⟨T,0,none⟩),.int .i64 f,.slice a1 n1 c1,.slice a2 n2 c2,.pointer (some ⟨TT,0,none⟩)],.int .i64 a] w2 (.int .i64 x)):=fun C2 Y2 w2 h2=>by rw[←hx];exact h2.o f a hf hav a1 a2 n1 n2 c1 c2 _
 have HR:Ia (qc (fun v=>F (f,v)) a=if r=0 then[] else[[-r,x],[r,-x],[-(r+1),x+1]]):=by unfold Ia qc;simp only[hr,hx]
 have HOK:=zH hok;have w1:IntKind.i64.wrap (-r)= -r:=by simp[IntKind.wrap,IntKind.bits,IntKind.signed];omega
 have w2:IntKind.i64.wrap (-x)= -x:=by simp[IntKind.wrap,IntKind.bits,IntKind.signed];omega
 have w3:IntKind.i64.wrap (r+1)=r+1:=by simp[IntKind.wrap,IntKind.bits,IntKind.signed];omega
 have w4:IntKind.i64.wrap (-(r+1))= -(r+1):=by simp[IntKind.wrap,IntKind.bits,IntKind.signed];omega
 have w5:IntKind.i64.wrap (x+1)=x+1:=by simp[IntKind.wrap,IntKind.bits,IntKind.signed];omega
 clear hok hr hx;go_enter func110,ntmps110
 go_upto_region 1 with(fail)
 rw[HW1.out];obtain⟨S1,hS1⟩:=zE ((fun w'=>H9 W1.heap.size W1 w'):H5→Prop);have hS1d:S1 W1.drew:=by rw[←hS1];exact(Hw _ _).drew
 have HSB:Ia (∀W,H9 W1.heap.size W1 W→S1 W):=fun W hW=>by rw[←hS1];exact hW
 have HSS:Ia (∀W,S1 W→H9 W1.heap.size W1 W):=fun W hW=>by rw[←hS1] at hW;exact hW
 have HCE1:Ia (∀w,S1 w→jQ D T TT f op d a bb ff nn sign ga mo args.length gc mn mc tgt els ln cl a1 a2 n1 n2 c1 c2 w):=fun w hw=>(HCE.out _ _ _ (HS0.out.grow (HSS.out w hw))).1;clear hS1;refine aj 7 S1 (by kernel_rfl) ?_;refine zT 0 rfl HCE1.out ?_;(try go_simp);refine zT 2 rfl HCE1.out ?_;(try go_simp);refine zT 3 rfl HCE1.out ?_;(try go_simp);refine zT 4 rfl HCE1.out ?_;(try go_simp);refine zO 1 rfl fun K' hK=> ?_;go_simp;go_at_call 107;refine(HOR.out _ _ _ (HS0.out.grow (Hw _ _).drew)).mono ?_;rintro e w5' ⟨rfl,hb5⟩;have hb5d:H9 W1.heap.size W1 w5':=(Hw _ _).drew.trans hb5;have hS5:S1 w5':=HSB.out _ hb5d;refine hK _ _ hS5 ?_;clear hK;(try go_simp);refine zO 5 rfl fun K' hK=> ?_;go_simp;go_at_call 107;refine(HOX.out _ _ _ (HS0.out.grow hb5d)).mono ?_;rintro e w6 ⟨rfl,hb6⟩;have hb6d:H9 W1.heap.size W1 w6:=hb5d.trans (hb6.mono hb5d.size);have hS6:S1 w6:=HSB.out _ hb6d;refine hK _ _ hS6 ?_;clear hK;(try go_simp);refine zT 6 rfl HCE1.out ?_;(try go_simp);refine zK rfl fun K' hK=> ?_;go_simp;refine hK _ _ ?_;clear hK;refine⟨by kernel_rfl, ?_⟩;have hM6:=HS0.out.grow hb6d;have HM6:=zH hM6;clear hS6 hS5 hS1d HCE1 HSS HSB hb6 hb5 hb5d hb6d HS0
 by_cases hrz:r=0
 ·have hrb:(r==0)=true:=by rw[hrz];rfl
  have HRE:Ia (qc (fun v=>F (f,v)) a=[]):=by unfold Ia;rw[HR.out,if_pos hrz]
  clear hrz hM6;go_wp2;refine bodyPost_ret (results_none rfl _ _ _) rfl ?_;rw[HRE.out,List.map_nil,List.append_nil,List.append_nil];have:=HM6.out.wn;exact⟨rfl,aV.below HB1.out this⟩
 ·have hrb:(r==0)=false:=beq_false_of_ne hrz
  have HRE:Ia (qc (fun v=>F (f,v)) a=[[-r,x],[r,-x],[-(r+1),x+1]]):=by unfold Ia;rw[HR.out,if_neg hrz]
  have HK1:Ia ([-r,x].all (bH N)=true):=HOK.out _ (by rw[HRE.out];simp);have HK2:Ia ([r,-x].all (bH N)=true):=HOK.out _ (by rw[HRE.out];simp);have HK3:Ia ([-(r+1),x+1].all (bH N)=true):=HOK.out _ (by rw[HRE.out];simp);clear hrz;clear hM6;obtain⟨⟨x0,x1,x2,x3,x4⟩,⟨z0,z1,z2,z3,z4,z5,z6,z7,z8,z9,z10,z11,z12⟩,y2⟩:=(HCE.out _ _ _ HM6.out).1;obtain⟨G0,hG0⟩:=zE w6.heap.size;obtain⟨V0,hV0⟩:=zE (w6.alloc (.cells #[.int .i64 (-r),.int .i64 (x)] 3));have hPUT:=aL.put2 HM6.out hN (-r) (x) HK1.out (by(try simp only[GU,G5]);omega) (by(try simp only[GU,G5]);omega);rw[hG0,hV0] at hPUT;have HPUT:=zH hPUT;have HV:=zH hV0;have HGZ:=zH hG0;clear hPUT hV0 hG0
  go_upto_region 4 with(go_at_call 56;(try rw[HGZ.out]);(try simp only[w1,w2,w3,w4,w5]);(try rw[HV.out]);refine HPUT.out.mono ?_;rintro e wz1 ⟨rfl,hmz⟩;have HM1:=zH hmz;clear hmz)
  clear x0 x1 x2 x3 x4 z0 z1 z2 z3 z4 z5 z6 z7 z8 z9 z10 z11 z12 y2 HPUT HV HGZ;obtain⟨⟨x0,x1,x2,x3,x4⟩,⟨z0,z1,z2,z3,z4,z5,z6,z7,z8,z9,z10,z11,z12⟩,y2⟩:=(HCE.out _ _ _ HM1.out).1;obtain⟨G1,hG1⟩:=zE wz1.heap.size;obtain⟨V1,hV1⟩:=zE (wz1.alloc (.cells #[.int .i64 (r),.int .i64 (-x)] 3));have hPUT:=aL.put2 HM1.out hN (r) (-x) HK2.out (by(try simp only[GU,G5]);omega) (by(try simp only[GU,G5]);omega);rw[hG1,hV1] at hPUT;have HPUT:=zH hPUT;have HV:=zH hV1;have HGZ:=zH hG1;clear hPUT hV1 hG1
  go_upto_region 5 with(go_at_call 56;(try rw[HGZ.out]);(try simp only[w1,w2,w3,w4,w5]);(try rw[HV.out]);refine HPUT.out.mono ?_;rintro e wz2 ⟨rfl,hmz⟩;have HM2:=zH hmz;clear hmz)
  clear x0 x1 x2 x3 x4 z0 z1 z2 z3 z4 z5 z6 z7 z8 z9 z10 z11 z12 y2 HPUT HV HGZ;obtain⟨⟨x0,x1,x2,x3,x4⟩,⟨z0,z1,z2,z3,z4,z5,z6,z7,z8,z9,z10,z11,z12⟩,y2⟩:=(HCE.out _ _ _ HM2.out).1;obtain⟨G2,hG2⟩:=zE wz2.heap.size;obtain⟨V2,hV2⟩:=zE (wz2.alloc (.cells #[.int .i64 (-(r+1)),.int .i64 (x+1)] 3));have hPUT:=aL.put2 HM2.out hN (-(r+1)) (x+1) HK3.out (by(try simp only[GU,G5]);omega) (by(try simp only[GU,G5]);omega);rw[hG2,hV2] at hPUT;have HPUT:=zH hPUT;have HV:=zH hV2;have HGZ:=zH hG2;clear hPUT hV2 hG2
  go_wp2_with (go_at_call 56;(try rw[HGZ.out]);(try simp only[w1,w2,w3,w4,w5]);(try rw[HV.out]);refine HPUT.out.mono ?_;rintro e wz3 ⟨rfl,hmz⟩;have HM3:=zH hmz;clear hmz)
  clear x0 x1 x2 x3 x4 z0 z1 z2 z3 z4 z5 z6 z7 z8 z9 z10 z11 z12 y2 HPUT HV HGZ
  go_end0
  refine⟨rfl, ?_⟩;have:=HM3.out.wn;rw[HRE.out];refine aV.below HB1.out ?_;simpa using this
end
section
variable {T Bb MB:Nat}{lv:Option Addr×Nat}{P:List (Int×Int)}{N:Int}{F:Int×Int→Int}{C C2:List (List Int)}{Y Y2:List (Int×Int)}{at_ at2:Int×Int}{B:Nat}{tg:Nat→Nat}{s:nU}{w0:H5}{TT RB hi:Nat}{c:dQ}{b:Nat→Nat→Nat}
theorem zC (w:H5)(h:As T Bb MB lv P N F C Y at_ B tg s w0 TT RB c b hi w)(hN:0≤N∧N≤9000000)(hF:∀x,0≤F x∧F x≤9000000)(f:Int)(hf:bG f)(a1 a2:Option Addr)(n1 n2 c1 c2:Nat)(i:Ins)(ga:Option Addr)(gc:Nat)(hia:i.argsV= .slice ga i.args.length gc)(hmo:∃ao n cap,i.modeV= .slice ao n cap)(hga:ak w0 ga i.args)(hal:i.args.length≤40)(hff:bG i.f)(hdv:bG i.d)
  (k:Nat)(hk:k<c.ins.length)(hv:∀v∈i.args,isVar c.nvars v=true)(hnl:c.ins.length≤90000)(hnv:c.nvars≤90000)(hl:C.length+130≤1000000)(hly:Y.length+130≤1000000)
  (hok:∀x∈jR F f (aW b k) i,x.all (bH N)=true):
  Calls prog 109 #[.agg #[.pointer (some ⟨T,0,none⟩),.int .i64 f,.slice a1 n1 c1,.slice a2 n2 c2,.pointer (some ⟨TT,0,none⟩)],.agg i.cells,.int .i64 (k:Int)] w fun e w'=>e= .returned (.tuple #[])∧aV T Bb MB lv P N F (C++jR F f (aW b k) i) (Y++(jR F f (aW b k) i).map fun _=>at_) at_ B tg w w':=by
 obtain⟨D,hD⟩:=zE w.heap.size;have hbox:=Ag.box h #[.pointer (some ⟨T,0,none⟩),.int .i64 f,.slice a1 n1 c1,.slice a2 n2 c2,.pointer (some ⟨TT,0,none⟩)] i.cells;rw[hD] at hbox;obtain⟨mo,mn,mc,hmode⟩:=hmo;obtain⟨op,d,a,bb,ff,nn,sign,argsV,modeV,tgt,els,ln,cl,args⟩:=i;simp only at hia hmode hdv hff hv hal hga hok⊢;subst hia hmode;simp only[Ins.cells] at hbox⊢;obtain⟨W1,hW1⟩:=zE ((w.alloc (.cells #[.pointer (some ⟨T,0,none⟩),.int .i64 f,.slice a1 n1 c1,.slice a2 n2 c2,.pointer (some ⟨TT,0,none⟩)] 129)).alloc (.cells #[.int .i64 op,.int .i64 d,.int .i64 a,.int .i64 bb,.int .i64 ff,.int .i64 nn,.string sign,.slice ga args.length gc,.slice mo mn mc,.int .i64 tgt,.int .i64 els,.int .i64 ln,.int .i64 cl] 42));rw[hW1] at hbox;have hb1:=EA hW1;have HS0:Ia (aL T Bb MB lv P N F at_ B tg w0 TT RB c b hi D #[.pointer (some ⟨T,0,none⟩),.int .i64 f,.slice a1 n1 c1,.slice a2 n2 c2,.pointer (some ⟨TT,0,none⟩)] #[.int .i64 op,.int .i64 d,.int .i64 a,.int .i64 bb,.int .i64 ff,.int .i64 nn,.string sign,.slice ga args.length gc,.slice mo mn mc,.int .i64 tgt,.int .i64 els,.int .i64 ln,.int .i64 cl] W1 C Y W1):=aL.start hbox;have HCE:Ia (∀C2 Y2 w2,aL T Bb MB lv P N F at_ B tg w0 TT RB c b hi D #[.pointer (some ⟨T,0,none⟩),.int .i64 f,.slice a1 n1 c1,.slice a2 n2 c2,.pointer (some ⟨TT,0,none⟩)] #[.int .i64 op,.int .i64 d,.int .i64 a,.int .i64 bb,.int .i64 ff,.int .i64 nn,.string sign,.slice ga args.length gc,.slice mo mn mc,.int .i64 tgt,.int .i64 els,.int .i64 ln,.int .i64 cl] W1 C2 Y2 w2→jQ D T TT f op d a bb ff nn sign ga mo args.length gc mn mc tgt els ln cl a1 a2 n1 n2 c1 c2 w2∧w2.cell? ⟨T,2,none⟩=some (.map (some MB))∧T<w2.heap.size):=fun C2 Y2 w2 h2=>by
  obtain⟨r0,r1,r2,r3⟩:=h2.rows;exact⟨rM r0 r1,r2,r3⟩
 have HW1:=zH hW1;have HB1:=zH hb1;clear hW1 hb1 h hbox;obtain⟨r,hr⟩:=zE (F (ff,-1));obtain⟨x,hx⟩:=zE (F (f,d));have hrb:=hF (ff,-1);have hxb:=hF (f,d);rw[hr] at hrb;rw[hx] at hxb;obtain⟨hr0,hr9⟩:=hrb;obtain⟨hx0,hx9⟩:=hxb;have HOX:Ia (∀C2 Y2 w2,aL T Bb MB lv P N F at_ B tg w0 TT RB c b hi D #[.pointer (some ⟨T,0,none⟩),.int .i64 f,.slice a1 n1 c1,.slice a2 n2 c2,.pointer (some ⟨TT,0,none⟩)] #[.int .i64 op,.int .i64 d,.int .i64 a,.int .i64 bb,.int .i64 ff,.int .i64 nn,.string sign,.slice ga args.length gc,.slice mo mn mc,.int .i64 tgt,.int .i64 els,.int .i64 ln,.int .i64 cl] W1 C2 Y2 w2→zP 107 #[.agg #[.pointer (some ⟨T,0,none⟩),.int .i64 f,.slice a1 n1 c1,.slice a2 n2 c2,.pointer (some ⟨TT,0,none⟩)],.int .i64 d] w2 (.int .i64 x)):=fun C2 Y2 w2 h2=>by rw[←hx];exact h2.o f d hf hdv a1 a2 n1 n2 c1 c2 _
 have HLK:Ia (∀C2 Y2 w2,aL T Bb MB lv P N F at_ B tg w0 TT RB c b hi D #[.pointer (some ⟨T,0,none⟩),.int .i64 f,.slice a1 n1 c1,.slice a2 n2 c2,.pointer (some ⟨TT,0,none⟩)] #[.int .i64 op,.int .i64 d,.int .i64 a,.int .i64 bb,.int .i64 ff,.int .i64 nn,.string sign,.slice ga args.length gc,.slice mo mn mc,.int .i64 tgt,.int .i64 els,.int .i64 ln,.int .i64 cl] W1 C2 Y2 w2→(Instr.lookup 118 (.map (some MB)) (.agg #[.int .i64 ff,.int .i64 (-1)]) false).run prog w2= .ok (.int .i64 r) w2):=fun C2 Y2 w2 h2=>by rw[←hr];exact h2.look hff (by unfold bG;omega)
 obtain⟨AG,hAG⟩:=zE ((jf F (fun v=>F (f,v)) (aW b k) (⟨op,d,a,bb,ff,nn,sign,.slice ga args.length gc,.slice mo mn mc,tgt,els,ln,cl,args⟩:Ins) 0):List Int→List (List Int));have HCG:Ia (jR F f (aW b k) (⟨op,d,a,bb,ff,nn,sign,.slice ga args.length gc,.slice mo mn mc,tgt,els,ln,cl,args⟩:Ins)=AG args++(if 0<x then[[-x,r],[x,-r],[-(x+1),r+1],[x+1,-(r+1)]] else[])):=by unfold Ia jR;simp only[hr,hx];rw[←hAG]
 have HAL:Ia (∀l:List Int,(AG l).length≤3*l.length):=fun l=>by rw[←hAG];exact oM l 0
 have HA0:Ia (AG []=[]):=by unfold Ia;rw[←hAG];rfl
 have HARG:Ia (∀(j:Nat)(v:Int)(wr:H5),args[j]?=some v→aL T Bb MB lv P N F at_ B tg w0 TT RB c b hi D #[.pointer (some ⟨T,0,none⟩),.int .i64 f,.slice a1 n1 c1,.slice a2 n2 c2,.pointer (some ⟨TT,0,none⟩)] #[.int .i64 op,.int .i64 d,.int .i64 a,.int .i64 bb,.int .i64 ff,.int .i64 nn,.string sign,.slice ga args.length gc,.slice mo mn mc,.int .i64 tgt,.int .i64 els,.int .i64 ln,.int .i64 cl] W1 (C++AG (args.take j)) (Y++(AG (args.take j)).map fun _=>at_) wr→Calls prog 149 #[.agg #[.pointer (some ⟨T,0,none⟩),.int .i64 f,.slice a1 n1 c1,.slice a2 n2 c2,.pointer (some ⟨TT,0,none⟩)],.agg #[.int .i64 op,.int .i64 d,.int .i64 a,.int .i64 bb,.int .i64 ff,.int .i64 nn,.string sign,.slice ga args.length gc,.slice mo mn mc,.int .i64 tgt,.int .i64 els,.int .i64 ln,.int .i64 cl],.int .i64 (j:Int),.int .i64 (k:Int)] wr fun e w'=>e= .returned (.tuple #[])∧aL T Bb MB lv P N F at_ B tg w0 TT RB c b hi D #[.pointer (some ⟨T,0,none⟩),.int .i64 f,.slice a1 n1 c1,.slice a2 n2 c2,.pointer (some ⟨TT,0,none⟩)] #[.int .i64 op,.int .i64 d,.int .i64 a,.int .i64 bb,.int .i64 ff,.int .i64 nn,.string sign,.slice ga args.length gc,.slice mo mn mc,.int .i64 tgt,.int .i64 els,.int .i64 ln,.int .i64 cl] W1 (C++AG (args.take (j+1))) (Y++(AG (args.take (j+1))).map fun _=>at_) w'):=fun j v wr hj hm=>by
  obtain⟨tg',s',hg,l1,l2,l3⟩:=hm;have hlt:(args.take j).length=j:=by rw[Ht];have:=(GQ.1 hj).1;omega
  have hjl:=(GQ.1 hj).1;have hlen:=HAL.out (args.take j);have:=CZ wr hg.as_ hN hF f hf a1 a2 n1 n2 c1 c2 (⟨op,d,a,bb,ff,nn,sign,.slice ga args.length gc,.slice mo mn mc,tgt,els,ln,cl,args⟩:Ins) ga gc rfl ⟨mo,mn,mc,rfl⟩ hga hal hff j v hj k hk (hv v (GV hj)) hnl hnv (by rw[GU];omega) (by rw[GU,List.length_map];omega) (fun q hq=>hok q (by
   unfold jR;exact List.mem_append.2 (.inl (vF args 0 j hj (by rw[Hf];exact hq)))))
  simp only[Ins.cells] at this;refine this.mono ?_;rintro e w2 ⟨rfl,hm2⟩;refine⟨rfl, ?_⟩;have hs:AG (args.take (j+1))=AG (args.take j)++lL (fun v=>F (f,v)) (F (ff,(j:Int))) (eG (aW b k) d args j v) v:=by
   rw[aS hj,←hAG,rO,Hf,hlt]
  rw[hs,List.map_append,←Hr,←Hr];exact aL.of hg l1 l2 l3 hm2
 have HOK:=zH hok;have w1:IntKind.i64.wrap (-r)= -r:=by simp[IntKind.wrap,IntKind.bits,IntKind.signed];omega
 have w2:IntKind.i64.wrap (-x)= -x:=by simp[IntKind.wrap,IntKind.bits,IntKind.signed];omega
 have w3:IntKind.i64.wrap (r+1)=r+1:=by simp[IntKind.wrap,IntKind.bits,IntKind.signed];omega
 have w4:IntKind.i64.wrap (-(r+1))= -(r+1):=by simp[IntKind.wrap,IntKind.bits,IntKind.signed];omega
 have w5:IntKind.i64.wrap (x+1)=x+1:=by simp[IntKind.wrap,IntKind.bits,IntKind.signed];omega
 have w6:IntKind.i64.wrap (-(x+1))= -(x+1):=by simp[IntKind.wrap,IntKind.bits,IntKind.signed];omega
 clear hok hr hx hAG hga hv hk;have HS0':Ia (aL T Bb MB lv P N F at_ B tg w0 TT RB c b hi D #[.pointer (some ⟨T,0,none⟩),.int .i64 f,.slice a1 n1 c1,.slice a2 n2 c2,.pointer (some ⟨TT,0,none⟩)] #[.int .i64 op,.int .i64 d,.int .i64 a,.int .i64 bb,.int .i64 ff,.int .i64 nn,.string sign,.slice ga args.length gc,.slice mo mn mc,.int .i64 tgt,.int .i64 els,.int .i64 ln,.int .i64 cl] W1 (C++AG (args.take 0)) (Y++(AG (args.take 0)).map fun _=>at_) W1):=by
  unfold Ia;rw[List.take_zero,HA0.out,List.map_nil,List.append_nil,List.append_nil];exact HS0.out
 obtain⟨⟨x0,x1,x2,x3,x4⟩,⟨z0,z1,z2,z3,z4,z5,z6,z7,z8,z9,z10,z11,z12⟩,y2⟩:=(HCE.out _ _ _ HS0.out).1;go_enter func109,ntmps109
 go_upto_region 1 with(fail)
 rw[HW1.out]
 go_upto_region 2 with(fail)
 clear x0 x1 x2 x3 x4 z0 z1 z2 z3 z4 z5 z6 z7 z8 z9 z10 z11 z12 y2
 go_loopw [12] (fun kk wr=>∃j:Nat,j≤args.length∧kk= .int .i64 (j:Int)∧aL T Bb MB lv P N F at_ B tg w0 TT RB c b hi D #[.pointer (some ⟨T,0,none⟩),.int .i64 f,.slice a1 n1 c1,.slice a2 n2 c2,.pointer (some ⟨TT,0,none⟩)] #[.int .i64 op,.int .i64 d,.int .i64 a,.int .i64 bb,.int .i64 ff,.int .i64 nn,.string sign,.slice ga args.length gc,.slice mo mn mc,.int .i64 tgt,.int .i64 els,.int .i64 ln,.int .i64 cl] W1 (C++AG (args.take j)) (Y++(AG (args.take j)).map fun _=>at_) wr) (fun kk _=>args.length-(intOf kk).toNat)
 case atStart=>exact⟨0,Hg _,rfl,HS0'.out⟩
 case round=>
  obtain⟨j,hj,rfl,hm⟩:=hrel;obtain⟨⟨x0,x1,x2,x3,x4⟩,⟨z0,z1,z2,z3,z4,z5,z6,z7,z8,z9,z10,z11,z12⟩,y2⟩:=(HCE.out _ _ _ hm).1;have HM:=zH hm
  by_cases hjl:j<args.length
  ·obtain⟨v,hv⟩:∃v,args[j]?=some v:=⟨_,GN hjl⟩
   have hjI:(j:Int)<(args.length:Int):=by omega
   have HC1:=zH (HARG.out j v wr hv hm);clear hm hv
   go_wp2_with (go_at_call 149;refine HC1.out.mono ?_;rintro e w3' ⟨rfl,hm3⟩;have HM3:=zH hm3;clear hm3)
   go_roundw
   case rel=>exact⟨j+1,hjl,by go_num,HM3.out⟩
   case measure=>simp[intOf];omega
  ·have hje:j=args.length:=by omega
   have hM6:aL T Bb MB lv P N F at_ B tg w0 TT RB c b hi D #[.pointer (some ⟨T,0,none⟩),.int .i64 f,.slice a1 n1 c1,.slice a2 n2 c2,.pointer (some ⟨TT,0,none⟩)] #[.int .i64 op,.int .i64 d,.int .i64 a,.int .i64 bb,.int .i64 ff,.int .i64 nn,.string sign,.slice ga args.length gc,.slice mo mn mc,.int .i64 tgt,.int .i64 els,.int .i64 ln,.int .i64 cl] W1 (C++AG args) (Y++(AG args).map fun _=>at_) wr:=by rw[hje,Ha] at hm;exact hm
   have HM6:=zH hM6;have hAll:Ia ((AG args).length≤120):=by have:=HAL.out args;unfold Ia;omega
   clear hm HM hje hM6;obtain⟨wo,hwo⟩:=zE wr;rw[hwo] at HM6 x0 x1 x2 x3 x4 z0 z1 z2 z3 z4 z5 z6 z7 z8 z9 z10 z11 z12 y2⊢;clear hwo wr
   go_upto_region 6 with(fail)
   obtain⟨S1,hS1⟩:=zE ((fun w'=>H9 wo.heap.size wo w'):H5→Prop);have hS1d:S1 wo.drew:=by rw[←hS1];exact(Hw _ _).drew
   have HSB:Ia (∀W,H9 wo.heap.size wo W→S1 W):=fun W hW=>by rw[←hS1];exact hW
   have HSS:Ia (∀W,S1 W→H9 wo.heap.size wo W):=fun W hW=>by rw[←hS1] at hW;exact hW
   have HCE1:Ia (∀w,S1 w→(jQ D T TT f op d a bb ff nn sign ga mo args.length gc mn mc tgt els ln cl a1 a2 n1 n2 c1 c2 w∧w.cell? ⟨T,2,none⟩=some (.map (some MB))∧T<w.heap.size)∧(Instr.lookup 118 (.map (some MB)) (.agg #[.int .i64 ff,.int .i64 (-1)]) false).run prog w= .ok (.int .i64 r) w):=fun w hw=>⟨HCE.out _ _ _ (HM6.out.grow (HSS.out w hw)),HLK.out _ _ _ (HM6.out.grow (HSS.out w hw))⟩
   clear hS1 x0 x1 x2 x3 x4 z0 z1 z2 z3 z4 z5 z6 z7 z8 z9 z10 z11 z12 y2;refine aj 14 S1 (by kernel_rfl) ?_;refine zT 0 rfl HCE1.out ?_;(try go_simp);refine zT 1 rfl HCE1.out ?_;(try go_simp);refine zT 2 rfl HCE1.out ?_;(try go_simp);refine zT 4 rfl HCE1.out ?_;(try go_simp);refine zT 5 rfl HCE1.out ?_;(try go_simp);refine zT 6 rfl HCE1.out ?_;(try go_simp);refine zT 7 rfl HCE1.out ?_;(try go_simp);refine zT 8 rfl HCE1.out ?_;(try go_simp);refine zT 9 rfl HCE1.out ?_;(try go_simp);refine zT 10 rfl HCE1.out ?_;(try go_simp);refine zT 11 rfl HCE1.out ?_;(try go_simp);refine zT 12 rfl HCE1.out ?_;(try go_simp);refine zO 3 rfl fun K' hK=> ?_;go_simp;go_at_call 107;refine(HOX.out _ _ _ (HM6.out.grow (Hw _ _).drew)).mono ?_;rintro e w5' ⟨rfl,hb5⟩;have hb5d:H9 wo.heap.size wo w5':=(Hw _ _).drew.trans hb5;have hS5:S1 w5':=HSB.out _ hb5d;refine hK _ _ hS5 ?_;clear hK;(try go_simp);refine zT 13 rfl HCE1.out ?_;(try go_simp);refine zK rfl fun K' hK=> ?_;go_simp;refine hK _ _ ?_;clear hK;refine⟨by kernel_rfl, ?_⟩;have hM7:=HM6.out.grow hb5d;have HM7:=zH hM7;clear hS5 hS1d HCE1 HSS HSB hb5 hb5d hM7
   by_cases hxp:0<x
   ·have hxb:decide (0<x)=true:=decide_eq_true hxp
    have HRE:Ia (jR F f (aW b k) (⟨op,d,a,bb,ff,nn,sign,.slice ga args.length gc,.slice mo mn mc,tgt,els,ln,cl,args⟩:Ins)=AG args++[[-x,r],[x,-r],[-(x+1),r+1],[x+1,-(r+1)]]):=by unfold Ia;rw[HCG.out,if_pos hxp]
    have HK1:Ia ([-x,r].all (bH N)=true):=HOK.out _ (by rw[HRE.out];simp);have HK2:Ia ([x,-r].all (bH N)=true):=HOK.out _ (by rw[HRE.out];simp);have HK3:Ia ([-(x+1),r+1].all (bH N)=true):=HOK.out _ (by rw[HRE.out];simp);have HK4:Ia ([x+1,-(r+1)].all (bH N)=true):=HOK.out _ (by rw[HRE.out];simp);obtain⟨⟨x0,x1,x2,x3,x4⟩,⟨z0,z1,z2,z3,z4,z5,z6,z7,z8,z9,z10,z11,z12⟩,y2⟩:=(HCE.out _ _ _ HM7.out).1;obtain⟨G0,hG0⟩:=zE w5'.heap.size;obtain⟨V0,hV0⟩:=zE (w5'.alloc (.cells #[.int .i64 (-x),.int .i64 (r)] 3));have hPUT:=aL.put2 HM7.out hN (-x) (r) HK1.out (by have:=hAll.out;(try simp only[GU,G5,List.length_map]);omega) (by have:=hAll.out;(try simp only[GU,G5,List.length_map]);omega);rw[hG0,hV0] at hPUT;have HPUT:=zH hPUT;have HV:=zH hV0;have HGZ:=zH hG0;clear hPUT hV0 hG0
    go_upto_region 9 with(go_at_call 56;(try rw[HGZ.out]);(try simp only[w1,w2,w3,w4,w5,w6]);(try rw[HV.out]);refine HPUT.out.mono ?_;rintro e wz1 ⟨rfl,hmz⟩;have HM1:=zH hmz;clear hmz)
    clear x0 x1 x2 x3 x4 z0 z1 z2 z3 z4 z5 z6 z7 z8 z9 z10 z11 z12 y2 HPUT HV HGZ;obtain⟨⟨x0,x1,x2,x3,x4⟩,⟨z0,z1,z2,z3,z4,z5,z6,z7,z8,z9,z10,z11,z12⟩,y2⟩:=(HCE.out _ _ _ HM1.out).1;obtain⟨G1,hG1⟩:=zE wz1.heap.size;obtain⟨V1,hV1⟩:=zE (wz1.alloc (.cells #[.int .i64 (x),.int .i64 (-r)] 3));have hPUT:=aL.put2 HM1.out hN (x) (-r) HK2.out (by have:=hAll.out;(try simp only[GU,G5,List.length_map]);omega) (by have:=hAll.out;(try simp only[GU,G5,List.length_map]);omega);rw[hG1,hV1] at hPUT;have HPUT:=zH hPUT;have HV:=zH hV1;have HGZ:=zH hG1;clear hPUT hV1 hG1
    go_upto_region 10 with(go_at_call 56;(try rw[HGZ.out]);(try simp only[w1,w2,w3,w4,w5,w6]);(try rw[HV.out]);refine HPUT.out.mono ?_;rintro e wz2 ⟨rfl,hmz⟩;have HM2:=zH hmz;clear hmz)
    clear x0 x1 x2 x3 x4 z0 z1 z2 z3 z4 z5 z6 z7 z8 z9 z10 z11 z12 y2 HPUT HV HGZ;obtain⟨⟨x0,x1,x2,x3,x4⟩,⟨z0,z1,z2,z3,z4,z5,z6,z7,z8,z9,z10,z11,z12⟩,y2⟩:=(HCE.out _ _ _ HM2.out).1;obtain⟨G2,hG2⟩:=zE wz2.heap.size;obtain⟨V2,hV2⟩:=zE (wz2.alloc (.cells #[.int .i64 (-(x+1)),.int .i64 (r+1)] 3));have hPUT:=aL.put2 HM2.out hN (-(x+1)) (r+1) HK3.out (by have:=hAll.out;(try simp only[GU,G5,List.length_map]);omega) (by have:=hAll.out;(try simp only[GU,G5,List.length_map]);omega);rw[hG2,hV2] at hPUT;have HPUT:=zH hPUT;have HV:=zH hV2;have HGZ:=zH hG2;clear hPUT hV2 hG2
    go_upto_region 11 with(go_at_call 56;(try rw[HGZ.out]);(try simp only[w1,w2,w3,w4,w5,w6]);(try rw[HV.out]);refine HPUT.out.mono ?_;rintro e wz3 ⟨rfl,hmz⟩;have HM3:=zH hmz;clear hmz)
    clear x0 x1 x2 x3 x4 z0 z1 z2 z3 z4 z5 z6 z7 z8 z9 z10 z11 z12 y2 HPUT HV HGZ;obtain⟨⟨x0,x1,x2,x3,x4⟩,⟨z0,z1,z2,z3,z4,z5,z6,z7,z8,z9,z10,z11,z12⟩,y2⟩:=(HCE.out _ _ _ HM3.out).1;obtain⟨G3,hG3⟩:=zE wz3.heap.size;obtain⟨V3,hV3⟩:=zE (wz3.alloc (.cells #[.int .i64 (x+1),.int .i64 (-(r+1))] 3));have hPUT:=aL.put2 HM3.out hN (x+1) (-(r+1)) HK4.out (by have:=hAll.out;(try simp only[GU,G5,List.length_map]);omega) (by have:=hAll.out;(try simp only[GU,G5,List.length_map]);omega);rw[hG3,hV3] at hPUT;have HPUT:=zH hPUT;have HV:=zH hV3;have HGZ:=zH hG3;clear hPUT hV3 hG3
    go_wp2_with (go_at_call 56;(try rw[HGZ.out]);(try simp only[w1,w2,w3,w4,w5,w6]);(try rw[HV.out]);refine HPUT.out.mono ?_;rintro e wz4 ⟨rfl,hmz⟩;have HM4:=zH hmz;clear hmz)
    clear x0 x1 x2 x3 x4 z0 z1 z2 z3 z4 z5 z6 z7 z8 z9 z10 z11 z12 y2 HPUT HV HGZ
    go_end0
    refine⟨rfl, ?_⟩;have:=HM4.out.wn;rw[HRE.out];refine aV.below HB1.out ?_;simpa using this
   ·have hxb:decide (0<x)=false:=decide_eq_false hxp
    have HRE:Ia (jR F f (aW b k) (⟨op,d,a,bb,ff,nn,sign,.slice ga args.length gc,.slice mo mn mc,tgt,els,ln,cl,args⟩:Ins)=AG args):=by unfold Ia;rw[HCG.out,if_neg hxp,List.append_nil]
    go_wp2
    go_end0
    refine⟨rfl, ?_⟩;have:=HM7.out.wn;rw[HRE.out];exact aV.below HB1.out this
end
def aA (F:Int×Int→Int)(f:Int)(beh:Int→Bool)(i:Ins):List (List Int):=
 if i.op=12 then[[F (f,i.d)]]
 else if i.op=13 then[[F (f,i.a)]]
 else if i.op=9 then[[-(F (f,i.d)),F (f,i.a)]]++(if i.a≠i.d∧beh i.a=true then[[-(F (f,i.d))]] else[])++[[-(F (f,i.d)+1),F (f,i.a),F (f,i.a)+1]]
 else if i.op=10 then[[-(F (f,i.d)),F (f,i.a),F (f,i.a)+1],[-(F (f,i.d)+1),F (f,i.a),F (f,i.a)+1]]
 else if i.op=8 then[[F (f,i.a),F (f,i.a)+1]]
 else if i.op=11 then[[F (f,i.b)],[F (f,i.a),F (f,i.a)+1]]++(if beh i.b=true then[[-(F (f,i.b))]] else[])
 else if i.op=15 then jR F f beh i
 else if i.op=18 then qc (fun v=>F (f,v)) i.a
 else[]
theorem Br {P:List (Int×Int)}{f:Int}{beh:Int→Bool}{i:Ins}:aA (aM 0 P) f beh i=gB P f beh i:=by
 unfold aA gB jR qc;simp only[oL]
section
variable {T Bb MB:Nat}{lv:Option Addr×Nat}{P:List (Int×Int)}{N:Int}{F:Int×Int→Int}{C C2:List (List Int)}{Y Y2:List (Int×Int)}{at_ at2:Int×Int}{B:Nat}{tg:Nat→Nat}{s:nU}{w0:H5}{TT RB hi:Nat}{c:dQ}{b:Nat→Nat→Nat}
theorem aL.change1 {D:Nat}{ac ic:Array Value}{W1 w:H5}(h:aL T Bb MB lv P N F at_ B tg w0 TT RB c b hi D ac ic W1 C Y w)(hN:0≤N∧N≤9000000)(hF:∀x,0≤F x∧F x≤9000000)(f v:Int)(hf:bG f)(hv:bG v)(a1 a2:Option Addr)(n1 n2 c1 c2:Nat)(x:Int)(hok:[x,F (f,v),F (f,v)+1].all (bH N)=true)(hl:C.length+1≤1000000)(hly:Y.length+1≤1000000):
  Calls prog 106 #[.agg #[.pointer (some ⟨T,0,none⟩),.int .i64 f,.slice a1 n1 c1,.slice a2 n2 c2,.pointer (some ⟨TT,0,none⟩)],.int .i64 v,.slice (some ⟨w.heap.size,0,none⟩) 1 1] (w.alloc (.cells #[.int .i64 x] 3)) fun e w'=>e= .returned (.tuple #[])∧aL T Bb MB lv P N F at_ B tg w0 TT RB c b hi D ac ic W1 (C++[[x,F (f,v),F (f,v)+1]]) (Y++[at_]) w':=by
 have hb:H9 w.heap.size w (w.alloc (.cells #[.int .i64 x] 3)):=(Hw _ _).alloc (He _) _;obtain⟨tg',s',h1,h2,h3,h4⟩:=h;refine(kw _ (h1.grow hb).as_.wn hN f v hf hv (hF _) a1 a2 n1 n2 c1 c2 (some ⟨TT,0,none⟩) (some ⟨w.heap.size,0,none⟩) [x] 1 (ak.lit1 _ x (alloc_at _ _)) (fun h=>by cases h) (by simp) hok (by simp) hl hly).mono ?_;rintro e w2 ⟨rfl,hm⟩;exact⟨rfl,aL.then_ h1 h2 h3 h4 hb hm⟩
theorem aL.change0 {D:Nat}{ac ic:Array Value}{W1 w:H5}(h:aL T Bb MB lv P N F at_ B tg w0 TT RB c b hi D ac ic W1 C Y w)(hN:0≤N∧N≤9000000)(hF:∀x,0≤F x∧F x≤9000000)(f v:Int)(hf:bG f)(hv:bG v)(a1 a2:Option Addr)(n1 n2 c1 c2:Nat)(hok:[F (f,v),F (f,v)+1].all (bH N)=true)(hl:C.length+1≤1000000)(hly:Y.length+1≤1000000):
  Calls prog 106 #[.agg #[.pointer (some ⟨T,0,none⟩),.int .i64 f,.slice a1 n1 c1,.slice a2 n2 c2,.pointer (some ⟨TT,0,none⟩)],.int .i64 v,.slice none 0 0] w fun e w'=>e= .returned (.tuple #[])∧aL T Bb MB lv P N F at_ B tg w0 TT RB c b hi D ac ic W1 (C++[[F (f,v),F (f,v)+1]]) (Y++[at_]) w':=by
 obtain⟨tg',s',h1,h2,h3,h4⟩:=h;refine(kw _ h1.as_.wn hN f v hf hv (hF _) a1 a2 n1 n2 c1 c2 (some ⟨TT,0,none⟩) none [] 0 (fun h=>absurd rfl h) (fun _=>rfl) (by simp) hok (by simp) hl hly).mono ?_;rintro e w2 ⟨rfl,hm⟩;exact⟨rfl,aL.of h1 h2 h3 h4 hm⟩
theorem iK {w:H5}(h:As T Bb MB lv P N F C Y at_ B tg s w0 TT RB c b hi w)(f:Int)(hf:bG f)(a1 a2:Option Addr)(n1 n2 c1 c2:Nat)(op d a bb ff nn:Int)(sign:ByteArray)(ga:Option Addr)(an gc:Nat)(mo:Option Addr)(mn mc:Nat)(tgt els ln cl:Int):∃D W1,w.heap.size=D∧
  Ia ((w.alloc (.cells #[.pointer (some ⟨T,0,none⟩),.int .i64 f,.slice a1 n1 c1,.slice a2 n2 c2,.pointer (some ⟨TT,0,none⟩)] 129)).alloc (.cells #[.int .i64 op,.int .i64 d,.int .i64 a,.int .i64 bb,.int .i64 ff,.int .i64 nn,.string sign,.slice ga an gc,.slice mo mn mc,.int .i64 tgt,.int .i64 els,.int .i64 ln,.int .i64 cl] 42)=W1)∧Ia (H9 w.heap.size w W1)∧Ia (aL T Bb MB lv P N F at_ B tg w0 TT RB c b hi D #[.pointer (some ⟨T,0,none⟩),.int .i64 f,.slice a1 n1 c1,.slice a2 n2 c2,.pointer (some ⟨TT,0,none⟩)] #[.int .i64 op,.int .i64 d,.int .i64 a,.int .i64 bb,.int .i64 ff,.int .i64 nn,.string sign,.slice ga an gc,.slice mo mn mc,.int .i64 tgt,.int .i64 els,.int .i64 ln,.int .i64 cl] W1 C Y W1)∧
  Ia (∀C2 Y2 w2,aL T Bb MB lv P N F at_ B tg w0 TT RB c b hi D #[.pointer (some ⟨T,0,none⟩),.int .i64 f,.slice a1 n1 c1,.slice a2 n2 c2,.pointer (some ⟨TT,0,none⟩)] #[.int .i64 op,.int .i64 d,.int .i64 a,.int .i64 bb,.int .i64 ff,.int .i64 nn,.string sign,.slice ga an gc,.slice mo mn mc,.int .i64 tgt,.int .i64 els,.int .i64 ln,.int .i64 cl] W1 C2 Y2 w2→jQ D T TT f op d a bb ff nn sign ga mo an gc mn mc tgt els ln cl a1 a2 n1 n2 c1 c2 w2∧w2.cell? ⟨T,2,none⟩=some (.map (some MB))∧T<w2.heap.size)∧
  Ia (∀C2 Y2 w2 v,bG v→aL T Bb MB lv P N F at_ B tg w0 TT RB c b hi D #[.pointer (some ⟨T,0,none⟩),.int .i64 f,.slice a1 n1 c1,.slice a2 n2 c2,.pointer (some ⟨TT,0,none⟩)] #[.int .i64 op,.int .i64 d,.int .i64 a,.int .i64 bb,.int .i64 ff,.int .i64 nn,.string sign,.slice ga an gc,.slice mo mn mc,.int .i64 tgt,.int .i64 els,.int .i64 ln,.int .i64 cl] W1 C2 Y2 w2→zP 107 #[.agg #[.pointer (some ⟨T,0,none⟩),.int .i64 f,.slice a1 n1 c1,.slice a2 n2 c2,.pointer (some ⟨TT,0,none⟩)],.int .i64 v] w2 (.int .i64 (F (f,v)))):=by
 obtain⟨D,hD⟩:=zE w.heap.size;have hbox:=Ag.box h #[.pointer (some ⟨T,0,none⟩),.int .i64 f,.slice a1 n1 c1,.slice a2 n2 c2,.pointer (some ⟨TT,0,none⟩)] #[.int .i64 op,.int .i64 d,.int .i64 a,.int .i64 bb,.int .i64 ff,.int .i64 nn,.string sign,.slice ga an gc,.slice mo mn mc,.int .i64 tgt,.int .i64 els,.int .i64 ln,.int .i64 cl];rw[hD] at hbox;obtain⟨W1,hW1⟩:=zE ((w.alloc (.cells #[.pointer (some ⟨T,0,none⟩),.int .i64 f,.slice a1 n1 c1,.slice a2 n2 c2,.pointer (some ⟨TT,0,none⟩)] 129)).alloc (.cells #[.int .i64 op,.int .i64 d,.int .i64 a,.int .i64 bb,.int .i64 ff,.int .i64 nn,.string sign,.slice ga an gc,.slice mo mn mc,.int .i64 tgt,.int .i64 els,.int .i64 ln,.int .i64 cl] 42));rw[hW1] at hbox;refine⟨D,W1,hD,hW1,EA hW1,aL.start hbox,fun C2 Y2 w2 h2=> ?_,fun C2 Y2 w2 v hv h2=>h2.o f v hf hv a1 a2 n1 n2 c1 c2 _⟩;obtain⟨r0,r1,r2,r3⟩:=h2.rows;exact⟨rM r0 r1,r2,r3⟩
theorem nZ (hF:∀x,0≤F x∧F x≤9000000)(p q r:Int×Int):∃xd xa xb,(0≤xd∧xd≤9000000)∧(0≤xa∧xa≤9000000)∧(0≤xb∧xb≤9000000)∧F p=xd∧F q=xa∧F r=xb∧IntKind.i64.wrap (-xd)= -xd∧IntKind.i64.wrap (-xa)= -xa∧IntKind.i64.wrap (xd+1)=xd+1∧
  IntKind.i64.wrap (-(xd+1))= -(xd+1)∧IntKind.i64.wrap (xa+1)=xa+1∧IntKind.i64.wrap (-xb)= -xb∧IntKind.i64.wrap (xb+1)=xb+1:=by
 have hp:=hF p;have hq:=hF q;have hr:=hF r;refine⟨F p,F q,F r,hp,hq,hr,rfl,rfl,rfl, ?_, ?_, ?_, ?_, ?_, ?_, ?_⟩<;>(simp[IntKind.wrap,IntKind.bits,IntKind.signed];omega)
theorem ug (w:H5)(h:As T Bb MB lv P N F C Y at_ B tg s w0 TT RB c b hi w)(hN:0≤N∧N≤9000000)(hF:∀x,0≤F x∧F x≤9000000)(f:Int)(hf:bG f)(a1 a2:Option Addr)(n1 n2 c1 c2:Nat)(i:Ins)(ga:Option Addr)(gc:Nat)(hia:i.argsV= .slice ga i.args.length gc)(hmo:∃ao n cap,i.modeV= .slice ao n cap)(hdv:bG i.d)(hav:bG i.a)(hbv:bG i.b)(k:Nat)(hk:k<c.ins.length)(hnl:c.ins.length≤90000)(hnv:c.nvars≤90000)(hl:C.length+130≤1000000)(hly:Y.length+130≤1000000)(hop:i.op=12)(hok:∀x∈aA F f (aW b k) i,x.all (bH N)=true):
  Calls prog 58 #[.agg #[.pointer (some ⟨T,0,none⟩),.int .i64 f,.slice a1 n1 c1,.slice a2 n2 c2,.pointer (some ⟨TT,0,none⟩)],.agg i.cells,.int .i64 (k:Int)] w fun e w'=>e= .returned (.tuple #[])∧aV T Bb MB lv P N F (C++aA F f (aW b k) i) (Y++(aA F f (aW b k) i).map fun _=>at_) at_ B tg w w':=by
 obtain⟨mo,mn,mc,hmode⟩:=hmo;obtain⟨op,d,a,bb,ff,nn,sign,argsV,modeV,tgt,els,ln,cl,args⟩:=i;simp only at hia hmode hdv hav hbv hop hok⊢;subst hop;subst hia hmode;simp only[Ins.cells];obtain⟨D,W1,hD,HW1,HB1,HS0,HCE,HO⟩:=iK h f hf a1 a2 n1 n2 c1 c2 12 d a bb ff nn sign ga args.length gc mo mn mc tgt els ln cl;clear h;obtain⟨xd,xa,xb,hbd,hba,hbb,hxd,hxa,hxb,w1,w2,w3,w4,w5,w6,w7⟩:=nZ hF (f,d) (f,a) (f,bb);have HXD:=zH hxd;have HXA:=zH hxa;have HXB:=zH hxb;have HRE:Ia (aA F f (aW b k) (⟨12,d,a,bb,ff,nn,sign,.slice ga args.length gc,.slice mo mn mc,tgt,els,ln,cl,args⟩:Ins)=[[xd]]):=by unfold Ia aA;simp only[if_true,hxd,hxa,hxb]
 have HK1:Ia (([xd]:List Int).all (bH N)=true):=hok _ (by rw[HRE.out];simp);clear hxd hxa hxb;go_enter func58,ntmps58
 go_upto_region 1 with(fail)
 rw[HW1.out];obtain⟨⟨x0,x1,x2,x3,x4⟩,⟨z0,z1,z2,z3,z4,z5,z6,z7,z8,z9,z10,z11,z12⟩,y2⟩:=(HCE.out _ _ _ HS0.out).1
 go_region
 clear x0 x1 x2 x3 x4 z0 z1 z2 z3 z4 z5 z6 z7 z8 z9 z10 z11 z12 y2;have HM0:=zH (HS0.out.grow (Hw _ _).drew);obtain⟨⟨x0,x1,x2,x3,x4⟩,⟨z0,z1,z2,z3,z4,z5,z6,z7,z8,z9,z10,z11,z12⟩,y2⟩:=(HCE.out _ _ _ HM0.out).1;have HO1:=zH (HO.out _ _ _ (d) hdv HM0.out);rw[show F (f,d)=xd from HXD.out] at HO1
 go_upto_region 3 with(go_at_call 107;refine HO1.out.mono ?_;rintro e wo1 ⟨rfl,hbo⟩;have HM1:=zH (HM0.out.grow hbo);clear hbo)
 clear x0 x1 x2 x3 x4 z0 z1 z2 z3 z4 z5 z6 z7 z8 z9 z10 z11 z12 y2;obtain⟨⟨x0,x1,x2,x3,x4⟩,⟨z0,z1,z2,z3,z4,z5,z6,z7,z8,z9,z10,z11,z12⟩,y2⟩:=(HCE.out _ _ _ HM1.out).1;obtain⟨G2,hG2⟩:=zE wo1.heap.size;obtain⟨V2,hV2⟩:=zE (wo1.alloc (.cells #[.int .i64 (xd)] 3));have hPUT:=aL.put1 HM1.out hN (xd) HK1.out (by(try simp only[GU,G5]);omega) (by(try simp only[GU,G5]);omega);rw[hG2,hV2] at hPUT;have HPUT:=zH hPUT;have HV:=zH hV2;have HGZ:=zH hG2;clear hPUT hV2 hG2
 go_wp2_with (go_at_call 56;(try rw[HGZ.out]);(try simp only[w1,w2,w3,w4,w5,w6,w7]);(try rw[HV.out]);refine HPUT.out.mono ?_;rintro e wz2 ⟨rfl,hmz⟩;have HM2:=zH hmz;clear hmz)
 clear x0 x1 x2 x3 x4 z0 z1 z2 z3 z4 z5 z6 z7 z8 z9 z10 z11 z12 y2 HPUT HV HGZ
 go_end0
 refine⟨rfl, ?_⟩;have:=HM2.out.wn;rw[HRE.out];refine aV.below HB1.out ?_;simpa using this
theorem uh (w:H5)(h:As T Bb MB lv P N F C Y at_ B tg s w0 TT RB c b hi w)(hN:0≤N∧N≤9000000)(hF:∀x,0≤F x∧F x≤9000000)(f:Int)(hf:bG f)(a1 a2:Option Addr)(n1 n2 c1 c2:Nat)(i:Ins)(ga:Option Addr)(gc:Nat)(hia:i.argsV= .slice ga i.args.length gc)(hmo:∃ao n cap,i.modeV= .slice ao n cap)(hdv:bG i.d)(hav:bG i.a)(hbv:bG i.b)(k:Nat)(hk:k<c.ins.length)(hnl:c.ins.length≤90000)(hnv:c.nvars≤90000)(hl:C.length+130≤1000000)(hly:Y.length+130≤1000000)(hop:i.op=13)(hok:∀x∈aA F f (aW b k) i,x.all (bH N)=true):
  Calls prog 58 #[.agg #[.pointer (some ⟨T,0,none⟩),.int .i64 f,.slice a1 n1 c1,.slice a2 n2 c2,.pointer (some ⟨TT,0,none⟩)],.agg i.cells,.int .i64 (k:Int)] w fun e w'=>e= .returned (.tuple #[])∧aV T Bb MB lv P N F (C++aA F f (aW b k) i) (Y++(aA F f (aW b k) i).map fun _=>at_) at_ B tg w w':=by
 obtain⟨mo,mn,mc,hmode⟩:=hmo;obtain⟨op,d,a,bb,ff,nn,sign,argsV,modeV,tgt,els,ln,cl,args⟩:=i;simp only at hia hmode hdv hav hbv hop hok⊢;subst hop;subst hia hmode;simp only[Ins.cells];obtain⟨D,W1,hD,HW1,HB1,HS0,HCE,HO⟩:=iK h f hf a1 a2 n1 n2 c1 c2 13 d a bb ff nn sign ga args.length gc mo mn mc tgt els ln cl;clear h;obtain⟨xd,xa,xb,hbd,hba,hbb,hxd,hxa,hxb,w1,w2,w3,w4,w5,w6,w7⟩:=nZ hF (f,d) (f,a) (f,bb);have HXD:=zH hxd;have HXA:=zH hxa;have HXB:=zH hxb;have HRE:Ia (aA F f (aW b k) (⟨13,d,a,bb,ff,nn,sign,.slice ga args.length gc,.slice mo mn mc,tgt,els,ln,cl,args⟩:Ins)=[[xa]]):=by unfold Ia aA;simp only[if_neg (by decide:¬((13:Int)=12)),if_true,hxd,hxa,hxb]
 have HK1:Ia (([xa]:List Int).all (bH N)=true):=hok _ (by rw[HRE.out];simp);clear hxd hxa hxb;go_enter func58,ntmps58
 go_upto_region 1 with(fail)
 rw[HW1.out];obtain⟨⟨x0,x1,x2,x3,x4⟩,⟨z0,z1,z2,z3,z4,z5,z6,z7,z8,z9,z10,z11,z12⟩,y2⟩:=(HCE.out _ _ _ HS0.out).1
 go_region
 clear x0 x1 x2 x3 x4 z0 z1 z2 z3 z4 z5 z6 z7 z8 z9 z10 z11 z12 y2;have HM0:=zH (HS0.out.grow (Hw _ _).drew);obtain⟨⟨x0,x1,x2,x3,x4⟩,⟨z0,z1,z2,z3,z4,z5,z6,z7,z8,z9,z10,z11,z12⟩,y2⟩:=(HCE.out _ _ _ HM0.out).1;have HO1:=zH (HO.out _ _ _ (d) hdv HM0.out);rw[show F (f,d)=xd from HXD.out] at HO1
 go_upto_region 3 with(go_at_call 107;refine HO1.out.mono ?_;rintro e wo1 ⟨rfl,hbo⟩;have HM1:=zH (HM0.out.grow hbo);clear hbo)
 clear x0 x1 x2 x3 x4 z0 z1 z2 z3 z4 z5 z6 z7 z8 z9 z10 z11 z12 y2;obtain⟨⟨x0,x1,x2,x3,x4⟩,⟨z0,z1,z2,z3,z4,z5,z6,z7,z8,z9,z10,z11,z12⟩,y2⟩:=(HCE.out _ _ _ HM1.out).1;have HO2:=zH (HO.out _ _ _ (a) hav HM1.out);rw[show F (f,a)=xa from HXA.out] at HO2;have HPUTS:Ia (∀wx,H9 wo1.heap.size wo1 wx→Calls prog 56 #[.pointer (some ⟨T,0,none⟩),.slice (some ⟨wx.heap.size,0,none⟩) 1 1] (wx.alloc (.cells #[.int .i64 (xa)] 3)) _):=fun wx hx=>aL.put1 (HM1.out.grow hx) hN (xa) HK1.out (by(try simp only[GU,G5]);omega) (by(try simp only[GU,G5]);omega)
 go_wp2_with (first|(go_at_call 107;refine HO2.out.mono ?_;rintro e wo2 ⟨rfl,hbo⟩;have HP1:=zH (HPUTS.out _ hbo);clear hbo)|(go_at_call 56;(try simp only[w1,w2,w3,w4,w5,w6,w7]);refine HP1.out.mono ?_;rintro e wz2 ⟨rfl,hmz⟩;have HM2:=zH hmz;clear hmz HP1))
 clear x0 x1 x2 x3 x4 z0 z1 z2 z3 z4 z5 z6 z7 z8 z9 z10 z11 z12 y2 HPUTS
 go_end0
 refine⟨rfl, ?_⟩;have:=HM2.out.wn;rw[HRE.out];refine aV.below HB1.out ?_;simpa using this
theorem ui (w:H5)(h:As T Bb MB lv P N F C Y at_ B tg s w0 TT RB c b hi w)(hN:0≤N∧N≤9000000)(hF:∀x,0≤F x∧F x≤9000000)(f:Int)(hf:bG f)(a1 a2:Option Addr)(n1 n2 c1 c2:Nat)(i:Ins)(ga:Option Addr)(gc:Nat)(hia:i.argsV= .slice ga i.args.length gc)(hmo:∃ao n cap,i.modeV= .slice ao n cap)(hdv:bG i.d)(hav:bG i.a)(hbv:bG i.b)(k:Nat)(hk:k<c.ins.length)(hnl:c.ins.length≤90000)(hnv:c.nvars≤90000)(hl:C.length+130≤1000000)(hly:Y.length+130≤1000000)(hop:i.op=10)(hok:∀x∈aA F f (aW b k) i,x.all (bH N)=true):
  Calls prog 58 #[.agg #[.pointer (some ⟨T,0,none⟩),.int .i64 f,.slice a1 n1 c1,.slice a2 n2 c2,.pointer (some ⟨TT,0,none⟩)],.agg i.cells,.int .i64 (k:Int)] w fun e w'=>e= .returned (.tuple #[])∧aV T Bb MB lv P N F (C++aA F f (aW b k) i) (Y++(aA F f (aW b k) i).map fun _=>at_) at_ B tg w w':=by
 obtain⟨mo,mn,mc,hmode⟩:=hmo;obtain⟨op,d,a,bb,ff,nn,sign,argsV,modeV,tgt,els,ln,cl,args⟩:=i;simp only at hia hmode hdv hav hbv hop hok⊢;subst hop;subst hia hmode;simp only[Ins.cells];obtain⟨D,W1,hD,HW1,HB1,HS0,HCE,HO⟩:=iK h f hf a1 a2 n1 n2 c1 c2 10 d a bb ff nn sign ga args.length gc mo mn mc tgt els ln cl;clear h;obtain⟨xd,xa,xb,hbd,hba,hbb,hxd,hxa,hxb,w1,w2,w3,w4,w5,w6,w7⟩:=nZ hF (f,d) (f,a) (f,bb);have HXD:=zH hxd;have HXA:=zH hxa;have HXB:=zH hxb;have HRE:Ia (aA F f (aW b k) (⟨10,d,a,bb,ff,nn,sign,.slice ga args.length gc,.slice mo mn mc,tgt,els,ln,cl,args⟩:Ins)=[[-xd,xa,xa+1],[-(xd+1),xa,xa+1]]):=by unfold Ia aA;simp only[if_neg (by decide:¬((10:Int)=12)),if_neg (by decide:¬((10:Int)=13)),if_neg (by decide:¬((10:Int)=9)),if_true,hxd,hxa,hxb]
 have HK1:Ia (([-xd,xa,xa+1]:List Int).all (bH N)=true):=hok _ (by rw[HRE.out];simp);have HK2:Ia (([-(xd+1),xa,xa+1]:List Int).all (bH N)=true):=hok _ (by rw[HRE.out];simp);clear hxd hxa hxb;go_enter func58,ntmps58
 go_upto_region 1 with(fail)
 rw[HW1.out];obtain⟨⟨x0,x1,x2,x3,x4⟩,⟨z0,z1,z2,z3,z4,z5,z6,z7,z8,z9,z10,z11,z12⟩,y2⟩:=(HCE.out _ _ _ HS0.out).1
 go_region
 clear x0 x1 x2 x3 x4 z0 z1 z2 z3 z4 z5 z6 z7 z8 z9 z10 z11 z12 y2;have HM0:=zH (HS0.out.grow (Hw _ _).drew);obtain⟨⟨x0,x1,x2,x3,x4⟩,⟨z0,z1,z2,z3,z4,z5,z6,z7,z8,z9,z10,z11,z12⟩,y2⟩:=(HCE.out _ _ _ HM0.out).1;have HO1:=zH (HO.out _ _ _ (d) hdv HM0.out);rw[show F (f,d)=xd from HXD.out] at HO1
 go_upto_region 3 with(go_at_call 107;refine HO1.out.mono ?_;rintro e wo1 ⟨rfl,hbo⟩;have HM1:=zH (HM0.out.grow hbo);clear hbo)
 clear x0 x1 x2 x3 x4 z0 z1 z2 z3 z4 z5 z6 z7 z8 z9 z10 z11 z12 y2;obtain⟨⟨x0,x1,x2,x3,x4⟩,⟨z0,z1,z2,z3,z4,z5,z6,z7,z8,z9,z10,z11,z12⟩,y2⟩:=(HCE.out _ _ _ HM1.out).1;obtain⟨G2,hG2⟩:=zE wo1.heap.size;obtain⟨V2,hV2⟩:=zE (wo1.alloc (.cells #[.int .i64 (-xd)] 3));have hPUT:=aL.change1 HM1.out hN hF f a hf hav a1 a2 n1 n2 c1 c2 (-xd) (by rw[HXA.out];exact HK1.out) (by(try simp only[GU,G5]);omega) (by(try simp only[GU,G5]);omega);rw[hG2,hV2,show F (f,a)=xa from HXA.out] at hPUT;have HPUT:=zH hPUT;have HV:=zH hV2;have HGZ:=zH hG2;clear hPUT hV2 hG2
 go_upto_region 15 with(go_at_call 106;(try rw[HGZ.out]);(try simp only[w1,w2,w3,w4,w5,w6,w7]);(try rw[HV.out]);refine HPUT.out.mono ?_;rintro e wz2 ⟨rfl,hmz⟩;have HM2:=zH hmz;clear hmz)
 clear x0 x1 x2 x3 x4 z0 z1 z2 z3 z4 z5 z6 z7 z8 z9 z10 z11 z12 y2 HPUT HV HGZ;obtain⟨⟨x0,x1,x2,x3,x4⟩,⟨z0,z1,z2,z3,z4,z5,z6,z7,z8,z9,z10,z11,z12⟩,y2⟩:=(HCE.out _ _ _ HM2.out).1;obtain⟨G3,hG3⟩:=zE wz2.heap.size;obtain⟨V3,hV3⟩:=zE (wz2.alloc (.cells #[.int .i64 (-(xd+1))] 3));have hPUT:=aL.change1 HM2.out hN hF f a hf hav a1 a2 n1 n2 c1 c2 (-(xd+1)) (by rw[HXA.out];exact HK2.out) (by(try simp only[GU,G5]);omega) (by(try simp only[GU,G5]);omega);rw[hG3,hV3,show F (f,a)=xa from HXA.out] at hPUT;have HPUT:=zH hPUT;have HV:=zH hV3;have HGZ:=zH hG3;clear hPUT hV3 hG3
 go_wp2_with (go_at_call 106;(try rw[HGZ.out]);(try simp only[w1,w2,w3,w4,w5,w6,w7]);(try rw[HV.out]);refine HPUT.out.mono ?_;rintro e wz3 ⟨rfl,hmz⟩;have HM3:=zH hmz;clear hmz)
 clear x0 x1 x2 x3 x4 z0 z1 z2 z3 z4 z5 z6 z7 z8 z9 z10 z11 z12 y2 HPUT HV HGZ
 go_end0
 refine⟨rfl, ?_⟩;have:=HM3.out.wn;rw[HRE.out];refine aV.below HB1.out ?_;simpa using this
theorem xG (w:H5)(h:As T Bb MB lv P N F C Y at_ B tg s w0 TT RB c b hi w)(hN:0≤N∧N≤9000000)(hF:∀x,0≤F x∧F x≤9000000)(f:Int)(hf:bG f)(a1 a2:Option Addr)(n1 n2 c1 c2:Nat)(i:Ins)(ga:Option Addr)(gc:Nat)(hia:i.argsV= .slice ga i.args.length gc)(hmo:∃ao n cap,i.modeV= .slice ao n cap)(hdv:bG i.d)(hav:bG i.a)(hbv:bG i.b)(k:Nat)(hk:k<c.ins.length)(hnl:c.ins.length≤90000)(hnv:c.nvars≤90000)(hl:C.length+130≤1000000)(hly:Y.length+130≤1000000)(hop:i.op=8)(hok:∀x∈aA F f (aW b k) i,x.all (bH N)=true):
  Calls prog 58 #[.agg #[.pointer (some ⟨T,0,none⟩),.int .i64 f,.slice a1 n1 c1,.slice a2 n2 c2,.pointer (some ⟨TT,0,none⟩)],.agg i.cells,.int .i64 (k:Int)] w fun e w'=>e= .returned (.tuple #[])∧aV T Bb MB lv P N F (C++aA F f (aW b k) i) (Y++(aA F f (aW b k) i).map fun _=>at_) at_ B tg w w':=by
 obtain⟨mo,mn,mc,hmode⟩:=hmo;obtain⟨op,d,a,bb,ff,nn,sign,argsV,modeV,tgt,els,ln,cl,args⟩:=i;simp only at hia hmode hdv hav hbv hop hok⊢;subst hop;subst hia hmode;simp only[Ins.cells];obtain⟨D,W1,hD,HW1,HB1,HS0,HCE,HO⟩:=iK h f hf a1 a2 n1 n2 c1 c2 8 d a bb ff nn sign ga args.length gc mo mn mc tgt els ln cl;clear h;obtain⟨xd,xa,xb,hbd,hba,hbb,hxd,hxa,hxb,w1,w2,w3,w4,w5,w6,w7⟩:=nZ hF (f,d) (f,a) (f,bb);have HXD:=zH hxd;have HXA:=zH hxa;have HXB:=zH hxb;have HRE:Ia (aA F f (aW b k) (⟨8,d,a,bb,ff,nn,sign,.slice ga args.length gc,.slice mo mn mc,tgt,els,ln,cl,args⟩:Ins)=[[xa,xa+1]]):=by unfold Ia aA;simp only[if_neg (by decide:¬((8:Int)=12)),if_neg (by decide:¬((8:Int)=13)),if_neg (by decide:¬((8:Int)=9)),if_neg (by decide:¬((8:Int)=10)),if_true,hxd,hxa,hxb]
 have HK1:Ia (([xa,xa+1]:List Int).all (bH N)=true):=hok _ (by rw[HRE.out];simp);clear hxd hxa hxb;go_enter func58,ntmps58
 go_upto_region 1 with(fail)
 rw[HW1.out];obtain⟨⟨x0,x1,x2,x3,x4⟩,⟨z0,z1,z2,z3,z4,z5,z6,z7,z8,z9,z10,z11,z12⟩,y2⟩:=(HCE.out _ _ _ HS0.out).1
 go_region
 clear x0 x1 x2 x3 x4 z0 z1 z2 z3 z4 z5 z6 z7 z8 z9 z10 z11 z12 y2;have HM0:=zH (HS0.out.grow (Hw _ _).drew);obtain⟨⟨x0,x1,x2,x3,x4⟩,⟨z0,z1,z2,z3,z4,z5,z6,z7,z8,z9,z10,z11,z12⟩,y2⟩:=(HCE.out _ _ _ HM0.out).1;have HO1:=zH (HO.out _ _ _ (d) hdv HM0.out);rw[show F (f,d)=xd from HXD.out] at HO1
 go_upto_region 3 with(go_at_call 107;refine HO1.out.mono ?_;rintro e wo1 ⟨rfl,hbo⟩;have HM1:=zH (HM0.out.grow hbo);clear hbo)
 clear x0 x1 x2 x3 x4 z0 z1 z2 z3 z4 z5 z6 z7 z8 z9 z10 z11 z12 y2;obtain⟨⟨x0,x1,x2,x3,x4⟩,⟨z0,z1,z2,z3,z4,z5,z6,z7,z8,z9,z10,z11,z12⟩,y2⟩:=(HCE.out _ _ _ HM1.out).1;have hPUT:=aL.change0 HM1.out hN hF f a hf hav a1 a2 n1 n2 c1 c2 (by rw[HXA.out];exact HK1.out) (by(try simp only[GU,G5]);omega) (by(try simp only[GU,G5]);omega);rw[show F (f,a)=xa from HXA.out] at hPUT;have HPUT:=zH hPUT;clear hPUT
 go_wp2_with (go_at_call 106;refine HPUT.out.mono ?_;rintro e wz2 ⟨rfl,hmz⟩;have HM2:=zH hmz;clear hmz)
 clear x0 x1 x2 x3 x4 z0 z1 z2 z3 z4 z5 z6 z7 z8 z9 z10 z11 z12 y2 HPUT
 go_end0
 refine⟨rfl, ?_⟩;have:=HM2.out.wn;rw[HRE.out];refine aV.below HB1.out ?_;simpa using this
end
end Go.Proofs.YtjomgckjhcfbgaaGreat
