/- Walks. -/
import Derived.Maps.OwnOps
import Derived.Maps.Views
import Derived.Deep.WholeRow
import Derived.Laws.OwnMore
import Derived.Test.YtjomgckjhcfbgaaGreatS9
set_option maxRecDepth 100000
set_option maxHeartbeats 64000000
set_option linter.all false
namespace Go.Proofs.YtjomgckjhcfbgaaGreat
open Go.RowKit
open _root_.List renaming getElem?_eq_getElem→GN,getElem?_eq_some_iff→GQ,mem_of_getElem?→GV,setIfInBounds_toArray→GX,set_cons_zero→GY,set_cons_succ→GZ,take_length→Ha,eq_nil_of_length_eq_zero→Hm,mem_singleton→Hq,append_assoc→Hr
open _root_.Array renaming getElem?_eq_some_iff→GR
open _root_.Nat renaming le_refl→He,zero_add→Hf,zero_le→Hg
open Go.World renaming size_alloc→Hu
open Go.RowKit.Below renaming refl→Hw
open Go renaming World→H5
open Go.RowKit renaming Below→H9,Hid→Ia
open Tryz
theorem jN {α:Type}{f:α→Int}:∀{l:List α}{j:Nat}{x:α},(∀y∈l.take j,f y=0)→l[j]?=some x→f x≠0→aP f l=f x
 |[],j,x,_,h,_=>by simp at h
 |y::r,0,x,_,h,hx=>by
  simp at h;subst h;unfold aP;rw[if_neg hx]
 |y::r,j+1,x,hz,h,hx=>by
  unfold aP;rw[if_pos (hz y (by simp))];exact jN (j:=j) (fun z hz'=>hz z (by simp[hz'])) (by simpa using h) hx
theorem gV {α:Type}{f:α→Int}:∀{l:List α},(∀y∈l,f y=0)→aP f l=0
 |[],_=>rfl
 |y::r,h=>by
  unfold aP;rw[if_pos (h y (by simp))];exact gV fun z hz=>h z (by simp[hz])
theorem tC {i:Ins}(h:i.ok):(i.cells.all fun x=>x.oneCell')=true:=by
 obtain⟨⟨ao,cap,h1⟩,ao2,n2,cap2,h2⟩:=h;rw[←Array.all_toList];simp[Ins.cells,Value.oneCell',h1,h2]
structure FP (w:H5)(m:Mo)(g:Fn):Prop where
 mo:m.inn w
 fn:g.inn w
 al:∀i∈g.c.ins,i.args.length≤40
 kn:∀v,isVar g.vs.length v=true→m.known (ax g.vs v)=true
theorem AV (m:Mo)(g:Fn)(w:H5)(h:FP w m g):
  zP 97 #[.agg (jg m g)] w (.int .i64 (codeF m g)):=by
 have HJI:Ia (∀i∈g.c.ins,∀W,H9 w.heap.size w W→zP 136 #[.agg (jg m g),.agg i.cells] W (.int .i64 (aC m g i))):=fun i hi W hW=>
  yO m g i W ⟨(AR h.mo h.fn).below hW,(h.fn.code.args i hi).below hW,h.al i hi,h.kn⟩
 have HIR:=zH h.fn.code.row;have HOK:Ia (∀i∈g.c.ins,i.ok):=fun i hi=>(h.fn.code.args i hi).1;have hnv:=h.fn.nvars;have hvl:=(AR h.mo h.fn).vl;unfold maxLen at hvl;obtain⟨R,hR⟩:=zE (codeF m g);have HE:Ia (R=if 300<g.vs.length∨g.c.ins.length<1∨3000<g.c.ins.length then 2
  else if g.c.par<0∨(g.vs.length:Int)<g.c.par then 15
  else if aP (aC m g) g.c.ins≠0 then aP (aC m g) g.c.ins
  else bM (match g.c.ins.getLast? with
   |some i=>decide (16≤i.op)
   |none=>false) 15):=hR.symm
 rw[hR];clear h hR;obtain⟨N,hN⟩:=zE w.heap.size;obtain⟨W1,hW1⟩:=zE (w.alloc (.cells (jg m g) 184));have hb1:=gZ hW1 hN;have hs1:W1.heap.size=N+1:=by rw[←hW1];simp[hN]
 have hr1:W1.heap[N]?=some (.cells (jg m g) 184 (0,0)):=by rw[←hW1,←hN];exact alloc_at _ _
 have q3:=zR hr1 3 (.int .i64 g.c.par);have q4:W1.cell? ⟨N,4,none⟩=some (.slice g.c.varsA g.vs.length g.c.varsC):=by rw[cell_of_row _ _ _ _ _ _ hr1,←hnv];rfl
 have q9:=zR hr1 9 (.slice g.c.insA g.c.ins.length g.c.insC);have HB1:=zH hb1;have HN:=zH hN;have HR1:=zH hr1;have HS1:=zH hs1;have hNlt:N<W1.heap.size:=by omega
 clear hb1 hr1 hnv
 by_cases c1:300<g.vs.length
 ·have HRR:Ia (R=2):=by unfold Ia;rw[HE.out,if_pos (.inl c1)]
  clear HE;go_enter func97,ntmps97;go_wp2;go_ret;rw[HRR.out]
  try rw[HN.out]
  exact⟨rfl,HB1.out⟩
 by_cases c2:g.c.ins.length<1
 ·have HRR:Ia (R=2):=by unfold Ia;rw[HE.out,if_pos (.inr (.inl c2))]
  clear HE;go_enter func97,ntmps97;go_wp2;go_ret;rw[HRR.out]
  try rw[HN.out]
  exact⟨rfl,HB1.out⟩
 by_cases c3:3000<g.c.ins.length
 ·have HRR:Ia (R=2):=by unfold Ia;rw[HE.out,if_pos (.inr (.inr c3))]
  clear HE;go_enter func97,ntmps97;go_wp2;go_ret;rw[HRR.out]
  try rw[HN.out]
  exact⟨rfl,HB1.out⟩
 by_cases c4:g.c.par<0
 ·have HRR:Ia (R=15):=by unfold Ia;rw[HE.out,if_neg (by omega),if_pos (.inl c4)]
  clear HE;go_enter func97,ntmps97;go_wp2;go_ret;rw[HRR.out]
  try rw[HN.out]
  exact⟨rfl,HB1.out⟩
 by_cases c5:(g.vs.length:Int)<g.c.par
 ·have HRR:Ia (R=15):=by unfold Ia;rw[HE.out,if_neg (by omega),if_pos (.inr c5)]
  clear HE;go_enter func97,ntmps97;go_wp2;go_ret;rw[HRR.out]
  try rw[HN.out]
  exact⟨rfl,HB1.out⟩
 have HE2:Ia (R=if aP (aC m g) g.c.ins≠0 then aP (aC m g) g.c.ins
  else bM (match g.c.ins.getLast? with
   |some i=>decide (16≤i.op)
   |none=>false) 15):=by unfold Ia;rw[HE.out,if_neg (by omega),if_neg (by omega)]
 clear HE;go_enter func97,ntmps97
 go_upto_region 8 with(refine wpList_load_row rfl 184 _ rfl N rfl 184 (jg m g) (0,0) _ HR1.out underlying184 rfl (by kernel_rfl) ?_)
 go_loopw [47] (fun c wr=>∃j:Nat,j≤g.c.ins.length∧c= .int .i64 (j:Int)∧(∀x∈g.c.ins.take j,aC m g x=0)∧H9 W1.heap.size W1 wr) (fun c _=>g.c.ins.length-(intOf c).toNat)
 case atStart=>exact⟨0,Hg _,rfl,by simp,Hw _ _⟩
 case round=>
  obtain⟨j,hj,rfl,hz,hb⟩:=hrel;have HB:=zH hb;have HZ:=zH hz;have HBW:Ia (H9 N w wr):=HB1.out.trans (hb.mono (by omega))
  by_cases hjl:j<g.c.ins.length
  ·obtain⟨i,hi⟩:∃i,g.c.ins[j]?=some i:=⟨_,GN hjl⟩
   have him:=GV hi;obtain⟨b0,off,hA,hb0,hcell⟩:=HIR.out (by intro e;rw[e] at hjl;simp at hjl);have hb0N:b0<N:=by omega
   have HCA:Ia (∀k u,i.cells.toList[k]?=some u→wr.cell? ((⟨b0,off+j*13,none⟩:Addr).add k)=some u):=fun k u hu=>by
    rw[Addr.add_lit,HBW.out.cell (p:=⟨b0,_,none⟩) hb0N];exact hcell j i hi k u hu
   have hst:∀(c:Array Value),c.size=13→(storeCells ⟨wr.heap.size,0,none⟩ i.cells.toList 0).run prog (wr.alloc (.cells c 42))= .ok () (wr.alloc (.cells i.cells 42)):=fun c hc=>
    run_storeCells_new (P:=prog) wr 42 c i.cells (by show _=some 13;kernel_rfl) hc (tC (HOK.out i him))
   have HW2:Ia ((wr.alloc (.cells i.cells 42)).heap[wr.heap.size]?=some (.cells i.cells 42 (0,0))):=alloc_at _ _;have HB2:Ia (H9 N w (wr.alloc (.cells i.cells 42))):=HBW.out.alloc (by have:=HB.out.size;omega) _;have HB12:Ia (H9 W1.heap.size W1 (wr.alloc (.cells i.cells 42))):=HB.out.alloc HB.out.size _;have HIC:Ia (zP 136 #[.agg (jg m g),.agg i.cells] (wr.alloc (.cells i.cells 42)) (.int .i64 (aC m g i))):=HJI.out i him _ (by rw[HN.out];exact HB2.out);have hjI:(j:Int)<(g.c.ins.length:Int):=by omega
   have HI:=zH hi;obtain⟨z,hzz⟩:=zE (aC m g i);rw[hzz] at HIC;have HZZ:=zH hzz;rw[hA];clear hz hb hi him hb0 hcell hzz
   by_cases hz0:z=0
   ·subst hz0
    go_wp2_with (first
     |(refine ay rfl 42 _ rfl ⟨b0,off+j*13,none⟩ rfl i.cells _ HCA.out underlying42 rfl (by kernel_rfl) ?_)
     |(refine wpList_load_row rfl 42 _ rfl wr.heap.size rfl 42 i.cells (0,0) _ HW2.out underlying42 rfl (by kernel_rfl) ?_)
     |(go_at_call 136;refine HIC.out.mono ?_;rintro e w3 ⟨rfl,hb3⟩;have HB3:Ia (H9 W1.heap.size W1 w3):=HB12.out.trans (hb3.mono HB12.out.size);clear hb3))
    go_roundw
    case rel=>exact⟨j+1,by omega,by go_num,dx (p:=fun x=>aC m g x=0) HZ.out HI.out HZZ.out,HB3.out⟩
    case measure=>simp[intOf];omega
   ·have HRR:Ia (R=z):=by
     unfold Ia;have e:=jN (f:=aC m g) HZ.out HI.out (by rw[HZZ.out];exact hz0);rw[HE2.out,e,HZZ.out,if_pos hz0]
    have hzb:(z==0)=false:=by rw[beq_eq_false_iff_ne];exact hz0
    go_wp2_with (first
     |(refine ay rfl 42 _ rfl ⟨b0,off+j*13,none⟩ rfl i.cells _ HCA.out underlying42 rfl (by kernel_rfl) ?_)
     |(refine wpList_load_row rfl 42 _ rfl wr.heap.size rfl 42 i.cells (0,0) _ HW2.out underlying42 rfl (by kernel_rfl) ?_)
     |(go_at_call 136;refine HIC.out.mono ?_;rintro e w3 ⟨rfl,hb3⟩;have HB3:Ia (H9 W1.heap.size W1 w3):=HB12.out.trans (hb3.mono HB12.out.size);clear hb3))
    go_ret;rw[HRR.out]
    try rw[HN.out]
    exact⟨rfl,HB1.out.trans (HB3.out.mono (by omega))⟩
  ·have hje:j=g.c.ins.length:=by omega
   subst hje;rw[Ha] at hz;obtain⟨i,hi⟩:∃i,g.c.ins[g.c.ins.length-1]?=some i:=⟨_,GN (by omega)⟩
   have HRR:Ia (R=bM (decide (16≤i.op)) 15):=by
    unfold Ia;rw[HE2.out,gV hz,if_neg (by simp),List.getLast?_eq_getElem?,hi]
   obtain⟨b0,off,hA,hb0,hcell⟩:=HIR.out (by intro e;rw[e] at hi;simp at hi);have hb0N:b0<N:=by omega
   obtain⟨L,hL⟩:∃L,g.c.ins.length=L+1:=⟨g.c.ins.length-1,by omega⟩
   have hd:wr.cell? ⟨b0,off+L*13,none⟩=some (.int .i64 i.op):=by
    rw[HBW.out.cell (p:=⟨b0,_,none⟩) hb0N];rw[hL,Nat.add_sub_cancel] at hi;exact hcell L i hi 0 _ rfl
   have q9r:wr.cell? ⟨N,9,none⟩=some (.slice (some ⟨b0,off,none⟩) (L+1) g.c.insC):=by rw[hb.cell (p:=⟨N,9,none⟩) hNlt,←hA,←hL];exact q9
   have hbr:b0<wr.heap.size:=by have:=hb.size;omega
   have hNr:N<wr.heap.size:=by have:=hb.size;omega
   have hLI:((L+1:Nat):Int)-1=(L:Int):=by omega
   have hL3:L≤3000:=by omega
   clear hz hb hi HE2 hcell q9;rw[hL]
   go_wp2_with (go_at_call 99;refine(aB _ _ _).mono ?_;rintro e w8 ⟨rfl,rfl⟩)
   go_ret;rw[HRR.out]
   try rw[HN.out]
   exact⟨rfl,HBW.out⟩
section
open Go.RowKit Go.Maps
theorem pG:Keyed prog 9:=string_keyed underlying9
theorem Cw (w:H5):(zeroValue 4).run prog w= .ok (.bool false) w:=by kernel_rfl
theorem pX {P:Program}{e:TypeId}(he:P.underlying e=some .bool){v:Value}{z:DataW Unit×List MemPlace}(h:plainElem P e v=some z):∃x,v= .bool x∧z=(.lit (.bool x),[]):=by
 unfold plainElem at h;rw[he] at h;cases v<;>simp at h;exact⟨_,rfl,h.symm⟩
def pY (w:H5)(B n:Nat)(S:List ByteArray):Prop:=∃D:DataW Unit,w.ownsMap prog 9 (plainElem prog 4) B n D∧IsMap D∧
 ∀x:ByteArray,D.atKey (.string x.data.toList) (.lit (.bool false))= .lit (.bool (decide (x∈S)))
theorem pY.made (w:H5):pY (w.alloc (.map #[] 0)) w.heap.size 0 []:=
 ⟨.map [],World.ownsMap_made _ _ _ _,isMap_empty,fun x=>by simp[DataW.atKey]⟩
theorem pY.lt {w:H5}{B n:Nat}{S:List ByteArray}(h:pY w B n S):B<w.heap.size:=by
 obtain⟨D,h1,h2⟩:=h;exact h1.lt
theorem pY.look {w:H5}{B n:Nat}{S:List ByteArray}(h:pY w B n S){x:ByteArray}(hx:x.size≤maxLen):
  (Instr.lookup 283 (.map (some B)) (.string x) false).run prog w= .ok (.bool (decide (x∈S))) w:=by
 obtain⟨D,h1,h2,h3⟩:=h;obtain⟨v,ps,hrun,hv⟩:=h1.lookup pG underlying283 (Cw w) (plainElem_bool underlying4 false) (WideMaps.keyOf_string_mk underlying9 hx);obtain⟨y,rfl,hy⟩:=pX underlying4 hv;rw[h3 x] at hy;simp only[Prod.mk.injEq,DataW.lit.injEq,Lit.bool.injEq] at hy;rw[hrun,←hy.1]
theorem pY.add {w:H5}{B n:Nat}{S:List ByteArray}(h:pY w B n S){x:ByteArray}(hx:x.size≤maxLen)(hn:n<maxLen):
  ∃w',(Instr.mapUpdate 283 (.map (some B)) (.string x) (.bool true)).run prog w= .ok () w'∧pY w' B (n+1) (x::S)∧Ext (·=B) w w':=by
 obtain⟨D,h1,h2,h3⟩:=h;obtain⟨w',hrun,r1,r2⟩:=h1.update pG underlying283 hn (WideMaps.keyOf_string_mk underlying9 hx) (plainElem_bool underlying4 true);refine⟨w',hrun,⟨_,r1,h2.put _ _,fun y=> ?_⟩,Ext.of_grown r2 (fun k hk=> .inl (by simpa using hk.symm))⟩
 by_cases e:y=x
 ·subst e
  rw[atKey_put_same h2 (by simp[WideAt.IsKeyLit])];simp
 ·rw[atKey_put_other (FI e),h3 y];simp[e]
end
section
open Go.RowKit Go.Maps
theorem yP:(prog.info? 9).map (fun i=>(i.zero,i.size,i.bytes))=some (some (.string ⟨#[]⟩),1,16):=by kernel_rfl
def fK (w:H5)(base:Nat)(v:Value)(xs:List ByteArray):Prop:=w.ownsRow base 9 1 v xs.length (xs.map Value.string)
theorem fK.nil (w:H5)(base:Nat):fK w base (.slice none 0 0) []:=World.ownsRow_nil _ _ _ _
theorem fK.isSlice {w:H5}{base:Nat}{v:Value}{xs:List ByteArray}(h:fK w base v xs):∃ao cap,v= .slice ao xs.length cap:=by
 rcases h.2 with⟨h1,h2⟩|⟨g,cap,cur,h1,_⟩
 ·exact⟨none,0,by rw[h2];exact h1⟩
 ·exact⟨_,_,h1⟩
theorem fK.at_ {w:H5}{base n cap:Nat}{ao:Option Addr}{xs:List ByteArray}(h:fK w base (.slice ao n cap) xs):aQ w ao xs:=by
 intro hne;rcases h.2 with⟨h1,h2⟩|⟨g,cap',cur,h1,h2,h3,h4,h5,h6,h7⟩
 ·exact absurd (Hm h2) hne
 ·have hs:ao=some ⟨g,0,none⟩:=by simp only[Value.slice.injEq] at h1;exact h1.1
  refine⟨g,0,hs,(GR.1 h3).1,fun k z hz=> ?_⟩;rw[Hf,cell_of_row w g k cur _ _ h3];have hk:k<xs.length:=(GQ.1 hz).1;have e:(cur.toList.take (xs.length*1))[k]?=some (.string z):=by rw[h7];simp[hz]
  rw[List.getElem?_take,if_pos (by omega)] at e;simpa using e
theorem fK.below {w w':H5}{base:Nat}{v:Value}{xs:List ByteArray}(h:fK w base v xs)(hb:H9 w.heap.size w w'):fK w' base v xs:=ownsRow_below h hb
theorem gp {w:H5}{ops:Array Oper}{rest:List Oper}{o:Oper}{a:Act}{Q:Exit→Act→H5→Prop}(hgd:o.guard=none)(s x:Operand)
  (ho:o.op= .call {callee:= .builtin .append,args:=#[s,x],argTypes:=#[223,223]})(base:Nat)(v:Value)(xs:List ByteArray)(hs:a.eval s=v)(hown:fK w base v xs)
  (ad:Addr)(z:ByteArray)(c:Nat)(hx:a.eval x= .slice (some ad) 1 c)(hat:w.cell? ad=some (.string z))(h63:xs.length≤90000)(hbase:base≤w.heap.size)
  (h:∀v' w',fK w' base v' (xs++[z])→w.grownBy w' v.ownBlock→wpList prog ops Q rest (a.put o.dst v') w'):wpList prog ops Q (o::rest) a w:=by
 obtain⟨i0,hi,hz0,hz1,hz2⟩:=info_parts yP;have hh:∀v' w',w'.ownsRow base 9 1 v' (xs.length+1) (xs.map Value.string++[.string z])→w.grownBy w' v.ownBlock→wpList prog ops Q rest (a.put o.dst v') w':=fun v' w' h1 h2=>h v' w' (by unfold fK;simpa using h1) h2;refine wpList_append_own _ hgd s x 223 ho base 9 i0 (.string ⟨#[]⟩) 1 16 underlying223 hi hz0 hz1 hz2 rfl (by decide) v xs.length _ hs hown ad 1 c [.string z] hx (by simp) (fun j u hu=> ?_) (by simp;rfl) (by unfold maxLen;omega) (by omega) hbase (fun v' w' h1 h2 _=>hh v' w' h1 h2);have:j<1:=(GQ.1 hu).1;obtain rfl:j=0:=by omega
 simp at hu;subst hu;obtain⟨b,o,s⟩:=ad;simpa[Addr.add] using hat
theorem AX {xs:List ByteArray}{j:Nat}{y:ByteArray}(h:(xs.take j).Nodup)(hy:xs[j]?=some y)(hn:y∉xs.take j):(xs.take (j+1)).Nodup:=by
 rw[aS hy,List.nodup_append];exact⟨h,by simp,by intro a ha b hb;simp at hb;subst hb;rintro rfl;exact hn ha⟩
theorem Cx {xs:List ByteArray}{j:Nat}{y:ByteArray}(hy:xs[j]?=some y)(hn:y∈xs.take j):¬xs.Nodup:=by
 intro h;have h2:(xs.take (j+1)).Nodup:=h.sublist (List.take_sublist _ _);rw[aS hy,List.nodup_append] at h2;exact h2.2.2 y hn y (by simp) rfl
theorem jD (w:H5)(c:Nat)(ao:Option Addr)(xs:List ByteArray)(hn:xs.length≤90000)(hsz:∀x∈xs,x.size≤maxLen)(h:aQ w ao xs):
  zP 133 #[.slice ao xs.length c] w (.bool (decide (¬xs.Nodup))):=by
 have hmm:=@run_makeMap prog;have H:=zH h;have HSZ:=zH hsz;obtain⟨N,hN⟩:=zE w.heap.size;obtain⟨W1,hW1⟩:=zE (w.alloc (.map #[] 0));have hb1:=gZ hW1 hN;have HS0:Ia (pY W1 N 0 []):=by rw[←hW1,←hN];exact pY.made w
 have HB1:=zH hb1;have HN:=zH hN;obtain⟨R,hR⟩:=zE (decide (¬xs.Nodup));rw[hR];have HR:=zH hR;clear h hsz hb1 hR;go_enter func133,ntmps133
 go_wp2_with fail
 go_loopw [9] (fun c wr=>∃(j:Nat) (S:List ByteArray),j≤xs.length∧c= .int .i64 (j:Int)∧pY wr N j S∧(∀z,z∈S↔z∈xs.take j)∧(xs.take j).Nodup∧H9 N w wr) (fun c _=>xs.length-(intOf c).toNat)
 case atStart=>exact⟨0,[],Hg _,rfl,HS0.out,by simp,by simp,HB1.out⟩
 case round=>
  obtain⟨j,S,hj,rfl,hset,hmem,hnd,hb⟩:=hrel;have HB:=zH hb;have HND:=zH hnd;have HMEM:=zH hmem
  by_cases hjl:j<xs.length
  ·obtain⟨y,hy⟩:∃y,xs[j]?=some y:=⟨_,GN hjl⟩
   obtain⟨g1,off,rfl,hg1,q1⟩:=(H.out.below (by rw[HN.out];exact hb)) (by intro e;rw[e] at hjl;simp at hjl)
   have d1:wr.cell? ⟨g1,off+j,none⟩=some (.string y):=q1 j y hy;have hys:=HSZ.out y (GV hy);have hjI:(j:Int)<(xs.length:Int):=by omega
   have hlk:=hset.look hys;obtain⟨w2,hup,hs2,hx2⟩:=hset.add hys (show j<maxLen by unfold maxLen;omega);obtain⟨d,hd⟩:=zE (decide (y∈S));rw[hd] at hlk;have HD:=zH hd;have HY:=zH hy;have HS2:=zH hs2;have HX2:=zH hx2;have hNw:=hset.lt;clear hset hmem hnd hb hy q1 hys hd hs2 hx2;cases d with
   |true=>
    have HRR:Ia (R=true):=by
     unfold Ia;rw[←HR.out];exact decide_eq_true (Cx HY.out ((HMEM.out y).1 (of_decide_eq_true HD.out)))
    go_wp2;go_ret;rw[HRR.out]
    try rw[HN.out]
    exact⟨rfl,HB.out⟩
   |false=>
    go_wp2;go_roundw
    case rel=>
     have hni:y∉xs.take j:=fun h=>of_decide_eq_false HD.out ((HMEM.out y).2 h);refine⟨j+1,y::S,by omega,by go_num,HS2.out,fun z=> ?_,AX HND.out HY.out hni, ?_⟩
     ·rw[aS HY.out,List.mem_cons,List.mem_append,HMEM.out z,Hq,or_comm]
     ·have hx3:Ext (N≤·) wr w2:=HX2.out.mono (fun k hk=>by show N≤k;omega)
      exact HB.out.trans (hx3.below (by omega) (fun k hk=>hk))
    case measure=>simp[intOf];omega
  ·have hje:j=xs.length:=by omega
   subst hje;have HRR:Ia (R=false):=by
    unfold Ia;rw[Ha] at hnd;rw[←HR.out];exact decide_eq_false (by simpa using hnd)
   clear hset hmem hnd hb;go_wp2;go_ret;rw[HRR.out]
   try rw[HN.out]
   exact⟨rfl,HB.out⟩
end
theorem nG (s:St):(s.cells.all fun x=>x.oneCell')=true:=by
 rw[←Array.all_toList];simp[St.cells,Dm.cells,Value.oneCell']
theorem nH (s:Fd):(s.cells.all fun x=>x.oneCell')=true:=by
 rw[←Array.all_toList];simp[Fd.cells,Value.oneCell']
theorem fw (f:Fn):(f.cells.all fun x=>x.oneCell')=true:=by
 rw[←Array.all_toList];simp[Fn.cells,dQ.cells,Value.oneCell']
theorem jE {α:Type}{l:List α}{j:Nat}{x:α}(f:α→ByteArray)(h:l[j]?=some x):(l.take (j+1)).map f=(l.take j).map f++[f x]:=by
 rw[aS h,List.map_append];rfl
theorem fK.grown {w w':H5}{B base:Nat}{v:Value}{xs:List ByteArray}(hv:fK w base v xs)(hg:w.grownBy w' v.ownBlock)(hB:B≤base)(hs:B≤w.heap.size):H9 B w w':=
 (Hw B w).grown hg hs (fun k hk=>Nat.le_trans hB (hv.lt k hk).1)
theorem yQ (m:Mo)(w:H5)(h:m.inn w)(hs:m.ss.length≤90000)(hf:m.fs.length≤90000)(hfl:∀s∈m.ss,s.fs.length≤90000):
  zP 94 #[.agg m.cells] w (.bool (di m)):=by
 have HM:=zH h;have HFL:=zH hfl;obtain⟨R,hR⟩:=zE (di m);have HR:Ia (R=((m.ss.any fun s=>decide (¬(s.fs.map Fd.nm).Nodup))||decide (¬(m.ss.map fun s=>s.s.nm).Nodup)||decide (¬(m.fs.map fun f=>f.c.nm).Nodup))):=hR.symm;rw[hR];clear h hfl hR;obtain⟨N,hN⟩:=zE w.heap.size;obtain⟨W1,hW1⟩:=zE (w.alloc (.cells m.cells 25));have hb1:=gZ hW1 hN;have hs1:W1.heap.size=N+1:=by rw[←hW1];simp[hN]
 have hr1:W1.heap[N]?=some (.cells m.cells 25 (0,0)):=by rw[←hW1,←hN];exact alloc_at _ _
 have HK:Ia (∀W,H9 (N+1) W1 W→W.cell? ⟨N,0,none⟩=some (.slice m.sA m.ss.length m.sC)∧W.cell? ⟨N,1,none⟩=some (.slice m.fA m.fs.length m.fC)∧N<W.heap.size):=fun W hW=>by
  have q:=(hW.block N (by omega)).trans hr1;exact⟨by rw[cell_of_row _ _ _ _ _ _ q];rfl,by rw[cell_of_row _ _ _ _ _ _ q];rfl,(GR.1 q).1⟩
 have HB1:=zH hb1;have HN:=zH hN;obtain⟨k0,k1,hNlt⟩:=HK.out W1 (Hw _ _);clear hb1 hr1;go_enter func94,ntmps94
 go_wp2_with fail
 go_loopw [3,15] (fun v c wr=>∃(j:Nat) (ao:Option Addr) (cap:Nat),j≤m.ss.length∧c= .int .i64 (j:Int)∧v= .slice ao ((m.ss.take j).map fun s=>s.s.nm).length cap∧fK wr (N+1) v ((m.ss.take j).map fun s=>s.s.nm)∧(∀s∈m.ss.take j,(s.fs.map Fd.nm).Nodup)∧H9 (N+1) W1 wr) (fun _ c _=>m.ss.length-(intOf c).toNat)
 case atStart=>exact⟨0,none,0,Hg _,rfl,rfl,fK.nil _ _,by simp,Hw _ _⟩
 case round=>
  clear k0 k1;obtain⟨j,ao,cap,hj,rfl,rfl,hown,hall,hb⟩:=hrel;have HB:=zH hb;have HOW:=zH hown;have HALL:=zH hall;obtain⟨k0,k1,hNr⟩:=HK.out wr hb;have hszr:N+1≤wr.heap.size:=by omega
  have HBW:Ia (H9 N w wr):=HB1.out.trans (hb.mono (by omega))
  by_cases hjl:j<m.ss.length
  ·obtain⟨s,hsj⟩:∃s,m.ss[j]?=some s:=⟨_,GN hjl⟩
   have hsm:=GV hsj;have hsin:=HM.out.sin s hsm;obtain⟨b0,off,hA,hb0,hcell⟩:=HM.out.srow (by intro e;rw[e] at hjl;simp at hjl);have hb0N:b0<N:=by omega
   have HCA:Ia (∀k u,s.cells.toList[k]?=some u→wr.cell? ((⟨b0,off+j*4,none⟩:Addr).add k)=some u):=fun k u hu=>by
    rw[Addr.add_lit,HBW.out.cell (p:=⟨b0,_,none⟩) hb0N];exact hcell j s hsj k u hu
   obtain⟨M,hM⟩:=zE wr.heap.size;obtain⟨W2,hW2⟩:=zE (wr.alloc (.cells s.cells 90));have hst:∀(c:Array Value),c.size=4→(storeCells ⟨M,0,none⟩ s.cells.toList 0).run prog (wr.alloc (.cells c 90))= .ok () W2:=fun c hc=>by
    rw[←hW2,←hM];exact run_storeCells_new (P:=prog) wr 90 c s.cells (by show _=some 4;kernel_rfl) hc (nG s)
   have hr2:W2.heap[M]?=some (.cells s.cells 90 (0,0)):=by rw[←hW2,←hM];exact alloc_at _ _
   have hs2:W2.heap.size=M+1:=by rw[←hW2];simp[hM]
   have HB2:Ia (H9 (N+1) W1 W2):=by rw[←hW2];exact HB.out.alloc hszr _
   have HOW2:Ia (fK W2 (N+1) (.slice ao ((m.ss.take j).map fun s=>s.s.nm).length cap) ((m.ss.take j).map fun s=>s.s.nm)):=by rw[←hW2];exact HOW.out.below ((Hw _ _).alloc (He _) _)
   have HK2:Ia (∀W,H9 (M+1) W2 W→W.cell? ⟨M,0,none⟩=some (.string s.s.nm)∧W.cell? ⟨M,1,none⟩=some (.slice s.s.fA s.fs.length s.s.fC)∧M<W.heap.size):=fun W hW=>by
    have q:=(hW.block M (by omega)).trans hr2;exact⟨by rw[cell_of_row _ _ _ _ _ _ q];rfl,by rw[cell_of_row _ _ _ _ _ _ q,←hsin.nf];rfl,(GR.1 q).1⟩
   obtain⟨m0,m1,hMlt⟩:=HK2.out W2 (Hw _ _);have HFR:Ia (aG Fd.cells 5 w w.heap.size s.s.fA s.fs):=hsin.row;have HFN:Ia (∀f∈s.fs,f.nm.size≤maxLen):=hsin.fnm;have hfl:=HFL.out s hsm;have HSJ:=zH hsj;have hjI:(j:Int)<(m.ss.length:Int):=by omega
   obtain⟨XS,hXS⟩:=zE ((m.ss.take j).map fun s=>s.s.nm);have hLS2:XS.length≤90000:=by rw[←hXS];simp;omega
   rw[hXS] at HOW2⊢;have HXS:=zH hXS;rw[hA] at k0⊢;clear hb hown hall HOW hsm hsin hb0 hcell hsj hr2 hW2 hXS
   go_upto_region 7 with(refine ay rfl 90 _ rfl ⟨b0,off+j*4,none⟩ rfl s.cells _ HCA.out underlying90 rfl (by kernel_rfl) ?_)
   go_loopw [7,22] (fun v c wq=>∃(q:Nat) (ao:Option Addr) (cap:Nat),q≤s.fs.length∧c= .int .i64 (q:Int)∧v= .slice ao ((s.fs.take q).map Fd.nm).length cap∧fK wq (M+1) v ((s.fs.take q).map Fd.nm)∧H9 (M+1) W2 wq) (fun _ c _=>s.fs.length-(intOf c).toNat)
   case atStart=>exact⟨0,none,0,Hg _,rfl,rfl,fK.nil _ _,Hw _ _⟩
   case round=>
    obtain⟨q,ao2,cap2,hq,rfl,rfl,hown2,hbq⟩:=hrel;have HBQ:=zH hbq;have HOQ:=zH hown2;have hszq:M+1≤wr.heap.size:=by have:=hbq.size;omega
    clear m0 m1 k0 k1;obtain⟨m0,m1,_⟩:=HK2.out _ hbq
    by_cases hql:q<s.fs.length
    ·obtain⟨f,hfq⟩:∃f,s.fs[q]?=some f:=⟨_,GN hql⟩
     obtain⟨fb,foff,hfA,hfb,hfc⟩:=HFR.out (by intro e;rw[e] at hql;simp at hql);have hfbN:fb<N:=by omega
     have HBNQ:Ia (H9 N w wr):=HB1.out.trans ((HB2.out.trans (hbq.mono (by omega))).mono (by omega));have HFC:Ia (∀k u,f.cells.toList[k]?=some u→wr.cell? ((⟨fb,foff+q*5,none⟩:Addr).add k)=some u):=fun k u hu=>by
      rw[Addr.add_lit,HBNQ.out.cell (p:=⟨fb,_,none⟩) hfbN];exact hfc q f hfq k u hu
     obtain⟨P,hP⟩:=zE wr.heap.size;obtain⟨W3,hW3⟩:=zE (wr.alloc (.cells f.cells 92));have hst3:∀(c:Array Value),c.size=5→(storeCells ⟨P,0,none⟩ f.cells.toList 0).run prog (wr.alloc (.cells c 92))= .ok () W3:=fun c hc=>by
      rw[←hW3,←hP];exact run_storeCells_new (P:=prog) wr 92 c f.cells (by show _=some 5;kernel_rfl) hc (nH f)
     have hr3:W3.heap[P]?=some (.cells f.cells 92 (0,0)):=by rw[←hW3,←hP];exact alloc_at _ _
     have hs3:W3.heap.size=P+1:=by rw[←hW3];simp[hP]
     have p0:=zR hr3 0 (.string f.nm);have HB3:Ia (H9 (M+1) W2 W3):=by rw[←hW3];exact HBQ.out.alloc hszq _
     have HOQ3:Ia (fK W3 (M+1) (.slice ao2 ((s.fs.take q).map Fd.nm).length cap2) ((s.fs.take q).map Fd.nm)):=by rw[←hW3];exact HOQ.out.below ((Hw _ _).alloc (He _) _)
     have HFQ:=zH hfq;have hqI:(q:Int)<(s.fs.length:Int):=by omega
     obtain⟨XQ,hXQ⟩:=zE ((s.fs.take q).map Fd.nm);have hLQ2:XQ.length≤90000:=by rw[←hXQ];simp;omega
     have HXQ:=zH hXQ;rw[hfA];rw[hXQ] at HOQ3⊢;clear hbq hown2 HOQ hfq hfb hfc hr3 hW3 hXQ
     go_wp2_with (first
      |(refine ay rfl 92 _ rfl ⟨fb,foff+q*5,none⟩ rfl f.cells _ HFC.out underlying92 rfl (by kernel_rfl) ?_)
      |(at_builtin;refine gp rfl (.tmp 26) (.tmp 29) rfl (M+1) (.slice ao2 XQ.length cap2) XQ rfl (HOQ3.out.below ((Hw _ _).alloc (He _) _)) ⟨P+1,0,none⟩ f.nm 1 rfl ?c0 hLQ2 ?c1 ?_))
     case c0=>rw[←hs3,World.cell?_alloc_new];rfl
     case c1=>rw[Hu];omega
     intro v5 w5 hown5 hgrow5;obtain⟨X5,hX5⟩:=zE (XQ++[f.nm]);rw[hX5] at hown5;obtain⟨ao5,cap5,rfl⟩:=hown5.isSlice;have HX5:Ia (X5=(s.fs.take (q+1)).map Fd.nm):=by unfold Ia;rw[jE Fd.nm HFQ.out,HXQ.out,hX5]
     have HB5:Ia (H9 (M+1) W2 w5):=(HB3.out.alloc (by omega) _).trans (fK.grown (HOQ3.out.below ((Hw _ _).alloc (He _) _)) hgrow5 (He _) (by simp;omega));have HOW5:Ia (fK w5 (M+1) (.slice ao5 X5.length cap5) X5):=hown5;clear hown5 hgrow5 hX5;go_wp2;go_roundw
     case rel=>exact⟨q+1,ao5,cap5,by omega,by go_num,by rw[←HX5.out],by rw[←HX5.out];exact HOW5.out,HB5.out⟩
     case measure=>simp[intOf];omega
    ·have hqe:q=s.fs.length:=by omega
     subst hqe;rw[Ha] at HOQ⊢;obtain⟨XF,hXF⟩:=zE (s.fs.map Fd.nm);have HDC:Ia (zP 133 #[.slice ao2 XF.length cap2] wr (.bool (decide (¬XF.Nodup)))):=by
      rw[←hXF];exact jD wr cap2 ao2 (s.fs.map Fd.nm) (by simp;exact hfl) (fun x hx=>by
       obtain⟨f,hf1,rfl⟩:=List.mem_map.1 hx;exact HFN.out f hf1) HOQ.out.at_
     rw[hXF];have HXF:=zH hXF;clear hXF HOQ;obtain⟨d,hd⟩:=zE (decide (¬XF.Nodup));rw[hd] at HDC;have HD:=zH hd;clear hd hown2 hbq;cases d with
     |true=>
      have HRR:Ia (R=true):=by
       unfold Ia;rw[HR.out,List.any_eq_true.2 ⟨s,GV HSJ.out,by rw[HXF.out];exact HD.out⟩];rfl
      go_wp2_with (go_at_call 133;refine HDC.out.mono ?_;rintro e w6 ⟨rfl,hb6⟩;have HB6:=zH hb6;clear hb6)
      go_ret;rw[HRR.out]
      try rw[HN.out]
      exact⟨rfl,HB1.out.trans ((HB2.out.trans ((HBQ.out.trans (HB6.out.mono hszq)).mono (by omega))).mono (by omega))⟩
     |false=>
      have HND:Ia ((s.fs.map Fd.nm).Nodup):=by
       unfold Ia;rw[HXF.out];exact Decidable.of_not_not (of_decide_eq_false HD.out)
      go_upto_region 13 with(go_at_call 133;refine HDC.out.mono ?_;rintro e w6 ⟨rfl,hb6⟩;have HB6:Ia (H9 (M+1) W2 w6):=HBQ.out.trans (hb6.mono hszq);clear hb6)
      obtain⟨n0,_,_⟩:=HK2.out w6 HB6.out;have hs6:M+1≤w6.heap.size:=by have:=HB6.out.size;omega
      have HOW6:Ia (fK w6 (N+1) (.slice ao XS.length cap) XS):=by
       refine HOW2.out.below (Below.mono HB6.out ?_);omega
      clear m0 m1 HDC
      go_wp2_with (at_builtin;refine gp rfl (.tmp 34) (.tmp 37) rfl (N+1) (.slice ao XS.length cap) XS rfl (HOW6.out.below ((Hw _ _).alloc (He _) _)) ⟨w6.heap.size,0,none⟩ s.s.nm 1 rfl ?c0 hLS2 ?c1 ?_)
      case c0=>rw[World.cell?_alloc_new];rfl
      case c1=>rw[Hu];omega
      intro v7 w7 hown7 hgrow7;obtain⟨X7,hX7⟩:=zE (XS++[s.s.nm]);rw[hX7] at hown7;obtain⟨ao7,cap7,rfl⟩:=hown7.isSlice;have HX7:Ia (X7=(m.ss.take (j+1)).map fun s=>s.s.nm):=by unfold Ia;rw[jE (fun s:St=>s.s.nm) HSJ.out,HXS.out,hX7]
      have HB7:Ia (H9 (N+1) W1 w7):=((HB2.out.trans (HB6.out.mono (by omega))).alloc (by omega) _).trans (fK.grown (HOW6.out.below ((Hw _ _).alloc (He _) _)) hgrow7 (He _) (by simp;omega));have HOW7:Ia (fK w7 (N+1) (.slice ao7 X7.length cap7) X7):=hown7;clear hown7 hgrow7 hX7;go_wp2;go_roundw
      case rel=>exact⟨j+1,ao7,cap7,by omega,by go_num,by rw[←HX7.out],by rw[←HX7.out];exact HOW7.out,dx (p:=fun s:St=>(s.fs.map Fd.nm).Nodup) HALL.out HSJ.out HND.out,HB7.out⟩
      case measure=>simp[intOf];omega
  ·have hje:j=m.ss.length:=by omega
   subst hje;rw[Ha] at HOW HALL⊢;obtain⟨XS,hXS⟩:=zE (m.ss.map fun s=>s.s.nm);have hLS2:XS.length≤90000:=by rw[←hXS];simp;omega
   rw[hXS] at HOW⊢;have HRX:Ia (R=(decide (¬XS.Nodup)||decide (¬(m.fs.map fun f=>f.c.nm).Nodup))):=by
    unfold Ia;rw[HR.out,hXS];have e:(m.ss.any fun s=>decide (¬(s.fs.map Fd.nm).Nodup))=false:=by
     rw[List.any_eq_false];intro s hsm;have:=HALL.out s hsm;simpa using this
    rw[e,Bool.false_or]
   have HXN:Ia (∀x∈XS,x.size≤maxLen):=fun x hx=>by
    rw[←hXS] at hx;obtain⟨s,hs1,rfl⟩:=List.mem_map.1 hx;exact(HM.out.sin s hs1).nm
   clear hb hown hall HALL HR hXS
   go_upto_region 16 with(fail)
   obtain⟨wo,hwo⟩:∃wo,wo=wr:=⟨_,rfl⟩
   subst hwo
   go_loopw [4,43] (fun v c wq=>∃(q:Nat) (ao:Option Addr) (cap:Nat),q≤m.fs.length∧c= .int .i64 (q:Int)∧v= .slice ao ((m.fs.take q).map fun f=>f.c.nm).length cap∧fK wq wo.heap.size v ((m.fs.take q).map fun f=>f.c.nm)∧H9 wo.heap.size wo wq) (fun _ c _=>m.fs.length-(intOf c).toNat)
   case atStart=>exact⟨0,none,0,Hg _,rfl,rfl,fK.nil _ _,Hw _ _⟩
   case round=>
    obtain⟨q,ao2,cap2,hq,rfl,rfl,hown2,hbq⟩:=hrel;have HBQ:=zH hbq;have HOQ:=zH hown2;have hszq:=hbq.size;clear k0 k1
    by_cases hql:q<m.fs.length
    ·obtain⟨f,hfq⟩:∃f,m.fs[q]?=some f:=⟨_,GN hql⟩
     obtain⟨fb,foff,hfA,hfb,hfc⟩:=HM.out.frow (by intro e;rw[e] at hql;simp at hql);have hfbN:fb<N:=by omega
     have HBNQ:Ia (H9 N w wr):=HBW.out.trans (hbq.mono (by omega));have HFC:Ia (∀k u,f.cells.toList[k]?=some u→wr.cell? ((⟨fb,foff+q*8,none⟩:Addr).add k)=some u):=fun k u hu=>by
      rw[Addr.add_lit,HBNQ.out.cell (p:=⟨fb,_,none⟩) hfbN];exact hfc q f hfq k u hu
     obtain⟨P,hP⟩:=zE wr.heap.size;obtain⟨W3,hW3⟩:=zE (wr.alloc (.cells f.cells 38));have hst3:∀(c:Array Value),c.size=8→(storeCells ⟨P,0,none⟩ f.cells.toList 0).run prog (wr.alloc (.cells c 38))= .ok () W3:=fun c hc=>by
      rw[←hW3,←hP];exact run_storeCells_new (P:=prog) wr 38 c f.cells (by show _=some 8;kernel_rfl) hc (fw f)
     have hr3:W3.heap[P]?=some (.cells f.cells 38 (0,0)):=by rw[←hW3,←hP];exact alloc_at _ _
     have hs3:W3.heap.size=P+1:=by rw[←hW3];simp[hP]
     have p0:=zR hr3 0 (.string f.c.nm);have HB3:Ia (H9 wo.heap.size wo W3):=by rw[←hW3];exact HBQ.out.alloc hszq _
     have HOQ3:Ia (fK W3 wo.heap.size (.slice ao2 ((m.fs.take q).map fun f=>f.c.nm).length cap2) ((m.fs.take q).map fun f=>f.c.nm)):=by rw[←hW3];exact HOQ.out.below ((Hw _ _).alloc (He _) _)
     have HFQ:=zH hfq;have hqI:(q:Int)<(m.fs.length:Int):=by omega
     obtain⟨XQ,hXQ⟩:=zE ((m.fs.take q).map fun f=>f.c.nm);have hLQ2:XQ.length≤90000:=by rw[←hXQ];simp;omega
     have HXQ:=zH hXQ;rw[hfA];rw[hXQ] at HOQ3⊢;clear hbq hown2 HOQ hfq hfb hfc hr3 hW3 hXQ
     go_wp2_with (first
      |(refine ay rfl 38 _ rfl ⟨fb,foff+q*8,none⟩ rfl f.cells _ HFC.out underlying38 rfl (by kernel_rfl) ?_)
      |(at_builtin;refine gp rfl (.tmp 47) (.tmp 50) rfl wo.heap.size (.slice ao2 XQ.length cap2) XQ rfl (HOQ3.out.below ((Hw _ _).alloc (He _) _)) ⟨P+1,0,none⟩ f.c.nm 1 rfl ?c0 hLQ2 ?c1 ?_))
     case c0=>rw[←hs3,World.cell?_alloc_new];rfl
     case c1=>rw[Hu];omega
     intro v5 w5 hown5 hgrow5;obtain⟨X5,hX5⟩:=zE (XQ++[f.c.nm]);rw[hX5] at hown5;obtain⟨ao5,cap5,rfl⟩:=hown5.isSlice;have HX5:Ia (X5=(m.fs.take (q+1)).map fun f=>f.c.nm):=by unfold Ia;rw[jE (fun f:Fn=>f.c.nm) HFQ.out,HXQ.out,hX5]
     have HB5:Ia (H9 wo.heap.size wo w5):=(HB3.out.alloc (by omega) _).trans (fK.grown (HOQ3.out.below ((Hw _ _).alloc (He _) _)) hgrow5 (He _) (by simp;omega));have HOW5:Ia (fK w5 wo.heap.size (.slice ao5 X5.length cap5) X5):=hown5;clear hown5 hgrow5 hX5;go_wp2;go_roundw
     case rel=>exact⟨q+1,ao5,cap5,by omega,by go_num,by rw[←HX5.out],by rw[←HX5.out];exact HOW5.out,HB5.out⟩
     case measure=>simp[intOf];omega
    ·have hqe:q=m.fs.length:=by omega
     subst hqe;rw[Ha] at HOQ⊢;obtain⟨XF,hXF⟩:=zE (m.fs.map fun f=>f.c.nm);rw[hXF] at HOQ HRX⊢;have hFN:∀x∈XF,x.size≤maxLen:=fun x hx=>by
      rw[←hXF] at hx;obtain⟨f,hf1,rfl⟩:=List.mem_map.1 hx;exact(HM.out.fin f hf1).nm
     have hLF:XF.length≤90000:=by rw[←hXF];simpa using hf
     have HDS:Ia (zP 133 #[.slice ao XS.length cap] wr (.bool (decide (¬XS.Nodup)))):=
      jD wr cap ao XS hLS2 HXN.out ((HOW.out.below HBQ.out).at_)
     have HDF:Ia (∀W,H9 wr.heap.size wr W→zP 133 #[.slice ao2 XF.length cap2] W (.bool (decide (¬XF.Nodup)))):=fun W hW=>
      jD W cap2 ao2 XF hLF hFN ((HOQ.out.below hW).at_)
     obtain⟨d,hd⟩:=zE (decide (¬XS.Nodup));obtain⟨d2,hd2⟩:=zE (decide (¬XF.Nodup));rw[hd] at HDS HRX;rw[hd2] at HDF HRX;have HBQ2:Ia (H9 N w wr):=HBW.out.trans (HBQ.out.mono (by omega));clear hown2 hbq hXF hFN HOQ HOW hd hd2;cases d with
     |true=>
      go_wp2_with (go_at_call 133;refine HDS.out.mono ?_;rintro e w6 ⟨rfl,hb6⟩;have HB6:=zH hb6;clear hb6)
      go_ret;rw[HRX.out]
      try rw[HN.out]
      exact⟨rfl,HBQ2.out.trans (HB6.out.mono (by omega))⟩
     |false=>
      go_upto_region 20 with(fail)
      go_wp2_with (first
       |(go_at_call 133;refine(HDF.out _ HB6.out).mono ?_;rintro e w7 ⟨rfl,hb7⟩;have HB7:=zH hb7;clear hb7)
       |(go_at_call 133;refine HDS.out.mono ?_;rintro e w6 ⟨rfl,hb6⟩;have HB6:=zH hb6;clear hb6))
      go_ret;rw[HRX.out]
      try rw[HN.out]
      exact⟨rfl,(HBQ2.out.trans (HB6.out.mono (by omega))).trans (HB7.out.mono (by have:=HB6.out.size;omega))⟩
def uS (t:Ty):Array Value:=#[.agg #[.bool t.1,.string t.2]]
def mH (N B:Nat)(k:Nat):Prop:=k<N∨k=B
def Gh (f:Fn):List Ty:=f.ret::f.vs.map Vr.ty
def Gi (s:St):List Ty:=s.fs.map Fd.ty
def kD (m:Mo)(j:Nat):List Ty:=(m.fs.drop j).flatMap Gh
def kS (m:Mo)(j:Nat):List Ty:=(m.ss.drop j).flatMap Gi++kD m 0
theorem yR (m:Mo):bN m=kS m 0:=rfl
theorem AY {m:Mo}{j:Nat}{s:St}(h:m.ss[j]?=some s):kS m j=(s.fs.drop 0).map Fd.ty++kS m (j+1):=by
 obtain⟨hj,e⟩:=GQ.1 h;unfold kS;rw[List.drop_eq_getElem_cons hj,e,List.flatMap_cons,Hr];rfl
theorem Cy (m:Mo):kS m m.ss.length=kD m 0:=by
 unfold kS;simp
theorem AZ {m:Mo}{j:Nat}{f:Fn}(h:m.fs[j]?=some f):kD m j=f.ret::((f.vs.drop 0).map Vr.ty++kD m (j+1)):=by
 obtain⟨hj,e⟩:=GQ.1 h;unfold kD;rw[List.drop_eq_getElem_cons hj,e,List.flatMap_cons];rfl
theorem Cz (m:Mo):kD m m.fs.length=[]:=by
 unfold kD;simp
theorem ma {α:Type}{l:List α}{q:Nat}{x:α}(f:α→Ty)(h:l[q]?=some x):(l.drop q).map f=f x::(l.drop (q+1)).map f:=by
 obtain⟨hj,e⟩:=GQ.1 h;rw[List.drop_eq_getElem_cons hj,e,List.map_cons]
theorem nJ {α:Type}(l:List α)(f:α→Ty):(l.drop l.length).map f=[]:=by simp
theorem wR (f:Vr):(f.cells.all fun x=>x.oneCell')=true:=by
 rw[←Array.all_toList];simp[Vr.cells,Value.oneCell']
theorem qU {pre r:List Ty}{x:Ty}{xs:List Ty}(h:xs=pre++x::r):(pre++[x])<+:xs∧xs=(pre++[x])++r:=by
 subst h;exact⟨⟨r,by simp⟩,by simp⟩
theorem yS (w0 w:H5)(m:Mo)(B:Nat)(h:m.inn w0)(hb:H9 w0.heap.size w0 w)(hB:w.heap[B]?=some (.cells m.cells 25 (0,0)))(hfl:∀s∈m.ss,s.fs.length≤90000)(hvl:∀f∈m.fs,f.vs.length≤90000)(hsl:m.ss.length≤90000)(hfn:m.fs.length≤90000):
  Iter prog 134 #[.pointer (some ⟨B,0,none⟩)] uS (bN m) (mH w0.heap.size B) w:=by
 intro l J Jx C W hbw hst hJC hstx hmeet hJ;have HST:=zH hst;have HJC:=zH hJC;have HM:=zH hmeet;have HJ:=zH hJ;have HFL:=zH hfl;have HVL:=zH hvl;have hWB:W.heap[B]?=some (.cells m.cells 25 (0,0)):=(hbw.block B (GR.1 hB).1).trans hB;obtain⟨N,hN⟩:=zE w0.heap.size;rw[hN] at HJC;have HR:Ia (∀W1,Ext (fun k=>¬mH N B k) W W1→W1.cell? ⟨B,0,none⟩=some (.slice m.sA m.ss.length m.sC)∧W1.cell? ⟨B,1,none⟩=some (.slice m.fA m.fs.length m.fC)∧m.inn W1∧B<W1.heap.size):=by
  intro W1 hx;have q:=hx.heap hWB (fun h=>h (.inr rfl));refine⟨by rw[cell_of_row _ _ _ _ _ _ q];rfl,by rw[cell_of_row _ _ _ _ _ _ q];rfl, ?_,(GR.1 q).1⟩;have b1:H9 w0.heap.size w0 W:=hb.trans (hbw.mono hb.size);have b2:H9 N W W1:=hx.below (by rw[←hN];exact b1.size) (fun k hk=>by
   by_cases e:k<N
   ·exact absurd (.inl e) hk
   ·omega)
  exact h.below (b1.trans (by rw[hN];exact b2))
 obtain⟨XS,hXS⟩:=zE (bN m);rw[hXS] at HM⊢;have HXS:Ia (XS=kS m 0):=by rw[←hXS];exact yR m
 obtain⟨c0,c1,_,hBl⟩:=HR.out W (Ext.refl _ _);clear hst hJC hstx hmeet hJ h hb hB hbw hWB hXS hN hfl hvl
 show Calls _ _ #[.func (.yield l) #[] #[],.pointer (some ⟨B,0,none⟩)] _ _
 go_enter func134,ntmps134
 go_wp2_with fail
 go_loopw [14] (fun c wr=>∃(j:Nat) (pre:List Ty) (C:Nat→Prop),j≤m.ss.length∧c= .int .i64 (j:Int)∧XS=pre++kS m j∧J pre C wr∧Ext (fun k=>¬mH N B k) W wr) (fun c _=>m.ss.length-(intOf c).toNat)
 case atStart=>exact⟨0,[],C,Hg _,rfl,HXS.out,HJ.out,Ext.refl _ _⟩
 case round=>
  clear c0 c1;obtain⟨j,pre,C1,hj,rfl,hxs,hJ1,hx1⟩:=hrel;have HX1:=zH hx1;have HJ1:=zH hJ1;have HXX:=zH hxs;obtain⟨c0,c1,hmin,hBl1⟩:=HR.out wr hx1
  by_cases hjl:j<m.ss.length
  ·obtain⟨s,hs⟩:∃s,m.ss[j]?=some s:=⟨_,GN hjl⟩
   have hsm:=GV hs;have hsin:=hmin.sin s hsm;obtain⟨b0,off,hA,hb0,hcell⟩:=hmin.srow (by intro e;rw[e] at hjl;simp at hjl);have HCA:Ia (∀k u,s.cells.toList[k]?=some u→wr.cell? ((⟨b0,off+j*4,none⟩:Addr).add k)=some u):=fun k u hu=>by
    rw[Addr.add_lit];exact hcell j s hs k u hu
   obtain⟨M,hM⟩:=zE wr.heap.size;obtain⟨W2,hW2⟩:=zE (wr.alloc (.cells s.cells 90));have hst:∀(c:Array Value),c.size=4→(storeCells ⟨M,0,none⟩ s.cells.toList 0).run prog (wr.alloc (.cells c 90))= .ok () W2:=fun c hc=>by
    rw[←hW2,←hM];exact run_storeCells_new (P:=prog) wr 90 c s.cells (by show _=some 4;kernel_rfl) hc (nG s)
   have hr2:W2.heap[M]?=some (.cells s.cells 90 (0,0)):=by rw[←hW2,←hM];exact alloc_at _ _
   have m1:W2.cell? ⟨M,1,none⟩=some (.slice s.s.fA s.fs.length s.s.fC):=by rw[cell_of_row _ _ _ _ _ _ hr2,←hsin.nf];rfl
   have hMlt:M<W2.heap.size:=(GR.1 hr2).1;have HX2:Ia (Ext (fun k=>¬mH N B k) W W2):=by rw[←hW2];exact HX1.out.alloc _
   have HJ2:Ia (J pre C1 W2):=by rw[←hW2];exact HST.out _ _ _ _ HJ1.out ((Ext.refl _ _).alloc _)
   have hXJ:XS=pre++((s.fs.drop 0).map Fd.ty++kS m (j+1)):=by rw[hxs,AY hs]
   have HXJ:=zH hXJ;have HS:=zH hs;have hfl:=HFL.out s hsm;have hjI:(j:Int)<(m.ss.length:Int):=by omega
   rw[hA] at c0⊢;clear hx1 hJ1 hxs hsin hb0 hcell hs hr2 hW2 hXJ hmin
   go_upto_region 4 with(refine ay rfl 90 _ rfl ⟨b0,off+j*4,none⟩ rfl s.cells _ HCA.out underlying90 rfl (by kernel_rfl) ?_)
   go_loopw [21] (fun c wq=>∃(q:Nat) (pre:List Ty) (C:Nat→Prop),q≤s.fs.length∧c= .int .i64 (q:Int)∧XS=pre++((s.fs.drop q).map Fd.ty++kS m (j+1))∧J pre C wq∧Ext (fun k=>¬mH N B k) W wq) (fun c _=>s.fs.length-(intOf c).toNat)
   case atStart=>exact⟨0,pre,C1,Hg _,rfl,HXJ.out,HJ2.out,HX2.out⟩
   case round=>
    clear m1 c0 c1;obtain⟨q,pq,C2,hq,rfl,hxq,hJq,hx2⟩:=hrel;have HXQ:=zH hx2;have HJQ:=zH hJq;obtain⟨_,_,hminq,_⟩:=HR.out wr hx2
    by_cases hql:q<s.fs.length
    ·obtain⟨f,hf⟩:∃f,s.fs[q]?=some f:=⟨_,GN hql⟩
     obtain⟨fb,foff,hfA,hfb,hfc⟩:=(hminq.sin s hsm).row (by intro e;rw[e] at hql;simp at hql);have HFC:Ia (∀k u,f.cells.toList[k]?=some u→wr.cell? ((⟨fb,foff+q*5,none⟩:Addr).add k)=some u):=fun k u hu=>by
      rw[Addr.add_lit];exact hfc q f hf k u hu
     obtain⟨P,hP⟩:=zE wr.heap.size;obtain⟨W3,hW3⟩:=zE (wr.alloc (.cells f.cells 92));have hst3:∀(c:Array Value),c.size=5→(storeCells ⟨P,0,none⟩ f.cells.toList 0).run prog (wr.alloc (.cells c 92))= .ok () W3:=fun c hc=>by
      rw[←hW3,←hP];exact run_storeCells_new (P:=prog) wr 92 c f.cells (by show _=some 5;kernel_rfl) hc (nH f)
     have hr3:W3.heap[P]?=some (.cells f.cells 92 (0,0)):=by rw[←hW3,←hP];exact alloc_at _ _
     have p1:=zR hr3 1 (.bool f.ptr);have p2:=zR hr3 2 (.string f.tgt);have hPlt:P<W3.heap.size:=(GR.1 hr3).1;have HX3:Ia (Ext (fun k=>¬mH N B k) W W3):=by rw[←hW3];exact HXQ.out.alloc _
     have hJ3:J pq C2 W3:=by rw[←hW3];exact HST.out _ _ _ _ HJQ.out ((Ext.refl _ _).alloc _)
     have HJ3:=zH hJ3;have hxf:XS=pq++f.ty::((s.fs.drop (q+1)).map Fd.ty++kS m (j+1)):=by rw[hxq,ma Fd.ty hf];rfl
     have HP:=zH (qU hxf);have HMM:=zH (HM.out pq f.ty C2 W3 hJ3 HP.out.1);unfold uS at HMM;simp only[Fd.ty] at HMM;have hqI:(q:Int)<(s.fs.length:Int):=by omega
     rw[hfA];clear hx2 hJq hxq hf hfb hfc hr3 hW3 hJ3 hxf hminq
     go_upto_region 6 with(refine ay rfl 92 _ rfl ⟨fb,foff+q*5,none⟩ rfl f.cells _ HFC.out underlying92 rfl (by kernel_rfl) ?_)
     refine(wpIn_wide (n:=0)).1 ?_;refine wpIn_region_lit (aR rfl (by simp) (.func (.yield l) #[] #[]) (w':=W3) (by simp[go_sem]) ?_);simp only[Act.put,GX,GY,GZ];refine aR rfl (by simp) (.pointer (some ⟨P,1,none⟩)) (w':=W3) (by simp[go_sem]) ?_;simp only[Act.put,GX,GY,GZ];refine aR rfl (by simp) (.agg #[.bool f.ptr,.string f.tgt]) (w':=W3) (by simp[go_sem,p1,p2]) ?_;simp only[Act.put,GX,GY,GZ];refine iV (fv:= .func (.yield l) #[] #[]) (args:=#[.agg #[.bool (f.ptr,f.tgt).1,.string (f.ptr,f.tgt).2]]) rfl (.tmp 25) #[.tmp 27] _ rfl rfl (by simp[Act.eval]) HMM.out ?_;intro v w3 hv;simp only[Act.put,GX,GY,GZ];rcases hv with⟨rfl,C',hC',hJ',hx'⟩|⟨rfl,hJ'⟩
     ·refine aR rfl (by simp) (.bool false) (w':=w3) (by simp[go_sem]) ?_
      simp only[Act.put,GX,GY,GZ];refine wpListIn_nil ?_;have HNN:Ia (J (pq++[f.ty]) C' w3∧Ext (fun k=>¬mH N B k) W w3):=⟨hJ',HX3.out.trans hx' (fun k hk=> .inl ((HJC.out _ _ _ HJ3.out k hk).2))⟩
      clear hJ' hx' hC' p1 p2;go_wp2;go_roundw
      case rel=>exact⟨q+1,_,C',by omega,by go_num,HP.out.2,HNN.out.1,HNN.out.2⟩
      case measure=>simp[intOf];omega
     ·refine aR rfl (by simp) (.bool true) (w':=w3) (by simp[go_sem]) ?_
      simp only[Act.put,GX,GY,GZ];refine wpListIn_nil ?_;have HF:Ia (∃pre,pre<+:XS∧Jx pre w3):=⟨_,HP.out.1,hJ'⟩
      clear hJ' p1 p2;go_wp2
      ((try simp only[Exit.inBlock,Exit.then]);(try rw[Exit.noGoto_ret]);(first|refine bodyPost_ret (results_none rfl _ _ _) rfl ?_|refine bodyPost_end (results_none rfl _ _ _) rfl ?_));exact⟨_,rfl,.inr HF.out⟩
    ·have hqe:q=s.fs.length:=by omega
     subst hqe;rw[nJ,List.nil_append] at hxq;have HXE:=zH hxq;clear hx2 hJq hxq hminq;go_wp2;go_roundw
     case rel=>exact⟨j+1,pq,C2,by omega,by go_num,HXE.out,HJQ.out,HXQ.out⟩
     case measure=>simp[intOf];omega
  ·have hje:j=m.ss.length:=by omega
   subst hje;rw[Cy] at hxs;have HXE:=zH hxs;obtain⟨wo,hwo⟩:∃wo,wo=wr:=⟨_,rfl⟩
   subst hwo;clear hx1 hJ1 hxs hmin
   go_upto_region 10 with(fail)
   go_loopw [35] (fun c wr=>∃(j:Nat) (pre:List Ty) (C:Nat→Prop),j≤m.fs.length∧c= .int .i64 (j:Int)∧XS=pre++kD m j∧J pre C wr∧Ext (fun k=>¬mH N B k) W wr) (fun c _=>m.fs.length-(intOf c).toNat)
   case atStart=>exact⟨0,pre,C1,Hg _,rfl,HXE.out,HJ1.out,HX1.out⟩
   case round=>
    clear c0 c1 HXE HJ1 HX1;obtain⟨j,pre,C1,hj,rfl,hxs,hJ1,hx1⟩:=hrel;have HX1:=zH hx1;have HJ1:=zH hJ1;obtain⟨_,_,hmin,_⟩:=HR.out wr hx1
    by_cases hjl:j<m.fs.length
    ·obtain⟨f,hf⟩:∃f,m.fs[j]?=some f:=⟨_,GN hjl⟩
     have hfm:=GV hf;have hfnv:=(hmin.fin f hfm).nvars;obtain⟨fb,foff,hfA,hfb,hfc⟩:=hmin.frow (by intro e;rw[e] at hjl;simp at hjl);have HFC:Ia (∀k u,f.cells.toList[k]?=some u→wr.cell? ((⟨fb,foff+j*8,none⟩:Addr).add k)=some u):=fun k u hu=>by
      rw[Addr.add_lit];exact hfc j f hf k u hu
     obtain⟨P,hP⟩:=zE wr.heap.size;obtain⟨W3,hW3⟩:=zE (wr.alloc (.cells f.cells 38));have hst3:∀(c:Array Value),c.size=8→(storeCells ⟨P,0,none⟩ f.cells.toList 0).run prog (wr.alloc (.cells c 38))= .ok () W3:=fun c hc=>by
      rw[←hW3,←hP];exact run_storeCells_new (P:=prog) wr 38 c f.cells (by show _=some 8;kernel_rfl) hc (fw f)
     have hr3:W3.heap[P]?=some (.cells f.cells 38 (0,0)):=by rw[←hW3,←hP];exact alloc_at _ _
     have p3:=zR hr3 3 (.bool f.c.rp);have p4:=zR hr3 4 (.string f.c.rto);have hPlt:P<W3.heap.size:=(GR.1 hr3).1;have HX3:Ia (Ext (fun k=>¬mH N B k) W W3):=by rw[←hW3];exact HX1.out.alloc _
     have hJ3:J pre C1 W3:=by rw[←hW3];exact HST.out _ _ _ _ HJ1.out ((Ext.refl _ _).alloc _)
     have HJ3:=zH hJ3;have HNP:Ia (¬C1 P):=fun h=>by have:=(HJC.out _ _ _ HJ1.out P h).1;omega
     have HR3:=zH hr3;have hxf:XS=pre++f.ret::((f.vs.drop 0).map Vr.ty++kD m (j+1)):=by rw[hxs,AZ hf]
     have HP:=zH (qU hxf);have HMM:=zH (HM.out pre f.ret C1 W3 hJ3 HP.out.1);unfold uS at HMM;simp only[Fn.ret] at HMM;have hjI:(j:Int)<(m.fs.length:Int):=by omega
     have hvl:=HVL.out f hfm;have HVR:Ia (∀W1,Ext (fun k=>¬mH N B k) W W1→aG Vr.cells 3 W1 W1.heap.size f.c.varsA f.vs):=fun W1 hx=>((HR.out W1 hx).2.2.1.fin f hfm).vars;rw[hfA];clear hx1 hJ1 hxs hf hfb hfc hr3 hW3 hJ3 hxf hmin
     go_upto_region 12 with(refine ay rfl 38 _ rfl ⟨fb,foff+j*8,none⟩ rfl f.cells _ HFC.out underlying38 rfl (by kernel_rfl) ?_)
     refine(wpIn_wide (n:=0)).1 ?_;refine wpIn_region_lit (aR rfl (by simp) (.func (.yield l) #[] #[]) (w':=W3) (by simp[go_sem]) ?_);simp only[Act.put,GX,GY,GZ];refine aR rfl (by simp) (.pointer (some ⟨P,3,none⟩)) (w':=W3) (by simp[go_sem]) ?_;simp only[Act.put,GX,GY,GZ];refine aR rfl (by simp) (.pointer (some ⟨P,3,none⟩)) (w':=W3) (by simp[go_sem]) ?_;simp only[Act.put,GX,GY,GZ];refine aR rfl (by simp) (.agg #[.bool f.c.rp,.string f.c.rto]) (w':=W3) (by simp[go_sem,p3,p4]) ?_;simp only[Act.put,GX,GY,GZ];refine iV (fv:= .func (.yield l) #[] #[]) (args:=#[.agg #[.bool (f.c.rp,f.c.rto).1,.string (f.c.rp,f.c.rto).2]]) rfl (.tmp 39) #[.tmp 42] _ rfl rfl (by simp[Act.eval]) HMM.out ?_;intro v w3 hv;simp only[Act.put,GX,GY,GZ];rcases hv with⟨rfl,C',hC',hJ',hx'⟩|⟨rfl,hJ'⟩
     ·refine aR rfl (by simp) (.bool false) (w':=w3) (by simp[go_sem]) ?_
      simp only[Act.put,GX,GY,GZ];refine wpListIn_nil ?_;have HNN:Ia (J (pre++[f.ret]) C' w3∧Ext (fun k=>¬mH N B k) W w3):=⟨hJ',HX3.out.trans hx' (fun k hk=> .inl ((HJC.out _ _ _ HJ3.out k hk).2))⟩
      have q3:=hx'.heap HR3.out HNP.out;have p2:w3.cell? ⟨P,2,none⟩=some (.slice f.c.varsA f.vs.length f.c.varsC):=by rw[cell_of_row _ _ _ _ _ _ q3,←hfnv];rfl
      have hP3:P<w3.heap.size:=(GR.1 q3).1;have HXF:Ia (XS=(pre++[f.ret])++((f.vs.drop 0).map Vr.ty++kD m (j+1))):=HP.out.2;clear hJ' hx' hC' p3 p4 q3 HMM;obtain⟨wo2,hwo2⟩:∃wo,wo=wr:=⟨_,rfl⟩
      subst hwo2
      go_upto_region 14 with(fail)
      go_loopw [48] (fun c wq=>∃(q:Nat) (pre:List Ty) (C:Nat→Prop),q≤f.vs.length∧c= .int .i64 (q:Int)∧XS=pre++((f.vs.drop q).map Vr.ty++kD m (j+1))∧J pre C wq∧Ext (fun k=>¬mH N B k) W wq) (fun c _=>f.vs.length-(intOf c).toNat)
      case atStart=>exact⟨0,_,C',Hg _,rfl,HXF.out,HNN.out.1,HNN.out.2⟩
      case round=>
       clear p2;obtain⟨q,pq,C2,hq,rfl,hxq,hJq,hx2⟩:=hrel;have HXQ:=zH hx2;have HJQ:=zH hJq
       by_cases hql:q<f.vs.length
       ·obtain⟨x,hx⟩:∃x,f.vs[q]?=some x:=⟨_,GN hql⟩
        obtain⟨vb,voff,hvA,hvb,hvc⟩:=HVR.out wr hx2 (by intro e;rw[e] at hql;simp at hql);have HVC:Ia (∀k u,x.cells.toList[k]?=some u→wr.cell? ((⟨vb,voff+q*3,none⟩:Addr).add k)=some u):=fun k u hu=>by
         rw[Addr.add_lit];exact hvc q x hx k u hu
        obtain⟨P2,hP2⟩:=zE wr.heap.size;obtain⟨W4,hW4⟩:=zE (wr.alloc (.cells x.cells 34));have hst4:∀(c:Array Value),c.size=3→(storeCells ⟨P2,0,none⟩ x.cells.toList 0).run prog (wr.alloc (.cells c 34))= .ok () W4:=fun c hc=>by
         rw[←hW4,←hP2];exact run_storeCells_new (P:=prog) wr 34 c x.cells (by show _=some 3;kernel_rfl) hc (wR x)
        have hr4:W4.heap[P2]?=some (.cells x.cells 34 (0,0)):=by rw[←hW4,←hP2];exact alloc_at _ _
        have p0:=zR hr4 0 (.bool x.ptr);have p1:=zR hr4 1 (.string x.tgt);have hPlt4:P2<W4.heap.size:=(GR.1 hr4).1;have HX4:Ia (Ext (fun k=>¬mH N B k) W W4):=by rw[←hW4];exact HXQ.out.alloc _
        have hJ4:J pq C2 W4:=by rw[←hW4];exact HST.out _ _ _ _ HJQ.out ((Ext.refl _ _).alloc _)
        have HJ4:=zH hJ4;have hxf:XS=pq++x.ty::((f.vs.drop (q+1)).map Vr.ty++kD m (j+1)):=by rw[hxq,ma Vr.ty hx];rfl
        have HP4:=zH (qU hxf);have HMM:=zH (HM.out pq x.ty C2 W4 hJ4 HP4.out.1);unfold uS at HMM;simp only[Vr.ty] at HMM;have hqI:(q:Int)<(f.vs.length:Int):=by omega
        rw[hvA];clear hx2 hJq hxq hx hvb hvc hr4 hW4 hJ4 hxf
        go_upto_region 16 with(refine ay rfl 34 _ rfl ⟨vb,voff+q*3,none⟩ rfl x.cells _ HVC.out underlying34 rfl (by kernel_rfl) ?_)
        refine(wpIn_wide (n:=0)).1 ?_;refine wpIn_region_lit (aR rfl (by simp) (.func (.yield l) #[] #[]) (w':=W4) (by simp[go_sem]) ?_);simp only[Act.put,GX,GY,GZ];refine aR rfl (by simp) (.pointer (some ⟨P2,0,none⟩)) (w':=W4) (by simp[go_sem]) ?_;simp only[Act.put,GX,GY,GZ];refine aR rfl (by simp) (.agg #[.bool x.ptr,.string x.tgt]) (w':=W4) (by simp[go_sem,p0,p1]) ?_;simp only[Act.put,GX,GY,GZ];refine iV (fv:= .func (.yield l) #[] #[]) (args:=#[.agg #[.bool (x.ptr,x.tgt).1,.string (x.ptr,x.tgt).2]]) rfl (.tmp 52) #[.tmp 54] _ rfl rfl (by simp[Act.eval]) HMM.out ?_;intro v w3 hv;simp only[Act.put,GX,GY,GZ];rcases hv with⟨rfl,C',hC',hJ',hx'⟩|⟨rfl,hJ'⟩
        ·refine aR rfl (by simp) (.bool false) (w':=w3) (by simp[go_sem]) ?_
         simp only[Act.put,GX,GY,GZ];refine wpListIn_nil ?_;have HN4:Ia (J (pq++[x.ty]) C' w3∧Ext (fun k=>¬mH N B k) W w3):=⟨hJ',HX4.out.trans hx' (fun k hk=> .inl ((HJC.out _ _ _ HJ4.out k hk).2))⟩
         clear hJ' hx' hC' p0 p1;go_wp2;go_roundw
         case rel=>exact⟨q+1,_,C',by omega,by go_num,HP4.out.2,HN4.out.1,HN4.out.2⟩
         case measure=>simp[intOf];omega
        ·refine aR rfl (by simp) (.bool true) (w':=w3) (by simp[go_sem]) ?_
         simp only[Act.put,GX,GY,GZ];refine wpListIn_nil ?_;have HF:Ia (∃pre,pre<+:XS∧Jx pre w3):=⟨_,HP4.out.1,hJ'⟩
         clear hJ' p0 p1;go_wp2
         ((try simp only[Exit.inBlock,Exit.then]);(try rw[Exit.noGoto_ret]);(first|refine bodyPost_ret (results_none rfl _ _ _) rfl ?_|refine bodyPost_end (results_none rfl _ _ _) rfl ?_));exact⟨_,rfl,.inr HF.out⟩
       ·have hqe:q=f.vs.length:=by omega
        subst hqe;rw[nJ,List.nil_append] at hxq;have HXE:=zH hxq;clear hx2 hJq hxq;go_wp2;go_roundw
        case rel=>exact⟨j+1,pq,C2,by omega,by go_num,HXE.out,HJQ.out,HXQ.out⟩
        case measure=>simp[intOf];omega
     ·refine aR rfl (by simp) (.bool true) (w':=w3) (by simp[go_sem]) ?_
      simp only[Act.put,GX,GY,GZ];refine wpListIn_nil ?_;have HF:Ia (∃pre,pre<+:XS∧Jx pre w3):=⟨_,HP.out.1,hJ'⟩
      clear hJ' p3 p4;go_wp2
      ((try simp only[Exit.inBlock,Exit.then]);(try rw[Exit.noGoto_ret]);(first|refine bodyPost_ret (results_none rfl _ _ _) rfl ?_|refine bodyPost_end (results_none rfl _ _ _) rfl ?_));exact⟨_,rfl,.inr HF.out⟩
    ·have hje:j=m.fs.length:=by omega
     subst hje;rw[Cz,List.append_nil] at hxs;have HXE:Ia (J XS C1 wr):=by unfold Ia;rw[hxs];exact HJ1.out
     clear hx1 hJ1 hxs hmin;go_wp2
     ((try simp only[Exit.inBlock,Exit.then]);(try rw[Exit.noGoto_ret]);(first|refine bodyPost_ret (results_none rfl _ _ _) rfl ?_|refine bodyPost_end (results_none rfl _ _ _) rfl ?_));exact⟨_,rfl,.inl ⟨C1,HXE.out⟩⟩
end Go.Proofs.YtjomgckjhcfbgaaGreat
