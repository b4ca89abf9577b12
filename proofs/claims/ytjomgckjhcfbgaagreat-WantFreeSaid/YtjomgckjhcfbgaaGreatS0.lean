/- Walks. -/
import Derived.Test.YtjomgckjhcfbgaaGreatProg
import Derived.WalkKit
import Derived.WalkLawsBesides
import Derived.WalkSpells
import Derived.Lib.Hide
import Derived.Laws.CopyOwn
import Derived.Deep.QuietTactic
import Derived.BigQuiet
import Derived.Maps.AppendAt
import Derived.RangeFuncNested
import Derived.RangeFuncBound
import Derived.RangeFuncCalls
import Derived.RangeFuncLeaves
import Derived.Shelf.Abstract
import Derived.OwnWalkIn
import Derived.TacticsInMore
import Derived.LoopNIn
import Derived.LoopIn
import Derived.Deep.AppendLies
import Derived.Deep.LoopGhost
import Derived.Deep.RegionHeld3
import Derived.Deep.DeepCutAuto
import Derived.RegionTactic
import Derived.Laws.OwnMore
import Derived.Laws.IdiomCopy
import Derived.WalkMore
import Derived.Deep.Slices
import Derived.Carry
import Derived.OrdersHeld
import Derived.Deep.RegionHeldLaw
import Derived.Deep.Quiet
set_option maxRecDepth 100000
set_option maxHeartbeats 64000000
set_option linter.all false
namespace Go.Proofs.YtjomgckjhcfbgaaGreat
open Go.RowKit
open _root_.List renaming getElem?_eq_getElem→GN,getElem?_eq_some_iff→GQ,mem_of_getElem?→GV,take_length→Ha,eq_nil_of_length_eq_zero→Hm,mem_singleton→Hq,length_take→Ht
open _root_.Array renaming getElem?_eq_some_iff→GR
open _root_.Nat renaming lt_of_lt_of_le→Hd,le_refl→He,zero_add→Hf,zero_le→Hg
open _root_.Option renaming some.inj→Hl
open _root_.Int renaming toNat_natCast→Ho
open Go.World renaming size_alloc→Hu
open Go.RowKit.Below renaming refl→Hw,heap_alloc→Hy
open Go renaming World→H5
open Go.RowKit renaming Below→H9,Hid→Ia
open Tryz
theorem iP:(prog.info? 3).map (fun i=>(i.zero,i.size,i.bytes))=some (some (.int .i64 0),1,8):=by kernel_rfl
structure Ext (M:Nat→Prop)(w w':H5):Prop where
 os:w'.os=w.os
 tape:w'.tape=w.tape
 output:w'.output=w.output
 size:w.heap.size≤w'.heap.size
 block:∀k,k<w.heap.size→¬M k→w'.heap[k]?=w.heap[k]?
def aU (w:H5)(base:Nat)(v:Value)(xs:List Int):Prop:=w.ownsRow base 3 1 v xs.length (xs.map (Value.int .i64))
theorem aU.lit1 {w:H5}{base B:Nat}{x:Int}(hB:B=w.heap.size)(h:base≤B):aU (w.alloc (.cells #[.int .i64 x] 3)) base (.slice (some ⟨B,0,none⟩) 1 1) [x]:=by
 subst hB;exact World.ownsRow_lit w #[.int .i64 x] 1 h (by decide) rfl
theorem aU.nil (w:H5)(base:Nat):aU w base (.slice none 0 0) []:=World.ownsRow_nil _ _ _ _
theorem aU.mono {w:H5}{base base':Nat}{v:Value}{xs:List Int}(h:aU w base v xs)(hb:base'≤base):aU w base' v xs:=by
 refine⟨h.1, ?_⟩;rcases h.2 with h|⟨g,cap,cur,h1,h2,h3⟩
 ·exact .inl h
 ·exact .inr ⟨g,cap,cur,h1,by omega,h3⟩
theorem aU.shape {w:H5}{base n cap:Nat}{ao:Option Addr}{xs:List Int}(h:aU w base (.slice ao n cap) xs)(hne:0<xs.length):
  ∃g,ao=some ⟨g,0,none⟩∧base≤g∧g<w.heap.size∧∀(k:Nat)(z:Int),xs[k]?=some z→w.cell? ⟨g,k,none⟩=some (.int .i64 z):=by
 rcases h.2 with⟨h1,h2⟩|⟨g,cap',cur,h1,h2,h3,h4,h5,h6,h7⟩
 ·omega
 ·have hs:ao=some ⟨g,0,none⟩:=by simp only[Value.slice.injEq] at h1;exact h1.1
  refine⟨g,hs,h2,(GR.1 h3).1,fun k z hz=> ?_⟩;rw[cell_of_row w g k cur _ _ h3];have hk:k<xs.length:=(GQ.1 hz).1;have e:(cur.toList.take (xs.length*1))[k]?=some (.int .i64 z):=by rw[h7];simp[hz]
  rw[List.getElem?_take,if_pos (by omega)] at e;simpa using e
theorem aU.app {w:H5}{base:Nat}{v:Value}{xs:List Int}{z:Int}(h:w.ownsRow base 3 1 v (xs.length+1) (xs.map (Value.int .i64)++[.int .i64 z])):aU w base v (xs++[z]):=by
 unfold aU;simpa using h
theorem aU.isSlice {w:H5}{base:Nat}{v:Value}{xs:List Int}(h:aU w base v xs):∃ao cap,v= .slice ao xs.length cap:=by
 rcases h.2 with⟨h1,h2⟩|⟨g,cap,cur,h1,_⟩
 ·exact⟨none,0,by rw[h2];exact h1⟩
 ·exact⟨_,_,h1⟩
theorem aS {α:Type}{xs:List α}{k:Nat}{z:α}(h:xs[k]?=some z):xs.take (k+1)=xs.take k++[z]:=by
 rw[List.take_add_one,h];rfl
structure Ins where
 op:Int
 d:Int
 a:Int
 b:Int
 f:Int
 n:Int
 sign:ByteArray
 argsV:Value
 modeV:Value
 tI:Int
 els:Int
 ln:Int
 cl:Int
 args:List Int
def Ins.cells (i:Ins):Array Value:=#[.int .i64 i.op,.int .i64 i.d,.int .i64 i.a,.int .i64 i.b,.int .i64 i.f,.int .i64 i.n,.string i.sign,i.argsV,i.modeV,.int .i64 i.tI,.int .i64 i.els,.int .i64 i.ln,.int .i64 i.cl]
def iQ (i:Ins)(at_:Int):List Int:=
 if i.op=16 then[i.tI] else if i.op=17 then(if i.tI=i.els then[i.tI] else[i.tI,i.els]) else if i.op=18 then[] else[at_+1]
def iR (w:H5)(xs:List Int)(e:Ending)(w':H5):Prop:=
 ∃ao cap,e= .returned (.slice ao xs.length cap)∧aU w' w.heap.size (.slice ao xs.length cap) xs∧H9 w.heap.size w w'
theorem ownsRow_below {w w':H5}{base:Nat}{e:TypeId}{size:Nat}{v:Value}{n:Nat}{xs:List Value}(h:w.ownsRow base e size v n xs)(hb:H9 w.heap.size w w'):w'.ownsRow base e size v n xs:=by
 refine⟨h.1, ?_⟩;rcases h.2 with h'|⟨g,cap,cur,e1,e2,e3,e4⟩
 ·exact .inl h'
 ·exact .inr ⟨g,cap,cur,e1,e2,(hb.block g (GR.1 e3).1).trans e3,e4⟩
theorem lh (w:H5)(cs:List Value)(t:TypeId):∀j u,cs[j]?=some u→(w.alloc (.cells cs.toArray t)).cell? ((⟨w.heap.size,0,none⟩:Addr).add j)=some u:=by
 intro j u h;rw[Addr.add_lit,Hf,World.cell?_alloc_new];simpa using h
theorem BX {P:Program}(w:H5)(t ty e:TypeId)(i:TypeInfo)(z:Value)(ht:P.underlying t=some (.slice e))(hi:P.info? e=some i)(hz:i.zero=some z)(hzc:z.cells=#[z])(h1:z.oneCell'=true)
  (g off n cap:Nat)(cur:Array Value)(el:TypeId)(hg:w.heap[g]?=some (.cells cur el (0,0)))(hfit:off+n≤cur.size)(hn:0<n):
  (Builtin.clear_ #[t] ty #[.slice (some ⟨g,off,none⟩) n cap]).run P w= .ok (.tuple #[]) (w.setRow g (cur.toList.take off++List.replicate n z++cur.toList.drop (off+n)).toArray):=by
 have hzz:(Builtin.zeroCells #[z] n).toList=List.replicate n z:=by
  apply List.ext_getElem?;intro j
  by_cases hj:j<n
  ·simp[Builtin.zeroCells,hj,Nat.mod_one]
  ·simp[Builtin.zeroCells,hj]
 have hst:=run_storeCells_at P g off el (List.replicate n z) 0 cur w hg (by simpa using hfit) (by intro u hu;rw[List.eq_of_mem_replicate hu];exact h1);simp only[Nat.add_zero,List.length_replicate] at hst;obtain⟨m,rfl⟩:∃m,n=m+1:=⟨n-1,by omega⟩
 simp[Builtin.clear_,run_underlying ht,zeroValue,typeInfo,hi,hz,hzc,hzz,hst]
theorem mQ {P:Program}(w:H5){ops:Array Oper}{rest:List Oper}{o:Oper}{a:Act}{Q:Exit→Act→H5→Prop}(hgd:o.guard=none)(x:Operand)(t e:TypeId)
  (ho:o.op= .call {callee:= .builtin .clear,args:=#[x],argTypes:=#[t]})(i:TypeInfo)(z:Value)(ht:P.underlying t=some (.slice e))(hi:P.info? e=some i)(hz:i.zero=some z)(hzc:z.cells=#[z])(h1:z.oneCell'=true)
  (g off n cap:Nat)(hx:a.eval x= .slice (some ⟨g,off,none⟩) n cap)(cur:Array Value)(el:TypeId)(hg:w.heap[g]?=some (.cells cur el (0,0)))(hfit:off+n≤cur.size)(hn:0<n)
  (h:wpList P ops Q rest (a.put o.dst (.tuple #[])) (w.setRow g (cur.toList.take off++List.replicate n z++cur.toList.drop (off+n)).toArray)):wpList P ops Q (o::rest) a w:=
 wpList_plain hgd fun _ hK=>by
  unfold Oper.wp execOp;simp only[ho,resolve,invoke,builtin,Sem.run_bind,Sem.run_pure,Result.andThen_ok,List.map_toArray,List.map_cons,List.map_nil,hx,BX w t o.type e i z ht hi hz hzc h1 g off n cap cur el hg hfit hn];exact hK _ _ h
theorem iT {P:Program}{w:H5}{ops:Array Oper}{rest:List Oper}{o:Oper}{a:Act}{Q:Exit→Act→H5→Prop}
  (hg:o.guard=none)(l c:Operand)(t:TypeId)(hop:o.op=Op.makeSlice t l c)
  (e:TypeId)(i:TypeInfo)(z:Value)(h1:P.underlying t=some (.slice e))(h2:P.info? e=some i)(h3:i.zero=some z)(h4:i.size=1)(hzc:z.cells=#[z])
  (kl kc:IntKind)(L C:Int)(n:Nat)(hl:a.eval l= .int kl L)(hc:a.eval c= .int kc C)(hL:L=(n:Int))(hC:C=(n:Int))(b2:i.bytes*n≤281474976710656)(b3:n≤maxLen)
  (hK:wpList P ops Q rest (a.put o.dst (.slice (some ⟨w.heap.size,0,none⟩) n n)) (w.alloc (.cells (List.replicate n z).toArray e))):
  wpList P ops Q (o::rest) a w:=by
 refine wpList_plain hg fun K hK'=> ?_;subst hL;subst hC;have h63':(n:Int)≤9223372036854775807:=by
  have h:=b3;simp[maxLen] at h;omega
 have hb':(i.bytes:Int)*(n:Int)≤281474976710656:=by
  have h:((i.bytes*n:Nat):Int)≤281474976710656:=by omega
  rwa [Int.natCast_mul] at h
 have hr:=run_make (P:=P) w t e i z h1 h2 h3 kl kc n n (by omega) (Int.le_refl _) hb' h63';simp only[Ho,h4,hzc,Nat.mul_one] at hr;have hm:madeCells #[z] n=(List.replicate n z).toArray:=by
  rw[←toList_madeCells_one]
 rw[hm] at hr;unfold Oper.wp;simp[execOp,hop,hl,hc,hr,Result.andThen];exact hK' _ _ (by simpa using hK)
theorem iU {P:Program}(w:H5)(ad:Addr)(ty:TypeId)(cs:Array Value)(d:TypeDesc)(hcells:∀j u,cs.toList[j]?=some u→w.cell? (ad.add j)=some u)
  (hu:P.underlying ty=some d)(hd:(match d with| .struct _| .array _ _=>true|_=>false)=true)(hi:(P.info? ty).map (·.size)=some cs.size):
  (loadVar ty ad).run P w= .ok (.agg cs) w:=by
 have hl:(loadCells ad cs.toList.length).run P w= .ok cs.toList.toArray w:=run_loadCells_list (P:=P) w ad cs.toList hcells;cases hq:P.info? ty with
 |none=>simp[hq] at hi
 |some i=>
  have hs:i.size=cs.size:=by simpa[hq] using hi
  have hagg:(isAgg ty).run P w= .ok true w:=by
   unfold isAgg;rw[Sem.run_bind,run_underlying hu w];cases d<;>simp_all
  simp only[Array.length_toList,Array.toArray_toList] at hl;simp[loadVar,Sem.run_bind,hagg,sizeOf,typeInfo,hq,hs,hl]
theorem ay {P:Program}{ops:Array Oper}{rest:List Oper}{o:Oper}{a:Act}{w:H5}{Q:Exit→Act→H5→Prop}(hgd:o.guard=none)(ty:TypeId)(x:Operand)(ho:o.op= .load ty x)
  (ad:Addr)(hx:a.eval x= .pointer (some ad))(cs:Array Value)(d:TypeDesc)(hcells:∀j u,cs.toList[j]?=some u→w.cell? (ad.add j)=some u)
  (hu:P.underlying ty=some d)(hd:(match d with| .struct _| .array _ _=>true|_=>false)=true)(hi:(P.info? ty).map (·.size)=some cs.size)
  (h:wpList P ops Q rest (a.put o.dst (.agg cs)) w):wpList P ops Q (o::rest) a w:=
 wpList_plain hgd fun _ hK=>by
  unfold Oper.wp execOp;simp only[ho,hx,Instr.loadAt,Instr.sureAddr,Sem.run_bind,Sem.run_pure,Result.andThen_ok,iU w ad ty cs d hcells hu hd hi];exact hK _ _ h
def dM (w:H5)(B:Nat)(ao:Option Addr)(ins:List Ins):Prop:=
 ins≠[]→∃b off,ao=some ⟨b,off,none⟩∧b<B∧∀i x,ins[i]?=some x→∀k u,x.cells.toList[k]?=some u→w.cell? ⟨b,off+i*13+k,none⟩=some u
theorem dM.below {w w':H5}{B n:Nat}{ao:Option Addr}{ins:List Ins}(h:dM w B ao ins)(hb:H9 n w w')(hn:B≤n):dM w' B ao ins:=by
 intro hne;obtain⟨b,off,h1,h2,h3⟩:=h hne;exact⟨b,off,h1,h2,fun i x hx k u hu=>by rw[hb.cell (p:=⟨b,_,none⟩) (Hd h2 hn)];exact h3 i x hx k u hu⟩
theorem dM.mono {w:H5}{B B':Nat}{ao:Option Addr}{ins:List Ins}(h:dM w B ao ins)(hn:B≤B'):dM w B' ao ins:=by
 intro hne;obtain⟨b,off,h1,h2,h3⟩:=h hne;exact⟨b,off,h1,by omega,h3⟩
structure dQ where
 nm:ByteArray
 par:Int
 varsA:Option Addr
 nvars:Nat
 varsC:Nat
 rp:Bool
 rto:ByteArray
 rcl:Int
 fromA:Option Addr
 nfrom:Nat
 fromC:Nat
 insA:Option Addr
 insC:Nat
 ins:List Ins
def dQ.cells (c:dQ):Array Value:=#[.string c.nm,.int .i64 c.par,.slice c.varsA c.nvars c.varsC,.bool c.rp,.string c.rto,.int .i64 c.rcl,.slice c.fromA c.nfrom c.fromC,.slice c.insA c.ins.length c.insC]
def eQ (n:Nat)(x:Int):Bool:=decide (0≤x∧x<n)
def dw (ins:List Ins)(at_:Nat):List Nat:=
 match ins[at_]? with
 |none=>[]
 |some i=>((iQ i at_).filter (eQ ins.length)).map Int.toNat
theorem ql (n:Nat)(l:List Int):((l.filter (eQ n)).map Int.toNat).map (fun x:Nat=>(x:Int))=l.filter (eQ n):=by
 rw[List.map_map]
 conv=>rhs;rw[←List.map_id (l.filter (eQ n))]
 refine List.map_congr_left fun x hx=> ?_;have:=(List.mem_filter.1 hx).2;simp[eQ] at this;simp;omega
theorem zH {p:Prop}(h:p):Ia p:=h
theorem zE {α:Sort _}(a:α):∃b,a=b:=⟨a,rfl⟩
theorem zR {W:H5}{b:Nat}{cs:Array Value}{ty:TypeId}{sh:Nat×Nat}(hr:W.heap[b]?=some (.cells cs ty sh))(k:Nat)(v:Value)(h:cs[k]?=some v:=by rfl):W.cell? ⟨b,k,none⟩=some v:=by
 rw[cell_of_row _ _ _ _ _ _ hr];exact h
theorem gZ {N:Nat}{w W:H5}{o:Obj}(h:w.alloc o=W)(hN:w.heap.size=N):H9 N w W:=by
 rw[←h,←hN];exact(Hw _ _).alloc (He _) _
theorem uG {N:Nat}{w W:H5}{o q:Obj}(h:(w.alloc o).alloc q=W)(hN:w.heap.size=N):H9 N w W:=by
 rw[←h,←hN];exact((Hw _ _).alloc (He _) _).alloc (by simp) _
theorem gK {w W:H5}{o:Obj}(h:w.alloc o=W):H9 w.heap.size w W:=gZ h rfl
theorem EA {w W:H5}{o q:Obj}(h:(w.alloc o).alloc q=W):H9 w.heap.size w W:=uG h rfl
theorem zD {w w2 W:H5}{o:Obj}(h:w2.alloc o=W)(hb:Ia (H9 w.heap.size w w2)):H9 w.heap.size w W:=by
 rw[←h];exact hb.out.alloc hb.out.size _
theorem xV {w W:H5}{N:Nat}{o q:Obj}(h:(w.alloc o).alloc q=W)(hN:w.heap.size=N):W.heap[N]?=some o:=by
 rw[←h,←hN];exact heap_alloc2_old _ _ _
theorem zV {w W:H5}{N:Nat}{o q:Obj}(h:(w.alloc o).alloc q=W)(hN:w.heap.size=N):W.heap[N+1]?=some q:=by
 rw[←h,←hN];exact heap_alloc2_new _ _ _
abbrev zP (f:FuncId)(vs:Array Value)(w:H5)(v:Value):Prop:=Calls prog f vs w fun e w'=>e= .returned v∧H9 w.heap.size w w'
abbrev zS (f:FuncId)(vs:Array Value)(w:H5)(v:Value):Prop:=Calls prog f vs w fun e w'=>e= .returned v∧w=w'
theorem zU {α:Type _}{l:List α}{n:Nat}(h:l.length=n+1):∃a t,l=a::t∧t.length=n:=by
 obtain⟨a,t,e⟩:=List.exists_cons_of_length_eq_add_one h;exact⟨a,t,e,by subst e;simpa using h⟩
section ext
variable {M M':Nat→Prop}{w w' w'':H5}
theorem Ext.refl (M:Nat→Prop)(w:H5):Ext M w w:=⟨rfl,rfl,rfl,He _,fun _ _ _=>rfl⟩
theorem Ext.mono (h:Ext M w w')(hm:∀k,M k→M' k):Ext M' w w':=⟨h.os,h.tape,h.output,h.size,fun k hk hn=>h.block k hk (fun e=>hn (hm k e))⟩
theorem Ext.trans (h:Ext M w w')(k:Ext M' w' w'')(hm:∀j,M' j→M j∨w.heap.size≤j):Ext M w w'':=
 ⟨k.os.trans h.os,k.tape.trans h.tape,k.output.trans h.output,Nat.le_trans h.size k.size,fun j hj hn=>(k.block j (Hd hj h.size) (fun e=>by rcases hm j e with e|e;exact hn e;omega)).trans (h.block j hj hn)⟩
theorem Ext.drew (h:Ext M w w'):Ext M w w'.drew:=⟨h.os,h.tape,h.output,h.size,h.block⟩
theorem Ext.alloc (h:Ext M w w')(o:Obj):Ext M w (w'.alloc o):=⟨h.os,h.tape,h.output,by rw[Hu];exact Nat.le_succ_of_le h.size,fun k hk hn=>(Hy w' o k (Hd hk h.size)).trans (h.block k hk hn)⟩
theorem Ext.setCell (h:Ext M w w'){a:Addr}(ha:M a.block∨w.heap.size≤a.block)(v:Value):Ext M w (w'.setCell a v):=
 ⟨h.os,h.tape,h.output,by rw[World.size_setCell];exact h.size,fun k hk hn=>(Below.heap_setCell w' a v k (fun e=>by subst e;rcases ha with ha|ha;exact hn ha;omega)).trans (h.block k hk hn)⟩
theorem Ext.set1 (w:H5)(b o:Nat)(v:Value):Ext (·=b) w (w.setCell ⟨b,o,none⟩ v):=(Ext.refl (·=b) w).setCell (a:=⟨b,o,none⟩) (.inl rfl) v
theorem Ext.putObj (w:H5)(l:Nat)(o:Obj):Ext (·=l) w (w.putObj l o):=⟨rfl,rfl,rfl,by simp,fun _ _ hn=>World.putObj_heap_other hn⟩
theorem Ext.of_below {B:Nat}(h:H9 B w w'):Ext (B≤·) w w':=⟨h.os,h.tape,h.output,h.size,fun k _ hn=>h.block k (by omega)⟩
theorem Ext.of_below_size (h:H9 w.heap.size w w'):Ext M w w':=⟨h.os,h.tape,h.output,h.size,fun k hk _=>h.block k hk⟩
theorem Ext.below {B:Nat}(h:Ext M w w')(hB:B≤w.heap.size)(hm:∀k,M k→B≤k):H9 B w w':=⟨h.os,h.tape,h.output,h.size,fun k hk=>h.block k (by omega) (fun e=>by have:=hm k e;omega)⟩
theorem Ext.of_grown {row:Option Nat}(h:w.grownBy w' row)(hr:∀k,row=some k→M k∨w.heap.size≤k):Ext M w w':=⟨h.os,h.tape,h.output,h.size,fun k hk hn=>h.block k hk (fun e=>by rcases hr k e.symm with e|e;exact hn e;omega)⟩
theorem Ext.cell (h:Ext M w w'){a:Addr}(hk:a.block<w.heap.size)(hn:¬M a.block):w'.cell? a=w.cell? a:=World.cell?_of_block (w:=w) (h.block a.block hk hn)
theorem Ext.heap (h:Ext M w w'){k:Nat}{o:Obj}(hk:w.heap[k]?=some o)(hn:¬M k):w'.heap[k]?=some o:=(h.block k (GR.1 hk).1 hn).trans hk
end ext
def mark (b:Nat):Deferred:={target:= .collected b,args:=#[]}
def bodyPostC (P:Program)(fn:Func)(R:Ending→H5→Prop):Exit→Act→H5→Prop
 | .normal,a,w| .ret,a,w=>∃bs:List Nat,a.defers=bs.map mark∧bs.Nodup∧(∀b∈bs,w.heap[b]?=some (.deferred (some [])))∧
   ∃v,∀w',Ext (·∈bs) w w'→(results fn a.tmps).run P w'= .ok v w'∧R (.returned v) w'
 |_,_,_=>False
theorem jT {P:Program}{fn:Func}{n:Nat}{tmps:Array Value}{R:Ending→H5→Prop}{v:Value}:∀(bs:List Nat)(w:H5),bs.Nodup→(∀b∈bs,w.heap[b]?=some (.deferred (some [])))→
  (∀w',Ext (·∈bs) w w'→(results fn tmps).run P w'= .ok v w'∧R (.returned v) w')→LeavesInM Fence.wide n P fn tmps R (bs.map mark) .returning w
 |[],w,_,_,h=>⟨v,h w (Ext.refl _ _)⟩
 |b::bs,w,hd,hb,h=>by
  refine⟨by simp,.inl ⟨b,_,rfl,run_takeDeferred (hb b (by simp)), ?_⟩⟩;have hn:b∉bs:=(List.nodup_cons.1 hd).1;refine jT bs _ (List.nodup_cons.1 hd).2 (fun b' hb'=> ?_) (fun w' hw'=>h w' ?_)
  ·rw[World.putObj_heap_other (fun e:b'=b=>hn (by rw[←e];exact hb'))];exact hb b' (by simp[hb'])
  ·exact((Ext.putObj w b _).mono (by simp)).trans hw' (fun j hj=> .inl (by simp[hj]))
theorem mR {P:Program}{f:FuncId}{fn:Func}{c:Code}{args:Array Value}{w:H5}{R:Ending→H5→Prop}(hf:P.funcs[f]?=some fn)(hb:fn.body=some c)
  (h:c.wp P (bodyPostC P fn R) {tmps:=args++Array.replicate (fn.ntmps-args.size) undef,defers:=[]} w):Calls P f args w R:=by
 refine(callsIn_wide (n:=0)).1 (callsIn_of_wp_marks hf hb trivial (wpIn_wide.2 (wp_mono h ?_)));intro e a w hq;cases e with
 |normal=>obtain⟨bs,h1,h2,h3,v,h4⟩:=hq;show LeavesInM _ _ _ _ _ _ a.defers _ _;rw[h1];exact jT bs w h2 h3 h4
 |ret=>obtain⟨bs,h1,h2,h3,v,h4⟩:=hq;show LeavesInM _ _ _ _ _ _ a.defers _ _;rw[h1];exact jT bs w h2 h3 h4
 |panic _=>exact hq.elim
 |exit _=>exact hq.elim
 |goto _=>exact hq.elim
 |outgrown=>exact hq.elim
def Dk (P:Program)(fv:Value)(args:Array Value)(W:H5)(R:Value→H5→Prop):Prop:=
 ∀(r:Option Nat)(n:Nat)(o:Oper)(f:Operand)(ys:Array Operand)(ts:Array TypeId)(a:Act)(K:Act→H5→Prop)(Q:Exit→Act→H5→Prop),
  o.op= .call {callee:= .value f,args:=ys,argTypes:=ts}→a.eval f=fv→ys.map a.eval=args→(∀v w',R v w'→K (a.put o.dst v) w')→o.wpIn {Fence.wide with round:=r} n P a W K Q
theorem Ab {r:Option Nat}{o:Oper}{c:Call}(ρ:Operand→Value)(ho:o.op= .call c):o.semAt r ρ=execOp ρ o:=Oper.semAt_eq r ρ o (fun c' h=>by rw[ho] at h;cases h)
theorem qm {P:Program}{l m:Nat}{args:Array Value}{W:H5}{R:Value→H5→Prop}(h:YieldAt Fence.wide m P l args W fun e w'=>∃v,e= .returned v∧R v w'):Dk P (.func (.yield l) #[] #[]) args W R:=by
 intro r n o f ys ts a K Q ho hfv hy hK;obtain⟨fn,tmps,assign,body,hyl,_,hR⟩:=h;refine⟨fun _ _=>trivial, ?_⟩;rw[Ab _ ho];unfold execOp;simp only[ho,resolve,hfv,hy];have e:(invoke (Target.fn (.yield l) #[]) (#[]++args)).run P W= .ok (.round l fn tmps assign body) W:=by simp[invoke,hyl]
 simp only[Deferred.ofValue,Sem.run_bind,Sem.run_pure,Result.andThen_ok,e];refine⟨fun h=>by simp[Fence.wide] at h,trivial,fun c cs _=> ?_⟩;obtain⟨e',w',⟨v,rfl,hv⟩,hs⟩:=hR c cs (room_wide _);exact⟨.returned v,w',hK v w' hv,hs⟩
theorem iV {P:Program}{n:Nat}{ops:Array Oper}{rest:List Oper}{o:Oper}{a:Act}{w:H5}{Q:Exit→Act→H5→Prop}{r:Option Nat}(hgd:o.guard=none)(f:Operand)(ys:Array Operand)(ts:Array TypeId)
  (ho:o.op= .call {callee:= .value f,args:=ys,argTypes:=ts}){fv:Value}{args:Array Value}{R:Value→H5→Prop}(hf:a.eval f=fv)(hy:ys.map a.eval=args)(hm:Dk P fv args w R)
  (h:∀v w',R v w'→wpListIn {Fence.wide with round:=r} n P ops Q rest (a.put o.dst v) w'):wpListIn {Fence.wide with round:=r} n P ops Q (o::rest) a w:=
 wpListIn_plain hgd fun _ hK=>hm r n o f ys ts a _ Q ho hf hy fun v w' hv=>hK _ _ (h v w' hv)
theorem aR {P:Program}{n:Nat}{ops:Array Oper}{rest:List Oper}{o:Oper}{a:Act}{w w':H5}{Q:Exit→Act→H5→Prop}{r:Option Nat}(hgd:o.guard=none)(hd:∀c,o.op≠ .defer c)(v:Value)
  (hrun:(execOp a.eval o).run P w= .ok (.value v) w')(h:wpListIn {Fence.wide with round:=r} n P ops Q rest (a.put o.dst v) w'):wpListIn {Fence.wide with round:=r} n P ops Q (o::rest) a w:=
 wpListIn_plain hgd fun _ hK=>by
  refine⟨fun _ _=>trivial, ?_⟩;rw[Oper.semAt_eq _ _ _ hd,hrun];exact hK _ _ h
def Iter (P:Program)(gf:Nat)(lb:Array Value){α:Type}(encs:α→Array Value)(xs:List α)(Rd:Nat→Prop)(w:H5):Prop:=
 ∀(l:Nat)(J:List α→(Nat→Prop)→H5→Prop)(Jx:List α→H5→Prop)(C:Nat→Prop)(W:H5),H9 w.heap.size w W→
  (∀pre C W1 W2,J pre C W1→Ext (fun k=>W.heap.size≤k∧¬C k) W1 W2→J pre C W2)→
  (∀pre C W1,J pre C W1→∀k,C k→k<W1.heap.size∧¬Rd k)→
  (∀pre W1 W2,Jx pre W1→Ext (fun _=>False) W1 W2→Jx pre W2)→
  (∀pre x C W1,J pre C W1→(pre++[x])<+:xs→Dk P (.func (.yield l) #[] #[]) (encs x) W1 fun v W2=>
   (v= .bool true∧∃C':Nat→Prop,(∀k,C' k→C k∨W1.heap.size≤k)∧J (pre++[x]) C' W2∧Ext C W1 W2)∨(v= .bool false∧Jx (pre++[x]) W2))→
  J [] C W→
  Calls P gf (#[.func (.yield l) #[] #[]]++lb) W fun e W'=>∃v,e= .returned v∧((∃C',J xs C' W')∨(∃pre,pre<+:xs∧Jx pre W'))
def EB {α:Type}(I:List α→(Nat→Prop)→H5→Prop)(Ix:Code→List α→(Nat→Prop)→H5→Prop)(C:Nat→Prop)(W:H5)(pre:List α):Exit→Act→H5→Prop
 | .normal,_,W'=>∃C':Nat→Prop,(∀k,C' k→C k∨W.heap.size≤k)∧I pre C' W'∧Ext C W W'
 | .ret,_,W'=>∃C':Nat→Prop,(∀k,C' k→C k∨W.heap.size≤k)∧Ix .ret pre C' W'∧Ext C W W'
 | .exit id,_,W'=>∃C':Nat→Prop,(∀k,C' k→C k∨W.heap.size≤k)∧Ix (.exit id) pre C' W'∧Ext C W W'
 | .goto t,_,W'=>∃C':Nat→Prop,(∀k,C' k→C k∨W.heap.size≤k)∧Ix (.goto t) pre C' W'∧Ext C W W'
 |_,_,_=>False
theorem om {P:Program}{α:Type}{g:Operand}{ps:Array Tmp}{assign body:Code}{Q:Exit→Act→H5→Prop}{a:Act}{w:H5}{gf:Nat}{lb:Array Value}{fn:Func}{fb:Code}
  (hg:a.eval g= .func (.func gf) #[] lb)(hf:P.funcs[gf]?=some fn)(hname:(fn.name=="runtime.NumGoroutine")=false)(hb:fn.body=some fb)
  {encs:α→Array Value}{xs:List α}{Rd:Nat→Prop}{w0:H5}(hit:Iter P gf lb encs xs Rd w0)(hb0:H9 w0.heap.size w0 w)(hRd:∀k,Rd k→k<w.heap.size)(hps:∀x,(encs x).size=ps.size)
  (I:List α→(Nat→Prop)→H5→Prop)(Ix:Code→List α→(Nat→Prop)→H5→Prop)
  (hI:∀pre C W W',I pre C W→Ext (fun k=>w.heap.size≤k∧¬C k) W W'→I pre C W')
  (hIC:∀pre C W,I pre C W→∀k,C k→k<W.heap.size∧¬Rd k)
  (hIx:∀c pre C W W',Ix c pre C W→Ext (fun k=>w.heap.size≤k∧¬C k) W W'→Ix c pre C W')
  (C0:Nat→Prop)(h0:I [] C0 w)
  (hround:∀(l:Nat)(pre:List α)(x:α)(C:Nat→Prop)(W:H5),w.heap.size≤l→I pre C W→(pre++[x])<+:xs→
   assign.wpIn (Fence.wide.inRound l) 0 P (Exit.then (fun a₁ W₁=>∃C₁:Nat→Prop,(∀k,C₁ k→C k∨W.heap.size≤k)∧I pre C₁ W₁∧Ext C W W₁∧
    ∀W₂,I pre C₁ W₂→Ext (·=l) W₁ W₂→body.wpIn (Fence.wide.inRound l) 0 P (EB I Ix C₁ W₂ (pre++[x])) a₁ W₂) (fun _ _ _=>False))
    {tmps:=(ps.zip (encs x)).foldl (fun t (p,v)=>t.setIfInBounds p v) a.tmps,defers:=[]} W)
  (hdone:∀(D:Nat)(C:Nat→Prop)(W:H5),w.heap.size≤D→¬C D→I xs C W→W.heap[D]?=some (.deferred (some []))→Q .normal {a with defers:=mark D::a.defers} W)
  (hstop:∀(D:Nat)(c:Code)(pre:List α)(C:Nat→Prop)(W:H5),w.heap.size≤D→¬C D→pre<+:xs→Ix c pre C W→W.heap[D]?=some (.deferred (some []))→c.wp P Q {a with defers:=mark D::a.defers} W):
  (Code.rangeFunc g ps assign body).wp P Q a w:=by
 have eg:∀args w,(callFunc gf args).run P w= .ok (.enter gf args) w:=enters_of hf hname hb;refine(wpIn_wide (n:=0)).1 (wpIn_rangeFunc ?_);intro fnid _;obtain⟨rec,hrec⟩:∃rec:LoopState→Option Code→Loop,rec=fun st pe=>{state:=st,pending:=pe,fn:=fnid,tmps:=a.tmps,params:=ps,assign,body,defers:=w.heap.size}:=⟨_,rfl⟩
 obtain⟨W1,hW1⟩:=zE ((w.alloc (.deferred (some []))).alloc (.loop (rec .ready none)));obtain⟨D,hD⟩:=zE w.heap.size;obtain⟨l,hl⟩:=zE (w.heap.size+1);have hs1:W1.heap.size=w.heap.size+2:=by rw[←hW1];simp
 have hL1:W1.heap[l]?=some (.loop (rec .ready none)):=by
  rw[←hW1,←hl];have:=World.alloc_heap_new (w.alloc (.deferred (some []))) (.loop (rec .ready none));rwa [Hu] at this
 have hK1:W1.heap[D]?=some (.deferred (some [])):=by
  rw[←hW1,←hD];exact(Hy _ _ _ (by simp)).trans (World.alloc_heap_new w _)
 have hx1:Ext (fun _=>False) w W1:=by rw[←hW1];exact((Ext.refl _ w).alloc _).alloc _
 have hI1:I [] C0 W1:=hI _ _ _ _ h0 (hx1.mono (fun _ h=>h.elim));have hb1:H9 w0.heap.size w0 W1:=hb0.trans ((hx1.below (He _) (fun _ h=>h.elim)).mono hb0.size);refine⟨l,[mark D],W1,{target:= .fn (.func gf) lb,args:=#[.func (.yield l) #[] #[]]},W1,gf,#[.func (.yield l) #[] #[]]++lb,W1, ?_, ?_,fun _ _=>trivial, ?_,fun h=>by simp[Fence.wide] at h, ?_⟩
 ·rw[←hW1,hrec,←hl,←hD];exact run_enterLoop_outer _ _ _ _ _
 ·simp only[resolve,hg]
  simp[go_sem]
 ·simp[invoke,go_sem,eg]
 have hIn:=hit l
  (fun pre C W=>∃CI:Nat→Prop,(∀k,C k↔CI k∨k=l∨k=D)∧¬CI l∧¬CI D∧I pre CI W∧W.heap[l]?=some (.loop (rec .ready none))∧W.heap[D]?=some (.deferred (some [])))
  (fun pre W=>∃(CI:Nat→Prop) (c:Code),¬CI l∧¬CI D∧Ix c pre CI W∧W.heap[l]?=some (.loop (rec .done (some c)))∧W.heap[D]?=some (.deferred (some [])))
  (fun k=>C0 k∨k=l∨k=D) W1 hb1 ?hst ?hC ?hstx ?hY ⟨C0,fun _=>Iff.rfl,fun h=>by have:=(hIC _ _ _ h0 l h).1;omega,fun h=>by have:=(hIC _ _ _ h0 D h).1;omega,hI1,hL1,hK1⟩
 case hst=>
  rintro pre C X Y ⟨CI,hc,n1,n2,hi,h1,h2⟩ hx;refine⟨CI,hc,n1,n2,hI _ _ _ _ hi (hx.mono fun k hk=>⟨by omega,fun h=>hk.2 ((hc k).2 (.inl h))⟩),hx.heap h1 (fun h=>h.2 ((hc l).2 (by simp))),hx.heap h2 (fun h=>h.2 ((hc D).2 (by simp)))⟩
 case hC=>
  rintro pre C X ⟨CI,hc,n1,n2,hi,h1,h2⟩ k hk;rcases(hc k).1 hk with h|rfl|rfl
  ·exact hIC _ _ _ hi k h
  ·exact⟨(GR.1 h1).1,fun h=>by have:=hRd _ h;omega⟩
  ·exact⟨(GR.1 h2).1,fun h=>by have:=hRd _ h;omega⟩
 case hstx=>
  rintro pre X Y ⟨CI,c,n1,n2,hi,h1,h2⟩ hx;exact⟨CI,c,n1,n2,hIx _ _ _ _ _ hi (hx.mono fun _ h=>h.elim),hx.heap h1 (fun h=>h),hx.heap h2 (fun h=>h)⟩
 case hY=>
  rintro pre x C W ⟨CI,hc,n1,n2,hi,hlp,hdp⟩ hpre;have hlt:l<W.heap.size:=(GR.1 hlp).1;have hltD:D<W.heap.size:=(GR.1 hdp).1;have hy:=run_yield (P:=P) (args:=encs x) hlp (by rw[hrec];exact hps x);rw[hrec] at hy;refine qm (m:=0) ⟨fnid,_,assign,body,hy,roundIn_of_wpIn trivial (wpIn_mono (hround l pre x CI W (by omega) hi hpre) ?_)⟩;intro e a₁ W₁ hq;cases e with
  |normal=>
   obtain⟨C₁,hc1,hi1,hx1',hbody⟩:=hq;have hl1:=hx1'.heap hlp n1;have hd1:=hx1'.heap hdp n2;have m1:¬C₁ l:=fun h=>by rcases hc1 l h with h|h;exact n1 h;omega
   have m2:¬C₁ D:=fun h=>by rcases hc1 D h with h|h;exact n2 h;omega
   refine⟨_,run_beginRound hl1 (by rw[hrec]), ?_⟩;obtain⟨W₂,hW₂⟩:∃W₂,W₁.putObj l (.loop {rec .ready none with state:= .busy})=W₂:=⟨_,rfl⟩
   rw[hW₂];have hxp:Ext (·=l) W₁ W₂:=by rw[←hW₂];exact Ext.putObj _ _ _
   have hl2:W₂.heap[l]?=some (.loop {rec .ready none with state:= .busy}):=by rw[←hW₂];exact World.putObj_heap_same (GR.1 hl1).1
   have hd2:W₂.heap[D]?=some (.deferred (some [])):=hxp.heap hd1 (by omega);have hi2:I pre C₁ W₂:=hI _ _ _ _ hi1 (hxp.mono fun k hk=>by subst hk;exact⟨by omega,m1⟩);refine wpIn_mono (hbody W₂ hi2 hxp) ?_;have hCx:Ext C W W₁:=hx1'.mono fun k h=>(hc k).2 (.inl h);have fin:∀(jump:Option Code)(C':Nat→Prop)(W₃:H5),(∀k,C' k→C₁ k∨W₂.heap.size≤k)→Ext C₁ W₂ W₃→
     (Instr.endRound l jump).run P W₃= .ok (.bool jump.isNone) (W₃.putObj l (.loop (rec (if jump.isNone then .ready else .done) jump)))∧
     (W₃.putObj l (.loop (rec (if jump.isNone then .ready else .done) jump))).heap[l]?=some (.loop (rec (if jump.isNone then .ready else .done) jump))∧
     (W₃.putObj l (.loop (rec (if jump.isNone then .ready else .done) jump))).heap[D]?=some (.deferred (some []))∧¬C' l∧¬C' D∧Ext C W (W₃.putObj l (.loop (rec (if jump.isNone then .ready else .done) jump)))∧
     Ext (fun k=>w.heap.size≤k∧¬C' k) W₃ (W₃.putObj l (.loop (rec (if jump.isNone then .ready else .done) jump)))∧(∀k,C' k→CI k∨W.heap.size≤k):=by
    intro jump C' W₃ hc3 hx3;have hl3:=hx3.heap hl2 m1;have hd3:=hx3.heap hd2 m2;have hr:=run_endRound (P:=P) jump hl3;rw[hrec] at hr⊢;have q1:¬C' l:=fun h=>by rcases hc3 l h with h|h;exact m1 h;have:=hxp.size;have:=hx1'.size;omega
    have q2:¬C' D:=fun h=>by rcases hc3 D h with h|h;exact m2 h;have:=hxp.size;have:=hx1'.size;omega
    refine⟨hr,World.putObj_heap_same (GR.1 hl3).1,(World.putObj_heap_other (by omega)).trans hd3,q1,q2, ?_,(Ext.putObj _ _ _).mono (fun k hk=>by subst hk;exact⟨by omega,q1⟩), ?_⟩
    ·refine((hCx.trans hxp (fun j hj=> .inl ((hc j).2 (by simp[hj])))).trans hx3 (fun j hj=> ?_)).trans (Ext.putObj _ _ _) (fun j hj=> .inl ((hc j).2 (by simp[hj])))
     rcases hc1 j hj with h|h
     ·exact .inl ((hc j).2 (.inl h))
     ·exact .inr h
    ·intro k hk
     rcases hc3 k hk with h|h
     ·exact hc1 k h
     ·right;have:=hxp.size;have:=hx1'.size;omega
   intro e a3 W3 hp;cases e with
   |normal=>
    obtain⟨C',hc3,hi3,hx3⟩:=hp;obtain⟨hr,hl4,hd4,q1,q2,hx4,hx5,hcc⟩:=fin none C' W3 hc3 hx3;refine⟨_,_,hr,_,rfl,.inl ⟨rfl,fun k=>C' k∨k=l∨k=D,fun k hk=> ?_,⟨C',fun _=>Iff.rfl,q1,q2,hI _ _ _ _ hi3 hx5,hl4,hd4⟩,hx4⟩⟩;rcases hk with h|h|h
    ·rcases hcc k h with h|h
     ·exact .inl ((hc k).2 (.inl h))
     ·exact .inr h
    ·exact .inl ((hc k).2 (by simp[h]))
    ·exact .inl ((hc k).2 (by simp[h]))
   |ret=>
    obtain⟨C',hc3,hi3,hx3⟩:=hp;obtain⟨hr,hl4,hd4,q1,q2,hx4,hx5,hcc⟩:=fin (some .ret) C' W3 hc3 hx3;exact⟨_,_,hr,_,rfl,.inr ⟨rfl,C',.ret,q1,q2,hIx _ _ _ _ _ hi3 hx5,hl4,hd4⟩⟩
   |exit id=>
    obtain⟨C',hc3,hi3,hx3⟩:=hp;obtain⟨hr,hl4,hd4,q1,q2,hx4,hx5,hcc⟩:=fin (some (.exit id)) C' W3 hc3 hx3;exact⟨_,_,hr,_,rfl,.inr ⟨rfl,C',.exit id,q1,q2,hIx _ _ _ _ _ hi3 hx5,hl4,hd4⟩⟩
   |goto t=>
    obtain⟨C',hc3,hi3,hx3⟩:=hp;obtain⟨hr,hl4,hd4,q1,q2,hx4,hx5,hcc⟩:=fin (some (.goto t)) C' W3 hc3 hx3;exact⟨_,_,hr,_,rfl,.inr ⟨rfl,C',.goto t,q1,q2,hIx _ _ _ _ _ hi3 hx5,hl4,hd4⟩⟩
   |panic ch=>exact hp.elim
   |outgrown=>exact hp.elim
  |exit _=>exact hq.elim
  |goto _=>exact hq.elim
  |ret=>exact hq.elim
  |panic _=>exact hq.elim
  |outgrown=>exact hq.elim
 refine CallsIn.mono ((callsIn_wide (n:=0-1)).2 hIn) ?_;rintro e W2 ⟨v,rfl,(⟨C',CI,hc,n1,n2,hi,hlp,hdp⟩|⟨pre,hpre,CI,c,n1,n2,hi,hlp,hdp⟩)⟩
 ·have hr:=run_endLoop (P:=P) hlp (by rw[hrec];simp)
  rw[hrec] at hr;refine⟨none,_,hr,hdone D CI _ (by omega) n2 (hI _ _ _ _ hi ((Ext.putObj _ _ _).mono fun k hk=>by subst hk;exact⟨by omega,n1⟩)) ((World.putObj_heap_other (by omega)).trans hdp)⟩
 ·have hr:=run_endLoop (P:=P) hlp (by rw[hrec];simp)
  rw[hrec] at hr;refine⟨some c,_,hr,wpIn_wide.2 (hstop D c pre CI _ (by omega) n2 hpre (hIx _ _ _ _ _ hi ((Ext.putObj _ _ _).mono fun k hk=>by subst hk;exact⟨by omega,n1⟩)) ((World.putObj_heap_other (by omega)).trans hdp))⟩
theorem bytes_inj {x y:ByteArray}(h:x.data.toList=y.data.toList):x=y:=by
 obtain⟨a⟩:=x;obtain⟨b⟩:=y;have:a=b:=Array.ext' h;rw[this]
instance Fv:LawfulBEq ByteArray where
 eq_of_beq {a b} h:=bytes_inj (by have:a.data=b.data:=eq_of_beq (show(a.data==b.data)=true from h);rw[this])
 rfl {a}:=show(a.data==a.data)=true from BEq.rfl
theorem FI {x y:ByteArray}(h:x≠y):Lit.string x.data.toList≠Lit.string y.data.toList:=fun e=>h (bytes_inj (by simpa using e))
def ints (xs:List Nat):List Int:=xs.map (fun x:Nat=>(x:Int))
theorem dM.ext {w w':H5}{B:Nat}{ao:Option Addr}{ins:List Ins}{M:Nat→Prop}(h:dM w B ao ins)(hx:Ext M w w')(hB:B≤w.heap.size)(hM:∀a,ins≠[]→ao=some a→¬M a.block):dM w' B ao ins:=by
 intro hne;obtain⟨b,off,h1,h2,h3⟩:=h hne;exact⟨b,off,h1,h2,fun i x hi k u hu=>by rw[hx.cell (a:=⟨b,off+i*13+k,none⟩) (by show b<_;omega) (show¬M b from hM _ hne h1)];exact h3 i x hi k u hu⟩
theorem qo {ins:List Ins}{x y:Nat}(h:y∈dw ins x):y<ins.length:=by
 unfold dw at h
 split at h
 ·simp at h
 ·simp only[List.mem_map,List.mem_filter,eQ,decide_eq_true_eq] at h
  obtain⟨z,⟨_,hz⟩,rfl⟩:=h;omega
theorem jU (ins:List Ins)(x:Nat):(dw ins x).length≤2:=by
 unfold dw
 split
 ·simp
 ·rename_i i _
  have h:(iQ i x).length≤2:=by
   unfold iQ
   repeat' split
   all_goals simp
  simp only[List.length_map];exact Nat.le_trans (List.length_filter_le _ _) h
theorem Ac {ins:List Ins}{x:Nat}{xi:Ins}(h:ins[x]?=some xi):ints (dw ins x)=(iQ xi x).filter (eQ ins.length):=by
 unfold dw;rw[h];exact ql _ _
theorem alloc_at (w:H5)(o:Obj):(w.alloc o).heap[w.heap.size]?=some o:=World.alloc_heap_new w o
theorem Dl {α:Type}(l:List α)(p:α→Bool){q:Nat}{x:α}(h:l[q]?=some x):(l.take (q+1)).any p=((l.take q).any p||p x):=by
 rw[List.take_add_one,h,List.any_append];simp
def aG {α:Type}(cells:α→Array Value)(stride:Nat)(w:H5)(B:Nat)(ao:Option Addr)(xs:List α):Prop:=
 xs≠[]→∃b off,ao=some ⟨b,off,none⟩∧b<B∧∀i x,xs[i]?=some x→∀k u,(cells x).toList[k]?=some u→w.cell? ⟨b,off+i*stride+k,none⟩=some u
theorem aG.below {α:Type}{cells:α→Array Value}{stride:Nat}{w w':H5}{B n:Nat}{ao:Option Addr}{xs:List α}(h:aG cells stride w B ao xs)(hb:H9 n w w')(hn:B≤n):aG cells stride w' B ao xs:=by
 intro hne;obtain⟨b,off,h1,h2,h3⟩:=h hne;exact⟨b,off,h1,h2,fun i x hx k u hu=>by rw[hb.cell (p:=⟨b,_,none⟩) (Hd h2 hn)];exact h3 i x hx k u hu⟩
structure Dm where
 nm:ByteArray
 fA:Option Addr
 nf:Nat
 fC:Nat
 ln:Int
 cl:Int
def Dm.cells (s:Dm):Array Value:=#[.string s.nm,.slice s.fA s.nf s.fC,.int .i64 s.ln,.int .i64 s.cl]
def Dm.light (s:Dm):Prop:=s.nf≤40∧s.nm.size≤60
def Ins.ok (i:Ins):Prop:=(∃ao cap,i.argsV= .slice ao i.args.length cap)∧∃ao n cap,i.modeV= .slice ao n cap
def Ins.light (i:Ins):Prop:=i.args.length≤40∧(∃ao n cap,i.modeV= .slice ao n cap∧n≤40)∧i.sign.size≤20
def dQ.light (c:dQ):Prop:=c.ins.length≤400∧c.nvars≤400∧c.nm.size≤60∧c.nfrom≤40∧∀x∈c.ins,x.light
def dI:List dQ→Nat
 |[]=>0
 |c::r=>c.ins.length+c.nvars+dI r
theorem qp (a b:List dQ):dI (a++b)=dI a+dI b:=by
 induction a with
 |nil=>simp[dI]
 |cons x r ih=>simp[dI,ih];omega
def Ad (ss:List Dm)(cs:List dQ):Prop:=ss.length≤40∧cs.length≤70∧(∀s∈ss,s.light)∧(∀c∈cs,c.light)∧dI cs≤1200
def qw (w:H5)(B:Nat)(p:Prop)(e:Ending)(w':H5):Prop:=∃b:Bool,e= .returned (.bool b)∧(b=true→p)∧H9 B w w'
theorem dx {α:Type}{p:α→Prop}{xs:List α}{j:Nat}{x:α}(h:∀y∈xs.take j,p y)(hx:xs[j]?=some x)(hp:p x):∀y∈xs.take (j+1),p y:=by
 rw[aS hx];intro y hy;rcases List.mem_append.1 hy with h1|h1
 ·exact h y h1
 ·simp at h1;subst h1;exact hp
theorem vL (w:H5)(sA fA:Option Addr)(sC fC:Nat)(ss:List Dm)(cs:List dQ)(hss:aG Dm.cells 4 w w.heap.size sA ss)(hcs:aG dQ.cells 8 w w.heap.size fA cs)
  (hin:∀c∈cs,dM w w.heap.size c.insA c.ins)(hok:∀c∈cs,∀x∈c.ins,x.ok)(hs:ss.length≤9223372036854775807)(hc:cs.length≤9223372036854775807):
  Calls prog 70 #[.agg #[.slice sA ss.length sC,.slice fA cs.length fC]] w (qw w w.heap.size (Ad ss cs)):=by
 have HSS:=zH hss;have HCS:=zH hcs;have HIN:=zH hin;have HOK:=zH hok;clear hss hcs hin hok
 by_cases g1:40<ss.length
 ·go_enter func70,ntmps70
  go_wp2;go_ret;exact⟨_,rfl,by simp,(Hw _ _).alloc (He _) _⟩
 by_cases g2:70<cs.length
 ·go_enter func70,ntmps70
  go_wp2;go_ret;exact⟨_,rfl,by simp,(Hw _ _).alloc (He _) _⟩
 go_enter func70,ntmps70;go_wp2;obtain⟨N,hN⟩:=zE w.heap.size;obtain⟨W0,hW0⟩:=zE (w.alloc (.cells #[.slice sA ss.length sC,.slice fA cs.length fC] 25));have hb0:=gZ hW0 hN;have hrow:W0.heap[N]?=some (.cells #[.slice sA ss.length sC,.slice fA cs.length fC] 25 (0,0)):=by rw[←hW0,←hN];exact alloc_at _ _
 have hsz:W0.heap.size=N+1:=by rw[←hW0];simp[hN]
 have hk0:=zR hrow 0 (.slice sA ss.length sC);have hk1:=zR hrow 1 (.slice fA cs.length fC);have HS2:Ia (aG Dm.cells 4 W0 N sA ss):=by have:=HSS.out;rw[hN] at this;exact this.below hb0 (He _)
 have HC2:Ia (aG dQ.cells 8 W0 N fA cs):=by have:=HCS.out;rw[hN] at this;exact this.below hb0 (He _)
 have HI2:Ia (∀c∈cs,dM W0 N c.insA c.ins):=fun c hc=>by have:=HIN.out c hc;rw[hN] at this;exact dM.below this hb0 (He _)
 rw[hW0,hN];have HB0:=zH hb0;have hNlt:N<W0.heap.size:=by omega
 clear hW0 hb0 hrow HSS HCS HIN hsz
 go_loop [4] (fun c=>∃j:Nat,j≤ss.length∧c= .int .i64 (j:Int)∧∀s∈ss.take j,s.light) (fun c=>ss.length-(intOf c).toNat)
 case atStart=>exact⟨0,Hg _,rfl,by simp⟩
 case round=>
  obtain⟨j,hj,rfl,hall⟩:=hrel;have HALL:=zH hall;clear hall
  by_cases hjl:j<ss.length
  ·obtain⟨s,hs1⟩:∃s,ss[j]?=some s:=⟨_,GN hjl⟩
   obtain⟨b,off,rfl,hb1,hcell⟩:=HS2.out (by intro e;rw[e] at hjl;simp at hjl);have q0:W0.cell? ⟨b,off+j*4,none⟩=some (.string s.nm):=hcell j s hs1 0 _ rfl;have q1:W0.cell? ⟨b,off+j*4+1,none⟩=some (.slice s.fA s.nf s.fC):=hcell j s hs1 1 _ rfl;have HS1:=zH hs1;clear hs1 hcell
   by_cases c1:40<s.nf
   ·go_wp2
    go_ret;exact⟨_,rfl,by simp,HB0.out⟩
   ·by_cases c2:60<s.nm.size
    ·go_wp2
     go_ret;exact⟨_,rfl,by simp,HB0.out⟩
    ·go_wp2
     go_round
     case rel=>exact⟨j+1,by omega,by go_num,dx HALL.out HS1.out ⟨by omega,by omega⟩⟩
     case measure=>simp[intOf];omega
  ·have hje:j=ss.length:=by omega
   subst hje;have HSL:Ia (∀s∈ss,s.light):=by have:=HALL.out;rwa [Ha] at this
   go_wp2
   go_loopw [3,5] (fun n c wr=>∃j:Nat,j≤cs.length∧c= .int .i64 (j:Int)∧n= .int .i64 ((dI (cs.take j):Nat):Int)∧dI (cs.take j)≤1200∧(∀x∈cs.take j,x.light)∧H9 (N+1) W0 wr) (fun _ c _=>cs.length-(intOf c).toNat)
   case atStart=>exact⟨0,Hg _,rfl,rfl,by simp[dI],by simp,Hw _ _⟩
   case round=>
    obtain⟨j,hj,rfl,rfl,ht,hall,hbw⟩:=hrel;have HALL2:=zH hall;have HBW:=zH hbw;have hk1r:wr.cell? ⟨N,1,none⟩=some (.slice fA cs.length fC):=by rw[hbw.cell (p:=⟨N,1,none⟩) (by simp)];exact hk1
    clear hall hbw
    by_cases hjl:j<cs.length
    ·obtain⟨c,hc1⟩:∃c,cs[j]?=some c:=⟨_,GN hjl⟩
     obtain⟨b,off,rfl,hb1,hcell⟩:=HC2.out (by intro e;rw[e] at hjl;simp at hjl);have hcw:∀k u,c.cells.toList[k]?=some u→wr.cell? ⟨b,off+j*8+k,none⟩=some u:=fun k u hu=>by rw[HBW.out.cell (p:=⟨b,_,none⟩) (Nat.lt_succ_of_lt hb1)];exact hcell j c hc1 k u hu
     have q0:wr.cell? ⟨b,off+j*8,none⟩=some (.string c.nm):=hcw 0 _ rfl;have q1:wr.cell? ⟨b,off+j*8+1,none⟩=some (.int .i64 c.par):=hcw 1 _ rfl;have q2:wr.cell? ⟨b,off+j*8+2,none⟩=some (.slice c.varsA c.nvars c.varsC):=hcw 2 _ rfl;have q3:wr.cell? ⟨b,off+j*8+3,none⟩=some (.bool c.rp):=hcw 3 _ rfl;have q4:wr.cell? ⟨b,off+j*8+4,none⟩=some (.string c.rto):=hcw 4 _ rfl;have q5:wr.cell? ⟨b,off+j*8+5,none⟩=some (.int .i64 c.rcl):=hcw 5 _ rfl;have q6:wr.cell? ⟨b,off+j*8+6,none⟩=some (.slice c.fromA c.nfrom c.fromC):=hcw 6 _ rfl;have q7:wr.cell? ⟨b,off+j*8+7,none⟩=some (.slice c.insA c.ins.length c.insC):=hcw 7 _ rfl;have HC1:=zH hc1;clear hc1 hcell hcw;have hbA:∀o:Obj,H9 N w (wr.alloc o):=fun o=>(HB0.out.trans (HBW.out.mono (by omega))).alloc (by have:=HBW.out.size;omega) _;have hwN:N+1≤wr.heap.size:=by have:=HBW.out.size;omega
     by_cases c1:400<c.ins.length
     ·go_wp2
      go_ret;exact⟨_,rfl,by simp,hbA _⟩
     by_cases c2:400<c.nvars
     ·go_wp2
      go_ret;exact⟨_,rfl,by simp,hbA _⟩
     by_cases c3:60<c.nm.size
     ·go_wp2
      go_ret;exact⟨_,rfl,by simp,hbA _⟩
     by_cases c4:40<c.nfrom
     ·go_wp2
      go_ret;exact⟨_,rfl,by simp,hbA _⟩
     have HTT:Ia (dI (cs.take (j+1))=dI (cs.take j)+(c.ins.length+c.nvars)):=by
      unfold Ia;rw[aS HC1.out,qp];simp[dI]
     obtain⟨T,hT⟩:∃T,T=dI (cs.take j):=⟨_,rfl⟩
     rw[←hT] at ht HTT⊢;clear hT
     by_cases c5:1200<T+c.ins.length+c.nvars
     ·go_wp2
      go_ret;exact⟨_,rfl,by simp,hbA _⟩
     go_wp2;obtain⟨W2,hW2⟩:=zE (wr.alloc (.cells c.cells 38));obtain⟨M,hM⟩:=zE wr.heap.size;have hrow2:W2.heap[M]?=some (.cells c.cells 38 (0,0)):=by rw[←hW2,←hM];exact alloc_at _ _
     have hk7:=zR hrow2 7 (.slice c.insA c.ins.length c.insC);have HB2:Ia (H9 (N+1) W0 W2):=by rw[←hW2];exact HBW.out.alloc hwN _
     have HI3:Ia (dM W2 N c.insA c.ins):=dM.below (HI2.out c (GV HC1.out)) HB2.out (by omega);have HOKC:Ia (∀x∈c.ins,x.ok):=HOK.out c (GV HC1.out);have HW2:=zH hW2;simp only[dQ.cells] at hW2;rw[hW2,hM];clear hW2 hrow2 hM q0 q1 q2 q3 q4 q5 q6 q7
     go_loop [7] (fun k=>∃q:Nat,q≤c.ins.length∧k= .int .i64 (q:Int)∧∀x∈c.ins.take q,x.light) (fun k=>c.ins.length-(intOf k).toNat)
     case atStart=>exact⟨0,Hg _,rfl,by simp⟩
     case round=>
      obtain⟨q,hq,rfl,hall⟩:=hrel;have HALL3:=zH hall;clear hall
      by_cases hql:q<c.ins.length
      ·obtain⟨x,hx1⟩:∃x,c.ins[q]?=some x:=⟨_,GN hql⟩
       obtain⟨b2,off2,hA2,hb2,hcell⟩:=HI3.out (by intro e;rw[e] at hql;simp at hql);obtain⟨⟨aoa,capa,hav⟩,aom,nm,capm,hmv⟩:=HOKC.out x (GV hx1);have r7:W2.cell? ⟨b2,off2+q*13+7,none⟩=some (.slice aoa x.args.length capa):=hcell q x hx1 7 _ (by rw[←hav];rfl);have r8:W2.cell? ⟨b2,off2+q*13+8,none⟩=some (.slice aom nm capm):=hcell q x hx1 8 _ (by rw[←hmv];rfl);have r6:W2.cell? ⟨b2,off2+q*13+6,none⟩=some (.string x.sign):=hcell q x hx1 6 _ rfl;rw[hA2] at hk7;have HX1:=zH hx1;have HMV:=zH hmv;clear hx1 hcell hA2 hav hmv
       by_cases d1:40<x.args.length
       ·go_wp2
        go_ret;exact⟨_,rfl,by simp,HB0.out.trans (HB2.out.mono (by omega))⟩
       by_cases d2:40<nm
       ·go_wp2
        go_ret;exact⟨_,rfl,by simp,HB0.out.trans (HB2.out.mono (by omega))⟩
       by_cases d3:20<x.sign.size
       ·go_wp2
        go_ret;exact⟨_,rfl,by simp,HB0.out.trans (HB2.out.mono (by omega))⟩
       go_wp2
       go_round
       case rel=>exact⟨q+1,by omega,by go_num,dx HALL3.out HX1.out ⟨by omega,⟨_,_,_,HMV.out,by omega⟩,by omega⟩⟩
       case measure=>simp[intOf];omega
      ·have hqe:q=c.ins.length:=by omega
       subst hqe;have HCL:Ia c.light:=by
        refine⟨by omega,by omega,by omega,by omega, ?_⟩;have:=HALL3.out;rwa [Ha] at this
       go_wp2;go_roundw
       case rel=>exact⟨j+1,by omega,by go_num,by rw[HTT.out];go_num,by rw[HTT.out];omega,dx HALL2.out HC1.out HCL.out,HB2.out⟩
       case measure=>simp[intOf];omega
    ·have hje:j=cs.length:=by omega
     subst hje;have HM:Ia (Ad ss cs):=by
      refine⟨by omega,by omega,HSL.out, ?_, ?_⟩
      ·have:=HALL2.out;rwa [Ha] at this
      ·rwa [Ha] at ht
     go_wp2;go_ret;have hh:H9 N w wr:=HB0.out.trans (HBW.out.mono (by omega));exact⟨_,rfl,fun _=>HM.out,by first|exact hh|(rw[hN];exact hh)⟩
section
open Go.RowKit Go.ChangeShapes Go.WideShapes Go.Deep
theorem kG {α:Type}(p:Nat→α→Prop):∀n,(∀i,i<n→∃a,p i a)→∃xs:List α,xs.length=n∧∀i x,xs[i]?=some x→p i x
 |0,_=>⟨[],rfl,fun i x h=>by simp at h⟩
 |n+1,h=>by
  obtain⟨xs,hl,hx⟩:=kG p n (fun i hi=>h i (by omega));obtain⟨a,ha⟩:=h n (by omega);refine⟨xs++[a],by simp[hl],fun i x hi=> ?_⟩;rcases Nat.lt_or_ge i n with hlt|hge
  ·rw[List.getElem?_append_left (by omega)] at hi;exact hx i x hi
  ·have hin:i<(xs++[a]).length:=(GQ.1 hi).1
   simp[hl] at hin;obtain rfl:i=n:=by omega
   rw[List.getElem?_append_right (by omega),hl] at hi;simp at hi;subst hi;exact ha
theorem vM {w:H5}{a:Addr}{v:Value}(h:w.cell? a=some v):a=⟨a.block,a.off,none⟩∧a.block<w.heap.size:=by
 unfold World.cell? at h
 split at h
 ·rename_i hg
  have hlt:=(GR.1 hg).1;obtain⟨b,o,s⟩:=a;cases s with
  |none=>exact⟨rfl,hlt⟩
  |some s=>simp at h
 ·simp at h
section
variable {H:Type}{enc:TypeId×Value→H}{P:Program}{w:H5}{base:Nat}{spare:Nat→Bool}{held:Bool}
theorem open_row {α:Type}(cells:α→Array Value)(Q:α→Prop){t e:TypeId}{fuel:Nat}{cs:List Value}{x:DataW H×List MemPlace}(stride:Nat)(hst:0<stride)(ht:P.underlying t=some (.slice e))(hc:P.cellsOf e=stride)
  (leaf:∀(n:Nat)(cs:List Value)(x:DataW H×List MemPlace),DataW.trod enc P w base spare held n e cs=some x→∃a:α,(cells a).toList=cs∧Q a)
  (h:DataW.trod enc P w base spare held fuel t cs=some x):
  ∃(ao:Option Addr) (xs:List α) (cap:Nat),cs=[.slice ao xs.length cap]∧xs.length≤maxLen∧aG cells stride w w.heap.size ao xs∧∀a∈xs,Q a:=by
 rcases open_slice ht h with⟨rfl,_⟩|⟨a,len,cap,m,n,D,Pl,rfl,hb,hl,hm,hmm,hx,hi⟩
 ·exact⟨none,[],0,rfl,Hg _,fun hne=>absurd rfl hne,fun a ha=>absurd ha (by simp)⟩
 ·have hlm:len≤m:=by rw[hmm];split<;>omega
  obtain⟨xs,hxl,hxp⟩:=kG (fun i (x:α)=>Q x∧∀k u,(cells x).toList[k]?=some u→w.cell? (a.add (i*stride+k))=some u) len (by
   intro i hil;obtain⟨cs',hcs,htr⟩:=hi i (by omega);obtain⟨x,hx1,hx2⟩:=leaf n cs' _ htr;obtain⟨_,hcl,hat⟩:=World.cells?_some hcs;rw[hc] at hcl hat;refine⟨x,hx2,fun k u hk=> ?_⟩;have hk':k<stride:=by rw[←hcl,←hx1];exact(GQ.1 hk).1
   have:=hat k hk';rw[←Go.Deep.add_add,this,←hx1];exact hk)
  refine⟨some a,xs,cap,by rw[hxl],by omega,fun hne=> ?_,fun x hx=> ?_⟩
  ·have hpos:0<xs.length:=List.length_pos_iff.2 hne
   obtain⟨cs',hcs,htr⟩:=hi 0 (by omega);obtain⟨_,hcl,hat⟩:=World.cells?_some hcs;rw[hc] at hcl hat;have h0:=hat 0 hst;rw[GN (by omega),Nat.zero_mul] at h0;obtain⟨ha,hlt⟩:=vM h0;have ha2:a=⟨a.block,a.off,none⟩:=by
    obtain⟨b,o,s⟩:=a;simp[Addr.add] at ha⊢;exact ha
   refine⟨a.block,a.off,by rw[←ha2],by simpa[Addr.add] using hlt,fun i x hix k u hu=> ?_⟩;have:=(hxp i x hix).2 k u hu;rw[ha2,Addr.add_lit,←Nat.add_assoc] at this;exact this
  ·obtain⟨i,hix⟩:=List.mem_iff_getElem?.1 hx
   exact(hxp i x hix).1
end
theorem FJ {H:Type}{enc:TypeId×Value→H}{P:Program}{w:H5}{base:Nat}{spare:Nat→Bool}{held:Bool}{r:Reach}{b0:Nat}{t:TypeId}{fs:Array Field}{v:Value}{d:DataW H}{p:List MemPlace}(hs:P.underlying t=some (.struct fs))
  (hv:Value.okWide P w r b0 t v)(h:DataW.Trod enc P w base spare held t v d p):∃(cs:Array Value) (fuel:Nat),v= .agg cs∧DataW.trod enc P w base spare held fuel t cs.toList=some (d,p):=by
 obtain⟨cs,rfl,_⟩:=okWide_struct hs hv;obtain⟨fuel,hf⟩:=h;exact⟨cs,fuel,rfl,by simpa[Value.cells] using hf⟩
section
variable {H:Type}{enc:TypeId×Value→H}{w:H5}{base:Nat}{spare:Nat→Bool}{held:Bool}
def dY (w:H5)(ao:Option Addr)(xs:List Int):Prop:=aG (fun z:Int=>#[.int .i64 z]) 1 w w.heap.size ao xs
theorem jm {fuel:Nat}{cs:List Value}{x:DataW H×List MemPlace}(h:DataW.trod enc prog w base spare held fuel 35 cs=some x):
  ∃(ao:Option Addr) (xs:List Int) (cap:Nat),cs=[.slice ao xs.length cap]∧xs.length≤maxLen∧dY w ao xs∧∀z∈xs,(Lit.int .i64 z).wf=true:=by
 refine open_row _ (fun z=>(Lit.int .i64 z).wf=true) 1 (by decide) underlying35 (by kernel_rfl) (fun n cs x hx=> ?_) h;obtain⟨z,rfl,_,hw⟩:=DataW.trod_int underlying3 hx;exact⟨z,rfl,hw⟩
def Ins.args_in (w:H5)(i:Ins):Prop:=i.ok∧∃ao cap,i.argsV= .slice ao i.args.length cap∧dY w ao i.args
theorem Dn {n:Nat}{cs:List Value}{x:DataW H×List MemPlace}(h:DataW.trod enc prog w base spare held n 42 cs=some x):∃i:Ins,i.cells.toList=cs∧i.args_in w:=by
 obtain⟨xs,m,_,_,hlen,hxl,hf⟩:=DataW.trod_struct underlying42 h;have hc:prog.cellsOf 42=13:=by kernel_rfl
 have hxl':xs.length=12:=hxl;rw[hc] at hlen;obtain⟨c0,cs1,e0,hl1⟩:=zU hlen;obtain⟨c1,cs2,e1,hl2⟩:=zU hl1;obtain⟨c2,cs3,e2,hl3⟩:=zU hl2;obtain⟨c3,cs4,e3,hl4⟩:=zU hl3;obtain⟨c4,cs5,e4,hl5⟩:=zU hl4;obtain⟨c5,cs6,e5,hl6⟩:=zU hl5;obtain⟨c6,cs7,e6,hl7⟩:=zU hl6;obtain⟨c7,cs8,e7,hl8⟩:=zU hl7;obtain⟨c8,cs9,e8,hl9⟩:=zU hl8;obtain⟨c9,cs10,e9,hl10⟩:=zU hl9;obtain⟨c10,cs11,e10,hl11⟩:=zU hl10;obtain⟨c11,cs12,e11,hl12⟩:=zU hl11;obtain⟨c12,cs13,e12,hl13⟩:=zU hl12;obtain rfl:=Hm hl13;subst e12 e11 e10 e9 e8 e7 e6 e5 e4 e3 e2 e1 e0;have g0:=(hf 0 _ rfl).trans (GN (show 0<xs.length by omega));obtain⟨op,r0,_,_⟩:=DataW.trod_int underlying3 g0;obtain rfl:c0= .int .i64 op:=by simpa[show prog.cellsOf 3=1 from by kernel_rfl] using r0
 have g1:=(hf 1 _ rfl).trans (GN (show 1<xs.length by omega));obtain⟨d,r1,_,_⟩:=DataW.trod_int underlying3 g1;obtain rfl:c1= .int .i64 d:=by simpa[show prog.cellsOf 3=1 from by kernel_rfl] using r1
 have g2:=(hf 2 _ rfl).trans (GN (show 2<xs.length by omega));obtain⟨a,r2,_,_⟩:=DataW.trod_int underlying3 g2;obtain rfl:c2= .int .i64 a:=by simpa[show prog.cellsOf 3=1 from by kernel_rfl] using r2
 have g3:=(hf 3 _ rfl).trans (GN (show 3<xs.length by omega));obtain⟨b,r3,_,_⟩:=DataW.trod_int underlying3 g3;obtain rfl:c3= .int .i64 b:=by simpa[show prog.cellsOf 3=1 from by kernel_rfl] using r3
 have g4:=(hf 4 _ rfl).trans (GN (show 4<xs.length by omega));obtain⟨f,r4,_,_⟩:=DataW.trod_int underlying3 g4;obtain rfl:c4= .int .i64 f:=by simpa[show prog.cellsOf 3=1 from by kernel_rfl] using r4
 have g5:=(hf 5 _ rfl).trans (GN (show 5<xs.length by omega));obtain⟨n,r5,_,_⟩:=DataW.trod_int underlying2 g5;obtain rfl:c5= .int .i64 n:=by simpa[show prog.cellsOf 2=1 from by kernel_rfl] using r5
 have g6:=(hf 6 _ rfl).trans (GN (show 6<xs.length by omega));obtain⟨sign,r6,_,_⟩:=DataW.trod_string underlying9 g6;obtain rfl:c6= .string sign:=by simpa[show prog.cellsOf 9=1 from by kernel_rfl] using r6
 have g7:=(hf 7 _ rfl).trans (GN (show 7<xs.length by omega));obtain⟨argsVA,argsVL,argsVC,r7,_,argsVR,_⟩:=jm g7;obtain rfl:c7= .slice argsVA argsVL.length argsVC:=by simpa[show prog.cellsOf 35=1 from by kernel_rfl] using r7
 have g8:=(hf 8 _ rfl).trans (GN (show 8<xs.length by omega));obtain⟨modeVA,modeVL,modeVC,r8,_,modeVR,_⟩:=jm g8;obtain rfl:c8= .slice modeVA modeVL.length modeVC:=by simpa[show prog.cellsOf 35=1 from by kernel_rfl] using r8
 have g9:=(hf 9 _ rfl).trans (GN (show 9<xs.length by omega));obtain⟨tgt,r9,_,_⟩:=DataW.trod_int underlying3 g9;obtain rfl:c9= .int .i64 tgt:=by simpa[show prog.cellsOf 3=1 from by kernel_rfl] using r9
 have g10:=(hf 10 _ rfl).trans (GN (show 10<xs.length by omega));obtain⟨els,r10,_,_⟩:=DataW.trod_int underlying3 g10;obtain rfl:c10= .int .i64 els:=by simpa[show prog.cellsOf 3=1 from by kernel_rfl] using r10
 have g11:=(hf 11 _ rfl).trans (GN (show 11<xs.length by omega));obtain⟨ys,m',_,_,_,hyl,hf'⟩:=DataW.trod_struct underlying40 g11;have hyl':ys.length=2:=hyl;have p0:=(hf' 0 _ rfl).trans (GN (show 0<ys.length by omega));have p1:=(hf' 1 _ rfl).trans (GN (show 1<ys.length by omega));obtain⟨ln,s0,_,_⟩:=DataW.trod_int underlying3 p0;obtain⟨cl,s1,_,_⟩:=DataW.trod_int underlying3 p1;obtain rfl:c11= .int .i64 ln:=by simpa[show prog.cellsOf 3=1 from by kernel_rfl,show prog.cellsOf 40=2 from by kernel_rfl] using s0
 obtain rfl:c12= .int .i64 cl:=by simpa[show prog.cellsOf 3=1 from by kernel_rfl,show prog.cellsOf 40=2 from by kernel_rfl] using s1
 exact⟨⟨op,d,a,b,f,n,sign,.slice argsVA argsVL.length argsVC,.slice modeVA modeVL.length modeVC,tgt,els,ln,cl,argsVL⟩,rfl,⟨⟨_,_,rfl⟩,_,_,_,rfl⟩,_,_,rfl,argsVR⟩
structure Vr where
 ptr:Bool
 tgt:ByteArray
 cls:Int
def Vr.cells (v:Vr):Array Value:=#[.bool v.ptr,.string v.tgt,.int .i64 v.cls]
theorem BB {n:Nat}{cs:List Value}{x:DataW H×List MemPlace}(h:DataW.trod enc prog w base spare held n 34 cs=some x):∃v:Vr,v.cells.toList=cs∧True:=by
 obtain⟨xs,m,_,_,hlen,hxl,hf⟩:=DataW.trod_struct underlying34 h;have hc:prog.cellsOf 34=3:=by kernel_rfl
 have hxl':xs.length=2:=hxl;rw[hc] at hlen;obtain⟨c0,cs1,e0,hl1⟩:=zU hlen;obtain⟨c1,cs2,e1,hl2⟩:=zU hl1;obtain⟨c2,cs3,e2,hl3⟩:=zU hl2;obtain rfl:=Hm hl3;subst e2 e1 e0;have g0:=(hf 0 _ rfl).trans (GN (show 0<xs.length by omega));have g1:=(hf 1 _ rfl).trans (GN (show 1<xs.length by omega));obtain⟨ys,m',_,_,_,hyl,hf'⟩:=DataW.trod_struct underlying32 g0;have hyl':ys.length=2:=hyl;have p0:=(hf' 0 _ rfl).trans (GN (show 0<ys.length by omega));have p1:=(hf' 1 _ rfl).trans (GN (show 1<ys.length by omega));obtain⟨rp,s0,_⟩:=DataW.trod_bool underlying4 p0;obtain⟨rto,s1,_,_⟩:=DataW.trod_string underlying9 p1;obtain⟨rcl,s2,_,_⟩:=DataW.trod_int underlying3 g1;have z1:prog.cellsOf 4=1:=by kernel_rfl
 have z2:prog.cellsOf 9=1:=by kernel_rfl
 have z3:prog.cellsOf 3=1:=by kernel_rfl
 have z4:prog.cellsOf 32=2:=by kernel_rfl
 obtain rfl:c0= .bool rp:=by simpa[z1,z4] using s0
 obtain rfl:c1= .string rto:=by simpa[z2,z4] using s1
 obtain rfl:c2= .int .i64 rcl:=by simpa[z3] using s2
 exact⟨⟨rp,rto,rcl⟩,rfl,trivial⟩
structure dQ.inn (w:H5)(c:dQ):Prop where
 row:dM w w.heap.size c.insA c.ins
 args:∀x∈c.ins,x.args_in w
 len:c.ins.length≤maxLen
 vars:∃vs:List Vr,vs.length=c.nvars∧aG Vr.cells 3 w w.heap.size c.varsA vs
 nvars:c.nvars≤maxLen
 nfrom:c.nfrom≤maxLen
 froms:∃fs:List Int,fs.length=c.nfrom∧dY w c.fromA fs
end
theorem Ins.args_in.below {w w':H5}{i:Ins}(h:i.args_in w)(hb:H9 w.heap.size w w'):i.args_in w':=by
 obtain⟨h1,ao,cap,h2,h3⟩:=h;refine⟨h1,ao,cap,h2,fun hne=> ?_⟩;obtain⟨b,off,e1,e2,e3⟩:=aG.below h3 hb (He _) hne;exact⟨b,off,e1,Hd e2 hb.size,e3⟩
theorem aG.grow {α:Type}{cells:α→Array Value}{stride:Nat}{w w':H5}{ao:Option Addr}{xs:List α}(h:aG cells stride w w.heap.size ao xs)(hb:H9 w.heap.size w w'):aG cells stride w' w'.heap.size ao xs:=by
 intro hne;obtain⟨b,off,e1,e2,e3⟩:=h.below hb (He _) hne;exact⟨b,off,e1,Hd e2 hb.size,e3⟩
theorem dQ.inn.below {w w':H5}{c:dQ}(h:c.inn w)(hb:H9 w.heap.size w w'):c.inn w':=
 ⟨aG.grow (cells:=Ins.cells) h.row hb,fun x hx=>(h.args x hx).below hb,h.len,let ⟨vs,a,b⟩:=h.vars;⟨vs,a,b.grow hb⟩,h.nvars,h.nfrom,let ⟨fs,a,b⟩:=h.froms;⟨fs,a,aG.grow b hb⟩⟩
end
abbrev Ty:=Bool×ByteArray
def bF:Ty:=(false,ByteArray.empty)
structure Fd where
 nm:ByteArray
 ptr:Bool
 tgt:ByteArray
 ln:Int
 cl:Int
def Fd.cells (f:Fd):Array Value:=#[.string f.nm,.bool f.ptr,.string f.tgt,.int .i64 f.ln,.int .i64 f.cl]
def Fd.ty (f:Fd):Ty:=(f.ptr,f.tgt)
def Vr.ty (v:Vr):Ty:=(v.ptr,v.tgt)
structure St where
 s:Dm
 fs:List Fd
def St.cells (s:St):Array Value:=s.s.cells
structure Fn where
 c:dQ
 vs:List Vr
 frm:List Int
 mds:List (List Int)
def Fn.cells (f:Fn):Array Value:=f.c.cells
def Fn.ret (f:Fn):Ty:=(f.c.rp,f.c.rto)
structure Mo where
 sA:Option Addr
 sC:Nat
 fA:Option Addr
 fC:Nat
 ss:List St
 fs:List Fn
def Mo.cells (m:Mo):Array Value:=#[.slice m.sA m.ss.length m.sC,.slice m.fA m.fs.length m.fC]
structure Fn.inn (w:H5)(f:Fn):Prop where
 code:f.c.inn w
 nm:f.c.nm.size≤maxLen
 nvars:f.c.nvars=f.vs.length
 vars:aG Vr.cells 3 w w.heap.size f.c.varsA f.vs
 nfrom:f.c.nfrom=f.frm.length
 frm:dY w f.c.fromA f.frm
 nmds:f.mds.length=f.c.ins.length
 mds:∀(k:Nat)(i:Ins)(l:List Int),f.c.ins[k]?=some i→f.mds[k]?=some l→∃ao cap,i.modeV= .slice ao l.length cap∧dY w ao l
structure St.inn (w:H5)(s:St):Prop where
 nf:s.s.nf=s.fs.length
 row:aG Fd.cells 5 w w.heap.size s.s.fA s.fs
 len:s.fs.length≤maxLen
 nm:s.s.nm.size≤maxLen
 fnm:∀f∈s.fs,f.nm.size≤maxLen
structure Mo.inn (w:H5)(m:Mo):Prop where
 srow:aG St.cells 4 w w.heap.size m.sA m.ss
 frow:aG Fn.cells 8 w w.heap.size m.fA m.fs
 sin:∀s∈m.ss,s.inn w
 fin:∀f∈m.fs,f.inn w
 ns:m.ss.length≤maxLen
 nf:m.fs.length≤maxLen
theorem Fn.inn.below {w w':H5}{f:Fn}(h:f.inn w)(hb:H9 w.heap.size w w'):f.inn w':=
 ⟨h.code.below hb,h.nm,h.nvars,h.vars.grow hb,h.nfrom,aG.grow h.frm hb,h.nmds,fun k i l h1 h2=>by
  obtain⟨ao,cap,e1,e2⟩:=h.mds k i l h1 h2;exact⟨ao,cap,e1,aG.grow e2 hb⟩⟩
theorem St.inn.below {w w':H5}{s:St}(h:s.inn w)(hb:H9 w.heap.size w w'):s.inn w':=⟨h.nf,h.row.grow hb,h.len,h.nm,h.fnm⟩
theorem Mo.inn.below {w w':H5}{m:Mo}(h:m.inn w)(hb:H9 w.heap.size w w'):m.inn w':=
 ⟨h.srow.grow hb,h.frow.grow hb,fun s hs=>(h.sin s hs).below hb,fun f hf=>(h.fin f hf).below hb,h.ns,h.nf⟩
section
variable {P:Program}{ops:Array Oper}{Q:Exit→Act→H5→Prop}{md:Region.Mode}{S:H5→Prop}{k:Nat}
inductive iW (md:Region.Mode) (ops:Array Oper) (k:Nat) (listed:Array Bool):Nat→Prop
 |last {i:Nat} {o:Oper} {e:Edge}:listed[i]?=some false→ops[k]?=some o→e∈o.after→Region.binds md e=true→e.on=i→iW md ops k listed i
 |step {i j:Nat} {o:Oper} {e:Edge}:listed[i]?=some false→ops[j]?=some o→e∈o.after→Region.binds md e=true→e.on=i→iW md ops k listed j→iW md ops k listed i
theorem iW.un {listed:Array Bool}{i:Nat}(h:iW md ops k listed i):listed[i]?=some false:=by cases h<;>assumption
theorem ll {listed:Array Bool}{i j:Nat}{o:Oper}{e:Edge}(hu:listed[i]?=some false)(ho:ops[j]?=some o)(he:e∈o.after)(hb:Region.binds md e=true)(hi:e.on=i):j∉Region.ready md ops listed:=by
 intro hj;obtain⟨_,oj,hoj,hall⟩:=mem_ready.1 hj;rw[ho] at hoj;obtain rfl:=Hl hoj;have h1:=hall e he hb;rw[hi] at h1;simp[hu] at h1
theorem iW.notReady {listed:Array Bool}{i:Nat}(h:iW md ops k listed i):k∉Region.ready md ops listed:=by
 induction h with
 |last hu ho he hb hi=>exact ll hu ho he hb hi
 |step _ _ _ _ _ _ ih=>exact ih
theorem iW.set {listed:Array Bool}{i:Nat}(h:iW md ops k listed i){j:Nat}(hj:j∈Region.ready md ops listed)(hne:j≠i):iW md ops k (listed.setIfInBounds j true) i:=by
 induction h with
 |last hu ho he hb hi=>exact .last (by rw[Array.getElem?_setIfInBounds_ne hne];exact hu) ho he hb hi
 |step hu ho he hb hi hl ih=>exact .step (by rw[Array.getElem?_setIfInBounds_ne hne];exact hu) ho he hb hi (ih (fun e=>by subst e;exact ll hu ho he hb hi hj))
def kH (md:Region.Mode)(ops:Array Oper)(k:Nat)(listed:Array Bool):Nat→Nat→Bool
 |0,_=>false
 |f+1,i=>(listed[i]?==some false)&&((ops[k]?).any (fun o=>o.after.any fun e=>Region.binds md e&&e.on==i)||
   (List.range ops.size).any fun j=>(ops[j]?).any (fun o=>o.after.any fun e=>Region.binds md e&&e.on==i)&&kH md ops k listed f j)
theorem xW {listed:Array Bool}:∀(f i:Nat),kH md ops k listed f i=true→iW md ops k listed i
 |0,_,h=>by simp[kH] at h
 |f+1,i,h=>by
  simp only[kH,Bool.and_eq_true,Bool.or_eq_true,beq_iff_eq,List.any_eq_true,Option.any_eq_true,Array.any_eq_true'] at h;obtain⟨h1,h2⟩:=h;rcases h2 with⟨o,ho,e,he,hb,hi⟩|⟨j,_,⟨o,ho,e,he,hb,hi⟩,hl⟩
  ·exact .last h1 ho he hb hi
  ·exact .step h1 ho he hb hi (xW f j hl)
end
section
variable {P:Program}{ops:Array Oper}{md:Region.Mode}{C:H5→Prop}{Q:Exit→Act→H5→Prop}{k:Nat}
def qx (P:Program)(md:Region.Mode)(ops:Array Oper)(C:H5→Prop)(Q:Exit→Act→H5→Prop)(k:Nat):Nat→Array Bool→Act→Prop
 |0,_,_=>False
 |fuel+1,listed,a=>(Region.ready md ops listed=[]→False)∧
  ∀i∈Region.ready md ops listed,if i=k then(∀w,C w→wpOp P ops Q i (wpAny P md ops Q fuel (listed.setIfInBounds i true)) a w) else qOp P ops C i (qx P md ops C Q k fuel (listed.setIfInBounds i true)) a
theorem qy:∀(fuel:Nat)(listed:Array Bool)(a:Act)(w:H5),C w→qx P md ops C Q k fuel listed a→wpAny P md ops Q fuel listed a w
 |0,_,_,_,_,h=>h.elim
 |fuel+1,listed,a,w,hw,h=>by
  refine⟨fun h0=>(h.1 h0).elim,fun i hi=> ?_⟩;have h1:=h.2 i hi
  by_cases e:i=k
  ·rw[if_pos e] at h1
   exact h1 w hw
  ·rw[if_neg e] at h1
   exact wpOp_of_qOp hw (fun a' w' hw' hK=>qy fuel _ a' w' hw' hK) h1
theorem vN {i:Nat}{oi:Oper}{v:Value}(hi:ops[i]?=some oi)(hsel:∀(j:Nat)(o:Oper) cs b,ops[j]?=some o→o.op≠ .select cs b):
  ∀(fuel:Nat)(listed:Array Bool)(a:Act),
   (∀j oj,ops[j]?=some oj→j≠i→listed.getD j true=false→(∀e∈oj.after,Region.binds md e=true→e.on≠i)→oi.apart ops oj=true)→
   i∈Region.ready md ops listed→iW md ops k listed i→YieldsIn P ops C oi v a→
   qx P md ops C Q k fuel (listed.setIfInBounds i true) (a.put oi.dst v)→qx P md ops C Q k (fuel+1) listed a:=by
 intro fuel
 induction fuel with
 |zero=>intro listed a _ _ _ _ H;exact H.elim
 |succ fuel ih=>
  intro listed a hfree hr hle hy H;refine⟨fun h=>(by rw[h] at hr;cases hr),fun j hj=> ?_⟩;have hjk:j≠k:=fun e=>by subst e;exact hle.notReady hj
  rw[if_neg hjk]
  by_cases hji:j=i
  ·subst hji;exact hy.qOp hi H
  ·have h1:=H.2 j (ready_mono hj hji)
   rw[if_neg hjk] at h1;obtain⟨hjun,oj,hoj,hall⟩:=mem_ready.1 hj;have hnot:∀e∈oj.after,Region.binds md e=true→e.on≠i:=fun e he hb heq=>ll hle.un hoj he hb heq hj;have h2:=qOp_put hoj (hfree j oj hoj hji hjun hnot) (fun cs b=>hsel i oi cs b hi) (fun cs b=>hsel j oj cs b hoj) hy h1;have hfree':∀k ok,ops[k]?=some ok→k≠i→(listed.setIfInBounds j true).getD k true=false→
     (∀e∈ok.after,Region.binds md e=true→e.on≠i)→oi.apart ops ok=true:=fun k ok hk hki hun hno=>by
    refine hfree k ok hk hki ?_ hno
    by_cases hjk:j=k
    ·subst hjk;exact hjun
    ·rw[getD_set_ne true hjk] at hun;exact hun
   refine qOp_mono (fun a' h3=>ih (listed.setIfInBounds j true) a' hfree' (ready_mono hr (Ne.symm hji)) (hle.set hj hji) h3.1 ?_) h2;rw[Array.setIfInBounds_comm _ _ hji];exact h3.2
def uH (md:Region.Mode)(ops:Array Oper)(i k:Nat):Bool:=
 (List.range (k-i)).any fun d=>(ops[i+1+d]?).any fun o=>o.after.any fun e=>Region.binds md e&&e.on==i
theorem xX {listed:Array Bool}:∀(n i:Nat),i+n=k→0<n→(∀j,i≤j→j<k→uH md ops j k=true∧listed[j]?=some false)→iW md ops k listed i
 |0,_,_,h0,_=>absurd h0 (Nat.lt_irrefl _)
 |n+1,i,hn,_,h=>by
  obtain⟨h1,h2⟩:=h i (He _) (by omega);unfold uH at h1;simp only[List.any_eq_true,List.mem_range,Option.any_eq_true,Array.any_eq_true',Bool.and_eq_true,beq_iff_eq] at h1;obtain⟨d,hd,o,ho,e,he,hb,hi⟩:=h1
  by_cases e1:i+1+d=k
  ·rw[e1] at ho
   exact .last h2 ho he hb hi
  ·exact .step h2 ho he hb hi (leads_links_aux n (i+1+d) (by omega) (by omega) fun j hj hjk=>h j (by omega) hjk)
where
 leads_links_aux {listed:Array Bool}:∀(m i:Nat),i<k→k-i≤m→(∀j,i≤j→j<k→uH md ops j k=true∧listed[j]?=some false)→iW md ops k listed i
  |0,i,h1,h2,_=>absurd h2 (by omega)
  |m+1,i,h1,h2,h=>by
   obtain⟨h3,h4⟩:=h i (He _) h1;unfold uH at h3;simp only[List.any_eq_true,List.mem_range,Option.any_eq_true,Array.any_eq_true',Bool.and_eq_true,beq_iff_eq] at h3;obtain⟨d,hd,o,ho,e,he,hb,hi⟩:=h3
   by_cases e1:i+1+d=k
   ·rw[e1] at ho
    exact .last h4 ho he hb hi
   ·exact .step h4 ho he hb hi (leads_links_aux m (i+1+d) (by omega) (by omega) fun j hj hjk=>h j (by omega) hjk)
def kI (md:Region.Mode)(ops:Array Oper):Nat→Nat→Array Bool→Bool
 |0,i,listed=>Region.ready md ops listed==[i]
 |n+1,i,listed=>(Region.ready md ops listed).contains i&&Region.free md ops listed i&&uH md ops i (i+n+1)&&listed[i]?==some false&&kI md ops n (i+1) (listed.setIfInBounds i true)
theorem oU {md:Region.Mode}{ops:Array Oper}:∀(n i:Nat)(listed:Array Bool),kI md ops n i listed=true→∀j,i≤j→j<i+n→uH md ops j (i+n)=true∧listed[j]?=some false
 |0,_,_,_,j,h1,h2=>absurd h2 (by omega)
 |n+1,i,listed,h,j,h1,h2=>by
  simp only[kI,Bool.and_eq_true,beq_iff_eq] at h;obtain⟨⟨⟨⟨_,_⟩,h3⟩,h4⟩,h5⟩:=h
  by_cases e:j=i
  ·subst e;exact⟨h3,h4⟩
  ·obtain⟨a1,a2⟩:=oU n (i+1) _ h5 j (by omega) (by omega)
   refine⟨by rw[show i+(n+1)=i+1+n from by omega];exact a1, ?_⟩;rw[Array.getElem?_setIfInBounds_ne (fun e'=>e e'.symm)] at a2;exact a2
def vO:Nat→Nat→Array Bool→Array Bool
 |0,i,listed=>listed.setIfInBounds i true
 |n+1,i,listed=>vO n (i+1) (listed.setIfInBounds i true)
theorem qz {Qf:Act→Prop}(hs:Region.noSelect ops=true){fuel:Nat}:∀(l:List Oper)(i:Nat)(listed:Array Bool)(a:Act),i+l.length=k→(∀j,j<l.length→l[j]?=ops[i+j]?)→
  kI md ops l.length i listed=true→(∀a w,Qf a→C w→wpOp P ops Q k (wpAny P md ops Q fuel (vO l.length i listed)) a w)→
  wpQuiet P ops C Qf l a→qx P md ops C Q k (l.length+1+fuel) listed a
 |[],i,listed,a,hik,_,hB,hQ,h=>by
  have hik':i=k:=by simpa using hik
  subst hik';simp only[List.length_nil,kI,beq_iff_eq] at hB;rw[show([]:List Oper).length+1+fuel=fuel+1 from by simp;omega];refine⟨fun h0=>(by rw[hB] at h0;cases h0),fun j hj=> ?_⟩;rw[hB] at hj;obtain rfl:=Hq.1 hj;rw[if_pos rfl];intro w hw;exact hQ a w h hw
 |o::l,i,listed,a,hik,hl,hB,hQ,h=>by
  have hB0:=hB;have h0:ops[i]?=some o:=by have:=hl 0 (by simp);simpa using this.symm
  simp only[List.length_cons,kI,Bool.and_eq_true] at hB;obtain⟨⟨⟨⟨hr,hf⟩,_⟩,_⟩,hB'⟩:=hB;have hst:qOp P ops C i (wpQuiet P ops C Qf l) a:=by unfold qOp;simp only[h0];exact h
  obtain⟨v,hy,hK⟩:=yieldsIn_of_qOp h0 hst;have hlen:(o::l).length=l.length+1:=rfl;rw[show(o::l).length+1+fuel=(l.length+1+fuel)+1 from by rw[hlen];omega];refine vN h0 (Region.noSelect_spec hs) _ listed a (Region.free_spec h0 hf) (by simpa using hr) ?_ hy
   (qz hs l (i+1) _ _ (by rw[hlen] at hik;omega) (fun j hj=>by have:=hl (j+1) (by rw[hlen];omega);simpa[Nat.add_assoc,Nat.add_comm 1 j] using this) hB' hQ hK)
  refine xX (o::l).length i hik (by rw[hlen];omega) fun j h1 h2=> ?_;have:=oU _ _ _ hB0 j h1 (by omega);rw[hik] at this;exact this
theorem xY {fuel:Nat}{listed:Array Bool}{a:Act}{w:H5}(l:List Oper)(i:Nat)(hs:Region.noSelect ops=true)(hB:kI md ops l.length i listed=true)(hl:(ops.toList.drop i).take l.length=l)(C:H5→Prop)(hC:C w)(listed':Array Bool)
  (hL:vO l.length i listed=listed')
  (h:wpQuiet P ops C (fun a'=>∀w,C w→wpOp P ops Q (i+l.length) (wpAny P md ops Q fuel listed') a' w) l a):wpAny P md ops Q (l.length+1+fuel) listed a w:=by
 refine qy (k:=i+l.length) _ _ _ _ hC (qz hs l i listed a rfl (fun j hj=> ?_) hB (fun a' w' hq hw'=> ?_) h)
 ·have h1:l[j]?=((ops.toList.drop i).take l.length)[j]? :=by rw[hl]
  rw[h1,List.getElem?_take,if_pos hj,List.getElem?_drop];simp
 ·rw[hL];exact hq w' hw'
theorem Ae {listed:Array Bool}{a:Act}{w:H5}(l:List Oper)(i:Nat)(hs:Region.noSelect ops=true)(hB:Region.lexFrom md ops l.length i listed=true)(hl:ops.toList.drop i=l)(C:H5→Prop)(hC:C w)
  (h:wpQuiet P ops C (fun a'=>∀w',C w'→Q .normal a' w') l a):wpAny P md ops Q l.length listed a w:=by
 refine wpAny_of_quiet (Q:=fun a'=>∀w',C w'→Q .normal a' w') (fun _ w' hw' h=>h w' hw') _ _ _ _ hC (wpAnyQ_lex hs l i listed a (fun j=> ?_) hB h);rw[←hl,List.getElem?_drop];simp
section
variable {l:List Oper}
theorem pQ {id:Nat}{a:Act}{w:H5}(n fuel:Nat)(hn:l.length=n+1+fuel)(hm:P.follows .mixedOrders=true)(hs:Region.noSelect l.toArray=true)(hB:kI .any l.toArray n 0 (Array.replicate (n+1+fuel) false)=true)(C:H5→Prop)(hC:C w.drew)
  (h:wpQuiet P l.toArray C (fun a'=>∀w,C w→wpOp P l.toArray Q n (wpAny P .any l.toArray Q fuel (vO n 0 (Array.replicate (n+1+fuel) false))) a' w) (l.take n) a):(Code.region id l.toArray true).wp P Q a w:=by
 refine wp_region_any hm ?_;have hln:(l.take n).length=n:=by rw[Ht];omega
 have hsz:l.toArray.size=n+1+fuel:=by simpa using hn
 rw[hsz];have:=xY (P:=P) (ops:=l.toArray) (md:= .any) (Q:=Q) (fuel:=fuel) (listed:=Array.replicate (n+1+fuel) false) (a:=a) (w:=w.drew) (l.take n) 0 hs (by rw[hln];exact hB) (by rw[hln];simp) C hC _ rfl (by rw[hln,Hf];exact h);rw[hln] at this;exact this
theorem aZ {listed:Array Bool}{a:Act}{w:H5}{fuel0:Nat}(i:Nat)(hn:l.length=i+fuel0)(hs:Region.noSelect l.toArray=true)(hB:Region.lexFrom md l.toArray fuel0 i listed=true)(C:H5→Prop)(hC:C w)
  (h:wpQuiet P l.toArray C (fun a'=>∀w',C w'→Q .normal a' w') (l.drop i) a):wpAny P md l.toArray Q fuel0 listed a w:=by
 have hln:(l.drop i).length=fuel0:=by rw[List.length_drop];omega
 have:=Ae (P:=P) (ops:=l.toArray) (md:=md) (Q:=Q) (listed:=listed) (a:=a) (w:=w) (l.drop i) i hs (by rw[hln];exact hB) (by simp) C hC h;rw[hln] at this;exact this
end
end
section
variable {P:Program}{ops:Array Oper}{Q:Exit→Act→H5→Prop}{md:Region.Mode}{S:H5→Prop}{k:Nat}
def dh (P:Program)(md:Region.Mode)(ops:Array Oper)(Q:Exit→Act→H5→Prop)(S:H5→Prop)(k:Nat):Nat→Array Bool→Act→H5→Prop
 |0,_,_,_=>False
 |fuel+1,listed,a,w=>
  (Region.ready md ops listed=[]→False)∧
  ∀i∈Region.ready md ops listed,wpOp P ops Q i (fun a' w'=>if i=k then wpAny P md ops Q fuel (listed.setIfInBounds i true) a' w' else S w'∧dh P md ops Q S k fuel (listed.setIfInBounds i true) a' w') a w
theorem ek:∀(fuel:Nat)(listed:Array Bool)(a:Act)(w:H5),dh P md ops Q S k fuel listed a w→wpAny P md ops Q fuel listed a w
 |0,_,_,_,h=>h.elim
 |fuel+1,_,_,_,h=>⟨fun h0=>(h.1 h0).elim,fun i hi=>wpOp_mono (fun a' w' h'=>by
   by_cases e:i=k
   ·rw[if_pos e] at h';exact h'
   ·rw[if_neg e] at h';exact ek fuel _ a' w' h'.2) (h.2 i hi)⟩
theorem vP {i:Nat}{oi:Oper}{v:Value}(hi:ops[i]?=some oi)(hsel:∀(j:Nat)(o:Oper) cs b,ops[j]?=some o→o.op≠ .select cs b)
  (hQ:∀c a w,Q (.panic c) (a.put oi.dst v) w→Q (.panic c) a w):
  ∀(fuel:Nat)(listed:Array Bool)(a:Act)(w:H5),
   (∀j oj,ops[j]?=some oj→j≠i→listed.getD j true=false→(∀e∈oj.after,Region.binds md e=true→e.on≠i)→oi.apart ops oj=true)→
   i∈Region.ready md ops listed→iW md ops k listed i→YieldsIf P ops S oi v a→S w→
   dh P md ops Q S k fuel (listed.setIfInBounds i true) (a.put oi.dst v) w→dh P md ops Q S k (fuel+1) listed a w:=by
 intro fuel
 induction fuel with
 |zero=>intro listed a w _ _ _ _ _ H;exact H.elim
 |succ fuel ih=>
  intro listed a w hfree hr hle hy hS H;have hik:i≠k:=fun e=>by subst e;exact hle.notReady hr
  refine⟨fun h=>(by rw[h] at hr;cases hr),fun j hj=> ?_⟩
  by_cases hji:j=i
  ·subst hji;exact hy.wpOp hi hS (by rw[if_neg hik];exact⟨hS,H⟩)
  ·have hjk:j≠k:=fun e=>by subst e;exact hle.notReady hj
   have h1:=H.2 j (ready_mono hj hji);simp only[if_neg hjk] at h1⊢;obtain⟨hjun,oj,hoj,hall⟩:=mem_ready.1 hj;have hnot:∀e∈oj.after,Region.binds md e=true→e.on≠i:=fun e he hb heq=>ll hle.un hoj he hb heq hj;have h2:=wpOp_putIf hoj (hfree j oj hoj hji hjun hnot) (fun cs b=>hsel i oi cs b hi) (fun cs b=>hsel j oj cs b hoj) hQ hy h1;have hfree':∀k ok,ops[k]?=some ok→k≠i→(listed.setIfInBounds j true).getD k true=false→
     (∀e∈ok.after,Region.binds md e=true→e.on≠i)→oi.apart ops ok=true:=fun k ok hk hki hun hno=>by
    refine hfree k ok hk hki ?_ hno
    by_cases hjk:j=k
    ·subst hjk;exact hjun
    ·rw[getD_set_ne true hjk] at hun;exact hun
   refine wpOp_mono (fun a' w' h3=>⟨h3.2.1,ih (listed.setIfInBounds j true) a' w' hfree' (ready_mono hr (Ne.symm hji)) (hle.set hj hji) h3.1 h3.2.1 ?_⟩) h2;rw[Array.setIfInBounds_comm _ _ hji];exact h3.2.2
theorem kJ {i:Nat}{oi:Oper}{v:Value}{fuel:Nat}{listed:Array Bool}{a:Act}{w:H5}(hi:ops[i]?=some oi)
  (hs:Region.noSelect ops=true)(hf:Region.free md ops listed i=true)(hr:(Region.ready md ops listed).contains i=true)(hl:kH md ops k listed ops.size i=true)
  (hQ:∀c a w,Q (.panic c) (a.put oi.dst v) w→Q (.panic c) a w)(hy:YieldsIf P ops S oi v a)(hS:S w)
  (h:dh P md ops Q S k fuel (listed.setIfInBounds i true) (a.put oi.dst v) w):dh P md ops Q S k (fuel+1) listed a w:=
 vP hi (Region.noSelect_spec hs) hQ fuel listed a w (Region.free_spec hi hf) (by simpa using hr) (xW _ _ hl) hy hS h
theorem Af {i:Nat}{o:Oper}{fuel:Nat}{listed:Array Bool}{a:Act}{w:H5}(hr:Region.ready md ops listed=[i])(hik:i≠k)(ho:ops[i]?=some o)
  (h:∀K':Act→H5→Prop,(∀a w,S w→dh P md ops Q S k fuel (listed.setIfInBounds i true) a w→K' a w)→if Region.wanted o (yielded ops a.tmps)=true then Oper.wp P o a w K' Q else K' (a.put o.dst undef) w):
  dh P md ops Q S k (fuel+1) listed a w:=by
 refine⟨fun h0=>(by rw[hr] at h0;cases h0),fun j hj=> ?_⟩;rw[hr] at hj;obtain rfl:=Hq.1 hj;simp only[if_neg hik];exact wpOp_step ho (fun K' hK=>h K' (fun a w hS hW=>hK a w ⟨hS,hW⟩))
theorem Dp {o:Oper}{fuel:Nat}{listed:Array Bool}{a:Act}{w:H5}(hr:Region.ready md ops listed=[k])(ho:ops[k]?=some o)
  (h:∀K':Act→H5→Prop,(∀a w,wpAny P md ops Q fuel (listed.setIfInBounds k true) a w→K' a w)→if Region.wanted o (yielded ops a.tmps)=true then Oper.wp P o a w K' Q else K' (a.put o.dst undef) w):
  dh P md ops Q S k (fuel+1) listed a w:=by
 refine⟨fun h0=>(by rw[hr] at h0;cases h0),fun j hj=> ?_⟩;rw[hr] at hj;obtain rfl:=Hq.1 hj;simp only[if_true];exact wpOp_step ho (fun K' hK=>h K' hK)
theorem aj {id:Nat}{a:Act}{w:H5}(k:Nat)(S:H5→Prop)(hm:P.follows .mixedOrders=true)
  (h:dh P .any ops Q S k ops.size (Array.replicate ops.size false) a w.drew):(Code.region id ops true).wp P Q a w:=
 wp_region_any hm (ek _ _ _ _ h)
theorem xZ {o:Oper}{a:Act}(hw:Region.wanted o (yielded ops a.tmps)=true)(ty:TypeId)(x:Operand)(ho:o.op= .load ty x)
  (ad:Addr)(hx:a.eval x= .pointer (some ad))(cs:Array Value)(d:TypeDesc)(hcells:∀w,S w→∀j u,cs.toList[j]?=some u→w.cell? (ad.add j)=some u)
  (hu:P.underlying ty=some d)(hd:(match d with| .struct _| .array _ _=>true|_=>false)=true)(hi:(P.info? ty).map (·.size)=some cs.size):YieldsIf P ops S o (.agg cs) a:=by
 refine Or.inl ⟨hw,fun w hS=> ?_⟩;unfold execOp;simp only[ho,hx,Instr.loadAt,Instr.sureAddr,Sem.run_bind,Sem.run_pure,Result.andThen_ok,iU w ad ty cs d (hcells w hS) hu hd hi]
theorem zT {C:H5→Prop}(i:Nat){oi:Oper}{v:Value}{fuel:Nat}{listed:Array Bool}{a:Act}{w:H5}(hi:ops[i]?=some oi)
  (hC:∀w,S w→C w)
  (h:dh P md ops Q S k fuel (listed.setIfInBounds i true) (a.put oi.dst v) w)
  (hy:∀w,C w→(execOp a.eval oi).run P w= .ok (.value v) w:=by intro w hw;go_simp;try rfl)
  (hw:Region.wanted oi (yielded ops a.tmps)=true:=by rfl)
  (hs:Region.noSelect ops=true:=by kernel_rfl)(hf:Region.free md ops listed i=true:=by kernel_rfl)(hr:(Region.ready md ops listed).contains i=true:=by kernel_rfl)(hl:kH md ops k listed ops.size i=true:=by kernel_rfl)
  (hQ:∀c a w,Q (.panic c) (a.put oi.dst v) w→Q (.panic c) a w:=by exact fun _ _ _ h=>h)(hS:S w:=by assumption):dh P md ops Q S k (fuel+1) listed a w:=
 kJ hi hs hf hr hl hQ (.inl ⟨hw,fun w h=>hy w (hC w h)⟩) hS h
theorem zN (i:Nat){oi:Oper}{fuel:Nat}{listed:Array Bool}{a:Act}{w:H5}(hi:ops[i]?=some oi)
  (h:dh P md ops Q S k fuel (listed.setIfInBounds i true) (a.put oi.dst undef) w)
  (hw:Region.wanted oi (yielded ops a.tmps)=false:=by rfl)
  (hs:Region.noSelect ops=true:=by kernel_rfl)(hf:Region.free md ops listed i=true:=by kernel_rfl)(hr:(Region.ready md ops listed).contains i=true:=by kernel_rfl)(hl:kH md ops k listed ops.size i=true:=by kernel_rfl)
  (hQ:∀c a w,Q (.panic c) (a.put oi.dst undef) w→Q (.panic c) a w:=by exact fun _ _ _ h=>h)(hS:S w:=by assumption):dh P md ops Q S k (fuel+1) listed a w:=
 kJ hi hs hf hr hl hQ (.inr ⟨hw,rfl⟩) hS h
theorem zO (i:Nat){o:Oper}{fuel:Nat}{listed:Array Bool}{a:Act}{w:H5}(ho:ops[i]?=some o)
  (h:∀K':Act→H5→Prop,(∀a w,S w→dh P md ops Q S k fuel (listed.setIfInBounds i true) a w→K' a w)→Oper.wp P o a w K' Q)
  (hw:Region.wanted o (yielded ops a.tmps)=true:=by rfl)(hr:Region.ready md ops listed=[i]:=by kernel_rfl)(hik:i≠k:=by decide):
  dh P md ops Q S k (fuel+1) listed a w:=Af hr hik ho fun K' hK=>by rw[if_pos hw];exact h K' hK
theorem zK {o:Oper}{fuel:Nat}{listed:Array Bool}{a:Act}{w:H5}(ho:ops[k]?=some o)
  (h:∀K':Act→H5→Prop,(∀a w,wpAny P md ops Q fuel (listed.setIfInBounds k true) a w→K' a w)→Oper.wp P o a w K' Q)
  (hw:Region.wanted o (yielded ops a.tmps)=true:=by rfl)(hr:Region.ready md ops listed=[k]:=by kernel_rfl):
  dh P md ops Q S k (fuel+1) listed a w:=Dp hr ho fun K' hK=>by rw[if_pos hw];exact h K' hK
theorem zL (i:Nat){oi:Oper}{fuel:Nat}{listed:Array Bool}{a:Act}{w:H5}(hi:ops[i]?=some oi)(ty:TypeId){x:Operand}(ad:Addr){cs:Array Value}{d:TypeDesc}
  (hcells:∀w,S w→∀j u,cs.toList[j]?=some u→w.cell? (ad.add j)=some u)(hu:P.underlying ty=some d)
  (h:dh P md ops Q S k fuel (listed.setIfInBounds i true) (a.put oi.dst (.agg cs)) w)
  (ho:oi.op= .load ty x:=by rfl)(hx:a.eval x= .pointer (some ad):=by rfl)
  (hd:(match d with| .struct _| .array _ _=>true|_=>false)=true:=by rfl)(hz:(P.info? ty).map (·.size)=some cs.size:=by kernel_rfl)
  (hw:Region.wanted oi (yielded ops a.tmps)=true:=by rfl)
  (hs:Region.noSelect ops=true:=by kernel_rfl)(hf:Region.free md ops listed i=true:=by kernel_rfl)(hr:(Region.ready md ops listed).contains i=true:=by kernel_rfl)(hl:kH md ops k listed ops.size i=true:=by kernel_rfl)
  (hQ:∀c a w,Q (.panic c) (a.put oi.dst (.agg cs)) w→Q (.panic c) a w:=by exact fun _ _ _ h=>h)(hS:S w:=by assumption):dh P md ops Q S k (fuel+1) listed a w:=
 kJ hi hs hf hr hl hQ (xZ hw ty x ho ad hx cs d hcells hu hd hz) hS h
end
end Go.Proofs.YtjomgckjhcfbgaaGreat
