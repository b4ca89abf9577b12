/- Walks. -/
import Derived.Laws.OwnMore
import Derived.Handy
import Derived.Laws.StructEq
import Derived.Deep.RegionHeld3
import Derived.Deep.WholeRow
import Derived.Laws.ResultCell
import Derived.Test.YtjomgckjhcfbgaaGreatS1
set_option maxRecDepth 100000
set_option maxHeartbeats 64000000
set_option linter.all false
namespace Go.Proofs.YtjomgckjhcfbgaaGreat
open Go.RowKit
open _root_.List renaming getElem?_eq_getElem→GN,getElem?_eq_some_iff→GQ,length_append→GU,mem_of_getElem?→GV,take_length→Ha
open _root_.Array renaming getElem?_eq_some_iff→GR
open _root_.Nat renaming lt_of_lt_of_le→Hd,le_refl→He,zero_add→Hf,zero_le→Hg
open _root_.Option renaming some.inj→Hl
open _root_.Int renaming toNat_natCast→Ho
open Go.RowKit.Below renaming refl→Hw
open Go renaming heap_setCell_same→Hz,World→H5
open Go.RowKit renaming Below→H9,Hid→Ia
open Tryz
def pV (op:Int):Bool:=decide (op∈[1,2,3,4,5,7,9,10,12,14,15])
def sZ (op:Int):Bool:=decide (op∈[3,4,6,7,8,9,10,11,13,14,17,18])
def qN (op:Int):Bool:=decide (op∈[4,8,11])
theorem Cu (op:Int):(op=1∨op=2∨op=3∨op=4∨op=5∨op=6∨op=7∨op=8∨op=9∨op=10∨op=11∨op=12∨op=13∨op=14∨op=15∨op=17∨op=18)∨(op≠1∧op≠2∧op≠3∧op≠4∧op≠5∧op≠6∧op≠7∧op≠8∧op≠9∧op≠10∧op≠11∧op≠12∧op≠13∧op≠14∧op≠15∧op≠17∧op≠18):=by omega
theorem pu (op:Int)(w:H5):zS 193 #[.int .i64 op] w (.tuple #[.bool (pV op),.bool (sZ op),.bool (qN op)]):=by
 rcases Cu op with h|h
 ·rcases h with rfl|rfl|rfl|rfl|rfl|rfl|rfl|rfl|rfl|rfl|rfl|rfl|rfl|rfl|rfl|rfl|rfl
  all_goals
   go_enter func193,ntmps193;go_wp2
   go_ret3
   exact⟨rfl,rfl⟩
 ·obtain⟨h1,h2,h3,h4,h5,h6,h7,h8,h9,h10,h11,h12,h13,h14,h15,h17,h18⟩:=h
  have e1:(op==1)=false:=by simpa using h1
  have e2:(op==2)=false:=by simpa using h2
  have e3:(op==3)=false:=by simpa using h3
  have e4:(op==4)=false:=by simpa using h4
  have e5:(op==5)=false:=by simpa using h5
  have e6:(op==6)=false:=by simpa using h6
  have e7:(op==7)=false:=by simpa using h7
  have e8:(op==8)=false:=by simpa using h8
  have e9:(op==9)=false:=by simpa using h9
  have e10:(op==10)=false:=by simpa using h10
  have e11:(op==11)=false:=by simpa using h11
  have e12:(op==12)=false:=by simpa using h12
  have e13:(op==13)=false:=by simpa using h13
  have e14:(op==14)=false:=by simpa using h14
  have e15:(op==15)=false:=by simpa using h15
  have e17:(op==17)=false:=by simpa using h17
  have e18:(op==18)=false:=by simpa using h18
  have HD:Ia (pV op=false∧sZ op=false∧qN op=false):=by
   unfold pV sZ qN;refine⟨decide_eq_false ?_,decide_eq_false ?_,decide_eq_false ?_⟩<;>(simp;omega)
  clear h1 h2 h3 h4 h5 h6 h7 h8 h9 h10 h11 h12 h13 h14 h15 h17 h18;go_enter func193,ntmps193;go_wp2
  go_ret3
  obtain⟨a,b,c⟩:=HD.out;exact⟨by rw[a,b,c];rfl,rfl⟩
def ak (w:H5)(ao:Option Addr)(xs:List Int):Prop:=
 xs≠[]→∃g off,ao=some ⟨g,off,none⟩∧g<w.heap.size∧∀i z,xs[i]?=some z→w.cell? ⟨g,off+i,none⟩=some (.int .i64 z)
theorem aU.at_ {w:H5}{base n cap:Nat}{ao:Option Addr}{xs:List Int}(h:aU w base (.slice ao n cap) xs):ak w ao xs:=by
 intro hne;obtain⟨g,e,_,hg,hc⟩:=h.shape (List.length_pos_iff.2 hne);exact⟨g,0,e,hg,fun i z hz=>by rw[Hf];exact hc i z hz⟩
theorem dY.at_ {w:H5}{ao:Option Addr}{xs:List Int}(h:dY w ao xs):ak w ao xs:=by
 intro hne;obtain⟨b,off,e,hb,hc⟩:=h hne;exact⟨b,off,e,hb,fun i z hz=>by have:=hc i z hz 0 _ rfl;simpa using this⟩
theorem ak.below {w w':H5}{ao:Option Addr}{xs:List Int}(h:ak w ao xs)(hb:H9 w.heap.size w w'):ak w' ao xs:=by
 intro hne;obtain⟨g,off,e,hg,hc⟩:=h hne;exact⟨g,off,e,Hd hg hb.size,fun i z hz=>by rw[hb.cell (p:=⟨g,_,none⟩) hg];exact hc i z hz⟩
theorem Cv (w:H5)(c:Nat)(ao:Option Addr)(xs:List Int)(z:Int)(hn:xs.length≤90000)(h:ak w ao xs):
  zS 126 #[.int .i64 z,.slice ao xs.length c] w (.bool (decide (z∈xs))):=by
 have H:=zH h;clear h;go_enter func126,ntmps126
 go_wp2_with fail
 go_loop [5] (fun k=>∃j:Nat,j≤xs.length∧k= .int .i64 (j:Int)∧z∉xs.take j) (fun k=>xs.length-(intOf k).toNat)
 case atStart=>exact⟨0,Hg _,rfl,by simp⟩
 case round=>
  obtain⟨j,hj,rfl,hz⟩:=hrel
  by_cases hjl:j<xs.length
  ·obtain⟨y,hy⟩:∃y,xs[j]?=some y:=⟨_,GN hjl⟩
   obtain⟨g1,off,rfl,hg1,q1⟩:=H.out (by intro e;rw[e] at hjl;simp at hjl);have d1:w.cell? ⟨g1,off+j,none⟩=some (.int .i64 y):=q1 j y hy;have hjI:(j:Int)<(xs.length:Int):=by omega
   by_cases he:y=z
   ·have hyz:(y==z)=true:=by simp[he]
    have HM:Ia (decide (z∈xs)=true):=decide_eq_true (by rw[←he];exact GV hy);clear hy q1 hz he;go_wp2;go_ret;exact⟨by rw[HM.out];rfl,rfl⟩
   ·have hyz:(y==z)=false:=by simp[he]
    have HN:Ia (z∉xs.take (j+1)):=by
     unfold Ia;rw[List.take_add_one,hy];simp[hz];exact fun e=>he e.symm
    clear hy q1 hz he;go_wp2
    go_round
    case rel=>exact⟨j+1,by omega,by go_num,HN.out⟩
    case measure=>simp[intOf];omega
  ·have hje:j=xs.length:=by omega
   subst hje;rw[Ha] at hz;have HM:Ia (decide (z∈xs)=false):=decide_eq_false hz;clear hz;go_wp2;go_ret;exact⟨by rw[HM.out];rfl,rfl⟩
theorem ak.nil_of_none {w:H5}{xs:List Int}(h:ak w none xs):xs=[]:=by
 by_cases e:xs=[]
 ·exact e
 ·obtain⟨g,off,h1,_⟩:=h e
  cases h1
theorem pW {P:Program}(w:H5)(base:Nat)(t ty e:TypeId)(i:TypeInfo)(size:Nat)(ht:P.underlying t=some (.slice e))(hi:P.info? e=some i)
  (v:Value)(n:Nat)(xs:List Value)(hown:w.ownsRow base e size v n xs)(c:Nat):(Builtin.append_ #[t,t] ty #[v,.slice none 0 c]).run P w= .ok v w:=by
 rcases hown.2 with⟨rfl,rfl⟩|⟨g,cap,cur,rfl,_,_,hnc,_⟩
 ·simp[Builtin.append_,run_underlying ht,sizeOf,typeInfo,hi,Builtin.lenOf,Builtin.firstCells]
 ·simp[Builtin.append_,run_underlying ht,sizeOf,typeInfo,hi,Builtin.lenOf,Builtin.firstCells,hnc,storeCells]
theorem aJ {w:H5}{ops:Array Oper}{rest:List Oper}{o:Oper}{a:Act}{Q:Exit→Act→H5→Prop}(hgd:o.guard=none)(s x:Operand)
  (ho:o.op= .call {callee:= .builtin .append,args:=#[s,x],argTypes:=#[35,35]})(base:Nat)(v:Value)(xs:List Int)(hs:a.eval s=v)(hown:aU w base v xs)
  (ao:Option Addr)(ys:List Int)(c:Nat)(hx:a.eval x= .slice ao ys.length c)(hat:ak w ao ys)(h63:xs.length+ys.length≤90000)(hbase:base≤w.heap.size)
  (h:∀v' w',aU w' base v' (xs++ys)→w.grownBy w' v.ownBlock→wpList prog ops Q rest (a.put o.dst v') w'):wpList prog ops Q (o::rest) a w:=by
 obtain⟨i0,hi,hz0,hz1,hz2⟩:=info_parts iP;have hh:∀v' w',w'.ownsRow base 3 1 v' (xs.length+ys.length) (xs.map (Value.int .i64)++ys.map (Value.int .i64))→w.grownBy w' v.ownBlock→wpList prog ops Q rest (a.put o.dst v') w':=fun v' w' h1 h2=>h v' w' (by unfold aU;simpa using h1) h2;cases ao with
 |none=>
  obtain rfl:=hat.nil_of_none;refine wpList_plain hgd fun K hK=> ?_;have hrun:=pW (P:=prog) w base 35 o.type 3 i0 1 underlying35 hi v _ _ hown c;have hx':a.eval x= .slice none 0 c:=hx;unfold Oper.wp;simp[execOp,ho,resolve,invoke,builtin,hs,hx',hrun,Result.andThen];exact hK _ _ (hh _ _ (by have h:=hown;unfold aU at h;simpa using h) (World.grownBy.refl w _))
 |some ad=>
  refine wpList_append_own _ hgd s x 35 ho base 3 i0 (.int .i64 0) 1 8 underlying35 hi hz0 hz1 hz2 rfl (by decide) v xs.length _ hs hown ad ys.length c (ys.map (Value.int .i64)) hx (by simp) (fun j u hu=> ?_) (by simp;intro _ _;rfl) (by unfold maxLen;omega) (by omega) hbase (fun v' w' h1 h2 _=>hh v' w' h1 h2);obtain⟨z,hz,rfl⟩:∃z,ys[j]?=some z∧Value.int .i64 z=u:=by
   rw[List.getElem?_map] at hu;cases hy:ys[j]? with
   |none=>rw[hy] at hu;simp at hu
   |some z=>rw[hy] at hu;exact⟨z,rfl,by simpa using hu⟩
  obtain⟨g,off,e,_,hc⟩:=hat (by intro e;rw[e] at hz;simp at hz);obtain rfl:=Hl e;rw[Addr.add_lit];exact hc j z hz
def az (i:Ins):Int×Bool:=if pV i.op=true then(i.d,true) else(0,false)
def readsOf (i:Ins):List Int:=(if sZ i.op=true then[i.a] else[])++(if qN i.op=true then[i.b] else[])++(if i.op=15 then i.args else[])
theorem kR (i:Ins)(w:H5)(hok:i.ok):zP 142 #[.agg i.cells] w (.tuple #[.int .i64 (az i).1,.bool (az i).2]):=by
 obtain⟨op,d,a,b,f,n,sign,argsV,modeV,tgt,els,ln,cl,args⟩:=i;obtain⟨⟨ao,cap,h1⟩,ao2,n2,cap2,h2⟩:=hok;simp only at h1 h2;subst h1 h2;simp only[Ins.cells,az];have HS:=zH (pu op);cases hd:pV op with
 |true=>
  go_enter func142,ntmps142
  go_wp2_with (go_at_call 193;refine(HS.out _).mono ?_;rintro e w' ⟨rfl,rfl⟩)
  go_ret2
  exact⟨rfl,(Hw _ _).alloc (He _) _⟩
 |false=>
  go_enter func142,ntmps142
  go_wp2_with (go_at_call 193;refine(HS.out _).mono ?_;rintro e w' ⟨rfl,rfl⟩)
  go_ret2
  exact⟨rfl,(Hw _ _).alloc (He _) _⟩
theorem below_grown {B:Nat}{a w w':H5}{v:Value}{xs:List Int}(h:H9 B a w)(hB:B≤w.heap.size)(hv:aU w B v xs)(hg:w.grownBy w' v.ownBlock):H9 B a w':=
 h.grown hg hB (fun k hk=>(hv.lt k hk).1)
theorem ak.one (w:H5)(z:Int){B:Nat}(hB:B=w.heap.size):ak (w.alloc (.cells #[.int .i64 z] 3)) (some ⟨B,0,none⟩) [z]:=by
 subst hB;intro _;refine⟨w.heap.size,0,rfl,by simp,fun i u hi=> ?_⟩;rw[Hf,World.cell?_alloc_new];have:i<1:=(GQ.1 hi).1;obtain rfl:i=0:=by omega
 simp at hi;subst hi;rfl
theorem BM {op:Int}(h:qN op=true):sZ op=true:=by
 unfold qN at h;unfold sZ;have:=of_decide_eq_true h;refine decide_eq_true ?_;simp at this⊢;omega
theorem pz (i:Ins)(h:i.args.length≤40):(readsOf i).length≤42:=by
 unfold readsOf;simp only[GU];have:(if sZ i.op=true then[i.a] else[]).length≤1:=by split<;>simp
 have:(if qN i.op=true then[i.b] else[]).length≤1:=by split<;>simp
 have:(if i.op=15 then i.args else[]).length≤40:=by
  split
  ·exact h
  ·simp
 omega
theorem l8 (i:Ins)(w:H5)(hin:i.args_in w)(hl:i.args.length≤40):Calls prog 144 #[.agg i.cells] w (iR w (readsOf i)):=by
 obtain⟨op,d,a,b,f,n,sign,argsV,modeV,tgt,els,ln,cl,args⟩:=i;obtain⟨⟨_,ao2,n2,cap2,h2⟩,ao,cap,h1,hrow⟩:=hin;simp only at h1 h2 hrow hl;subst h1 h2;simp only[Ins.cells,readsOf];have HS:=zH (pu op);have HROW:=zH hrow.at_;clear hrow;obtain⟨N,hN⟩:=zE w.heap.size
 by_cases h15:op=15
 ·subst h15
  have e:(if sZ 15=true then[a] else[])++(if qN 15=true then[b] else[])++(if (15:Int)=15 then args else[])=args:=by
   rw[if_neg (by decide),if_neg (by decide),if_pos rfl];rfl
  rw[e];go_enter func144,ntmps144
  go_wp2_with (first
   |(go_at_call 193;refine(HS.out _).mono ?_;rintro e w' ⟨rfl,rfl⟩)
   |(at_builtin;refine aJ rfl (.tmp 28) (.tmp 30) rfl (N+1) (.slice none 0 0) [] rfl (aU.nil _ _) ao args cap rfl (HROW.out.below ((Hw _ _).alloc (He _) _)) ?c1 ?c2 ?_))
  case c1=>simp;omega
  case c2=>simp;omega
  intro v' w' hown hgrow;obtain⟨ao',cap',rfl⟩:=hown.isSlice;have HG:Ia (aU w' (N+1) (.slice ao' args.length cap') args∧H9 N w w'):=⟨by simpa using hown,by
   refine below_grown (v:= .slice none 0 0) (xs:=[]) ?_ ?_ (aU.nil _ _) hgrow
   ·rw[←hN];exact(Hw _ _).alloc (He _) _
   ·simp;omega⟩
  clear hown hgrow
  try simp only[List.nil_append]
  go_wp2;go_ret;exact⟨_,_,rfl,by first|exact HG.out.1.mono (Nat.le_succ N)|(rw[hN];exact HG.out.1.mono (Nat.le_succ N)),by first|exact HG.out.2|(rw[hN];exact HG.out.2)⟩
 ·have h15':(op==15)=false:=by simpa using h15
  rw[if_neg h15,List.append_nil];clear h15;cases ha:sZ op with
  |false=>
   have hb:qN op=false:=by
    cases h:qN op with
    |false=>rfl
    |true=>rw[BM h] at ha;cases ha
   rw[hb,if_neg (by decide),if_neg (by decide)];go_enter func144,ntmps144
   go_wp2_with (go_at_call 193;refine(HS.out _).mono ?_;rintro e w' ⟨rfl,rfl⟩)
   go_ret;exact⟨none,0,rfl,aU.nil _ _,(Hw _ _).alloc (by omega) _⟩
  |true=>
   cases hb:qN op with
   |false=>
    rw[if_pos rfl,if_neg (by decide),List.append_nil];go_enter func144,ntmps144
    go_wp2_with (first
     |(go_at_call 193;refine(HS.out _).mono ?_;rintro e w' ⟨rfl,rfl⟩)
     |(at_builtin;refine aJ rfl (.tmp 14) (.tmp 17) rfl (N+1) (.slice none 0 0) [] rfl (aU.nil _ _) _ [a] 1 rfl (ak.one _ _ (by simp[hN])) ?c1 ?c2 ?_))
    case c1=>simp
    case c2=>simp;omega
    intro v' w' hown hgrow;obtain⟨ao',cap',rfl⟩:=hown.isSlice;have HG:Ia (aU w' (N+1) (.slice ao' [a].length cap') [a]∧H9 N w w'):=⟨by simpa using hown,by
     refine below_grown (v:= .slice none 0 0) (xs:=[]) ?_ ?_ (aU.nil _ _) hgrow
     ·rw[←hN];exact((Hw _ _).alloc (He _) _).alloc (by simp) _
     ·simp;omega⟩
    have hx1:Ext (fun _=>False) ((w.alloc (.cells #[.int .i64 op,.int .i64 d,.int .i64 a,.int .i64 b,.int .i64 f,.int .i64 n,.string sign,.slice ao args.length cap,.slice ao2 n2 cap2,.int .i64 tgt,.int .i64 els,.int .i64 ln,.int .i64 cl] 42)).alloc (.cells #[.int .i64 a] 3)) w':=Ext.of_grown hgrow (fun k hk=>by simp[Value.ownBlock] at hk);have hb0:w'.cell? ⟨N,0,none⟩=some (.int .i64 op):=by
     rw[hx1.cell (a:=⟨N,0,none⟩) (by simp;omega) (fun h=>h),←hN,World.cell?_alloc_lt _ _ _ (by simp),World.cell?_alloc_new];rfl
    clear hown hgrow hx1
    try simp only[List.nil_append]
    go_wp2;go_ret;exact⟨_,_,rfl,by first|exact HG.out.1.mono (Nat.le_succ N)|(rw[hN];exact HG.out.1.mono (Nat.le_succ N)),by first|exact HG.out.2|(rw[hN];exact HG.out.2)⟩
   |true=>
    rw[if_pos rfl,if_pos rfl];go_enter func144,ntmps144
    go_wp2_with (first
     |(go_at_call 193;refine(HS.out _).mono ?_;rintro e w' ⟨rfl,rfl⟩)
     |(at_builtin;refine aJ rfl (.tmp 14) (.tmp 17) rfl (N+1) (.slice none 0 0) [] rfl (aU.nil _ _) _ [a] 1 rfl (ak.one _ _ (by simp[hN])) ?c1 ?c2 ?_))
    case c1=>simp
    case c2=>simp;omega
    intro v1 w1 hown1 hgrow1;obtain⟨ao1,cap1,rfl⟩:=hown1.isSlice;have hx1:Ext (fun _=>False) ((w.alloc (.cells #[.int .i64 op,.int .i64 d,.int .i64 a,.int .i64 b,.int .i64 f,.int .i64 n,.string sign,.slice ao args.length cap,.slice ao2 n2 cap2,.int .i64 tgt,.int .i64 els,.int .i64 ln,.int .i64 cl] 42)).alloc (.cells #[.int .i64 a] 3)) w1:=Ext.of_grown hgrow1 (fun k hk=>by simp[Value.ownBlock] at hk);have hb1:w1.cell? ⟨N,3,none⟩=some (.int .i64 b):=by
     rw[hx1.cell (a:=⟨N,3,none⟩) (by simp;omega) (fun h=>h),←hN,World.cell?_alloc_lt _ _ _ (by simp),World.cell?_alloc_new];rfl
    have hb0:w1.cell? ⟨N,0,none⟩=some (.int .i64 op):=by
     rw[hx1.cell (a:=⟨N,0,none⟩) (by simp;omega) (fun h=>h),←hN,World.cell?_alloc_lt _ _ _ (by simp),World.cell?_alloc_new];rfl
    have HG1:Ia (aU w1 (N+1) (.slice ao1 [a].length cap1) [a]∧H9 N w w1):=⟨by simpa using hown1,by
     refine below_grown (v:= .slice none 0 0) (xs:=[]) ?_ ?_ (aU.nil _ _) hgrow1
     ·rw[←hN];exact((Hw _ _).alloc (He _) _).alloc (by simp) _
     ·simp;omega⟩
    have hs1:N≤w1.heap.size:=by have:=HG1.out.2.size;omega
    clear hown1 hgrow1 hx1
    try simp only[List.nil_append]
    go_wp2_with (at_builtin;refine aJ rfl (.tmp 20) (.tmp 23) rfl (N+1) (.slice ao1 1 cap1) [a] rfl (ownsRow_below HG1.out.1 ((Hw _ _).alloc (He _) _)) _ [b] 1 rfl (ak.one _ _ (by simp)) ?c3 ?c4 ?_)
    case c3=>simp
    case c4=>simp;omega
    intro v' w' hown hgrow;obtain⟨ao',cap',rfl⟩:=hown.isSlice;have hNw1:N<w1.heap.size:=by
     by_cases e:N<w1.heap.size
     ·exact e
     ·exact absurd hb0 (by simp[World.cell?,Array.getElem?_eq_none (Nat.le_of_not_lt e)])
    have hb0':w'.cell? ⟨N,0,none⟩=some (.int .i64 op):=by
     have hx2:Ext (fun k=>(Value.slice ao1 1 cap1).ownBlock=some k) (w1.alloc (.cells #[.int .i64 b] 3)) w':=Ext.of_grown hgrow (fun k hk=> .inl hk);rw[hx2.cell (a:=⟨N,0,none⟩) (by simp;omega) (fun h=> ?_),World.cell?_alloc_lt _ _ _ hNw1]
     ·exact hb0
     ·have h3:=(HG1.out.1.lt N h).1
      omega
    have HG:Ia (aU w' (N+1) (.slice ao' [a,b].length cap') [a,b]∧H9 N w w'):=⟨by simpa using hown,by
     refine below_grown (v:= .slice ao1 1 cap1) (xs:=[a]) ?_ ?_ (aU.mono (ownsRow_below HG1.out.1 ((Hw _ _).alloc (He _) _)) (Nat.le_succ N)) hgrow
     ·exact HG1.out.2.alloc hs1 _
     ·simp;omega⟩
    clear hown hgrow
    try simp only[List.cons_append,List.nil_append]
    go_wp2;go_ret;exact⟨_,_,rfl,by first|exact HG.out.1.mono (Nat.le_succ N)|(rw[hN];exact HG.out.1.mono (Nat.le_succ N)),by first|exact HG.out.2|(rw[hN];exact HG.out.2)⟩
def fZ {α:Type}(p:α→Bool)(l:List α):Int:=if l.findIdx p<l.length then((l.findIdx p:Nat):Int) else-1
def Mo.stIx (m:Mo)(nm:ByteArray):Int:=fZ (fun s=>s.s.nm==nm) m.ss
def Mo.fnIx (m:Mo)(nm:ByteArray):Int:=fZ (fun f=>f.c.nm==nm) m.fs
def Mo.known (m:Mo)(t:Ty):Bool:=if t.1=true then decide (0≤m.stIx t.2) else t.2==ByteArray.empty
def ax (vs:List Vr)(v:Int):Ty:=match vs[v.toNat]? with
 |some x=>x.ty
 |none=>bF
def isVar (n:Nat)(v:Int):Bool:=decide (0≤v)&&decide (v<(n:Int))
def aI (n:Nat)(l:List Int):Bool:=l.all (isVar n)
def bM (b:Bool)(f:Int):Int:=if b=true then 0 else f
def aH (m:Mo)(vs:List Vr)(v f:Int):Ty×Int:=
 if (ax vs v).1=false then(bF,7)
 else match m.ss[(m.stIx (ax vs v).2).toNat]? with
  |none=>(bF,15)
  |some s=>if f<0 then(bF,15) else match s.fs[f.toNat]? with
   |none=>(bF,15)
   |some x=>(x.ty,0)
def cu (m:Mo)(vs:List Vr)(i:Ins)(other:Int)(ptr:Bool):Int:=
 if (aH m vs i.a i.f).2≠0 then(aH m vs i.a i.f).2
 else bM ((aH m vs i.a i.f).1==ax vs other&&(aH m vs i.a i.f).1.1==ptr) 7
def ig (vs gs:List Vr):Nat→List Int→Bool
 |_,[]=>true
 |k,a::r=>ax vs a==ax gs (k:Int)&&ig vs gs (k+1) r
def gU (m:Mo)(vs:List Vr)(i:Ins):Int:=
 if i.f<0 then 15 else match m.fs[i.f.toNat]? with
  |none=>15
  |some g=>if (i.args.length:Int)≠g.c.par∨(g.vs.length:Int)<g.c.par then 7
   else if ig vs g.vs 0 i.args=false then 7 else bM (ax vs i.d==g.ret) 7
def dR (vs:List Vr)(l:List Int):Int:=bM (l.all fun v=> !(ax vs v).1) 7
def d9 (f:Int)(s:ByteArray)(l:List ByteArray):Int:=if f≠0 then f else bM (l.any fun x=>x==s) 3
def gm:List ByteArray:=[⟨#[43]⟩,⟨#[45]⟩,⟨#[42]⟩,⟨#[47]⟩,⟨#[37]⟩,⟨#[60]⟩,⟨#[60,61]⟩,⟨#[62]⟩,⟨#[62,61]⟩,⟨#[61,61]⟩,⟨#[33,61]⟩]
def jb:List ByteArray:=[⟨#[61,61]⟩,⟨#[33,61]⟩]
def au (m:Mo)(vs:List Vr)(i:Ins):Int:=
 if i.op=1∨i.op=5 then dR vs [i.d]
 else if i.op=3 then dR vs [i.d,i.a]
 else if i.op=4 then d9 (dR vs [i.d,i.a,i.b]) i.sign gm
 else if i.op=6 then dR vs [i.a]
 else if i.op=2 then bM (ax vs i.d).1 7
 else if i.op=13 then bM (ax vs i.a).1 7
 else if i.op=14 then d9 (bM (!(ax vs i.d).1&&(ax vs i.a).1) 7) i.sign jb
 else if i.op=9 then bM ((ax vs i.a).1&&ax vs i.a==ax vs i.d) 7
 else if i.op=7∨i.op=10 then cu m vs i i.d (decide (i.op=10))
 else if i.op=8∨i.op=11 then cu m vs i i.b (decide (i.op=11))
 else if i.f<0 then 15 else match m.ss[i.f.toNat]? with
  |none=>15
  |some s=>bM (ax vs i.d==(true,s.s.nm)) 7
def aC (m:Mo)(g:Fn)(i:Ins):Int:=
 if i.op<1∨18<i.op then 3
 else if aI g.vs.length (readsOf i++(if pV i.op then[i.d] else[]))=false then 15
 else if i.op=15 then gU m g.vs i
 else if i.op=16 then bM (isVar g.c.ins.length i.tI) 15
 else if i.op=17 then(if isVar g.c.ins.length i.tI&&isVar g.c.ins.length i.els then dR g.vs [i.a] else 15)
 else if i.op=18 then bM (ax g.vs i.a==g.ret) 7
 else au m g.vs i
def aP {α:Type}(f:α→Int):List α→Int
 |[]=>0
 |x::r=>if f x=0 then aP f r else f x
def codeF (m:Mo)(g:Fn):Int:=
 if 300<g.vs.length∨g.c.ins.length<1∨3000<g.c.ins.length then 2
 else if g.c.par<0∨(g.vs.length:Int)<g.c.par then 15
 else if aP (aC m g) g.c.ins≠0 then aP (aC m g) g.c.ins
 else bM (match g.c.ins.getLast? with
  |some i=>decide (16≤i.op)
  |none=>false) 15
def di (m:Mo):Bool:=(m.ss.any fun s=>decide (¬(s.fs.map Fd.nm).Nodup))||decide (¬(m.ss.map fun s=>s.s.nm).Nodup)||decide (¬(m.fs.map fun f=>f.c.nm).Nodup)
def bN (m:Mo):List Ty:=(m.ss.flatMap fun s=>s.fs.map Fd.ty)++(m.fs.flatMap fun f=>f.ret::f.vs.map Vr.ty)
def dB:ByteArray:=⟨#[109,97,105,110]⟩
def gF (m:Mo):Int:=
 if 30<m.ss.length∨60<m.fs.length then 2
 else if di m=true then 6
 else if (bN m).all m.known=false then 5
 else if aP (codeF m) m.fs≠0 then aP (codeF m) m.fs
 else bM (decide (0≤m.fnIx dB)&&(match m.fs[(m.fnIx dB).toNat]? with
  |some g=>decide (g.c.par=0)&& !g.c.rp
  |none=>false)) 9
theorem aB (b:Bool)(f:Int)(w:H5):zS 99 #[.bool b,.int .i64 f] w (.int .i64 (bM b f)):=by
 cases b with
 |true=>
  go_enter func99,ntmps99;go_wp2;go_ret;exact⟨rfl,rfl⟩
 |false=>
  go_enter func99,ntmps99;go_wp2;go_ret;exact⟨rfl,rfl⟩
def jg (m:Mo)(g:Fn):Array Value:=#[.slice m.sA m.ss.length m.sC,.slice m.fA m.fs.length m.fC,.string g.c.nm,.int .i64 g.c.par,.slice g.c.varsA g.c.nvars g.c.varsC,.bool g.c.rp,.string g.c.rto,.int .i64 g.c.rcl,.slice g.c.fromA g.c.nfrom g.c.fromC,.slice g.c.insA g.c.ins.length g.c.insC]
def uO (t:Ty):Value:= .agg #[.bool t.1,.string t.2]
theorem jL:∀(b:Bool)(s:ByteArray)(w:H5),(Instr.field 32 (.agg #[.bool b,.string s]) 0).run prog w= .ok (.bool b) w:=fun b s w=>by kernel_rfl
theorem dX {n:Nat}{v:Int}:isVar n v=true↔0≤v∧v<(n:Int):=by simp[isVar]
theorem dN {w:H5}{A:Option Addr}{vs:List Vr}(hr:aG Vr.cells 3 w w.heap.size A vs){v:Int}(hv:isVar vs.length v=true):
  ∃(k b off:Nat) (x:Vr),v=(k:Int)∧k<vs.length∧A=some ⟨b,off,none⟩∧b<w.heap.size∧ax vs v=(x.ptr,x.tgt)∧w.cell? ⟨b,off+k*3,none⟩=some (.bool x.ptr)∧w.cell? ⟨b,off+k*3+1,none⟩=some (.string x.tgt):=by
 obtain⟨h0,h1⟩:=dX.1 hv;obtain⟨k,rfl⟩:∃k:Nat,v=(k:Int):=⟨v.toNat,by omega⟩
 have hk:k<vs.length:=by omega
 obtain⟨x,hx⟩:∃x,vs[k]?=some x:=⟨_,GN hk⟩
 obtain⟨b,off,hA,hb,hc⟩:=hr (by intro e;rw[e] at hk;simp at hk);refine⟨k,b,off,x,rfl,hk,hA,hb, ?_,hc k x hx 0 _ rfl,hc k x hx 1 _ rfl⟩;unfold ax;rw[Ho,hx];rfl
theorem gG (m:Mo)(g:Fn)(v:Int)(w:H5)(hr:aG Vr.cells 3 w w.heap.size g.c.varsA g.vs)(hn:g.c.nvars=g.vs.length)(_:g.vs.length≤maxLen)(hv:isVar g.vs.length v=true):
  zP 188 #[.agg (jg m g),.int .i64 v] w (uO (ax g.vs v)):=by
 obtain⟨k,b,off,x,rfl,hk,hA,hb,ht,q0,q1⟩:=dN hr hv;have hkI:(k:Int)<(g.vs.length:Int):=by omega
 rw[ht];unfold uO jg;rw[hA,hn];clear hr hv ht hA hn;go_enter func188,ntmps188;go_wp2
 go_returns
 exact⟨rfl,((Hw _ _).alloc (He _) _).alloc (by simp) _⟩
theorem gH (m:Mo)(g:Fn)(v:Int)(w:H5):zP 186 #[.agg (jg m g),.int .i64 v] w (.bool (isVar g.c.ins.length v)):=by
 unfold jg
 by_cases h:0≤v
 ·have HE:Ia (decide (v<(g.c.ins.length:Int))=isVar g.c.ins.length v):=by
   unfold Ia isVar;rw[decide_eq_true h];rfl
  go_enter func186,ntmps186;go_wp2;go_ret;rw[←HE.out];exact⟨rfl,(Hw _ _).alloc (He _) _⟩
 ·have HE:Ia (false=isVar g.c.ins.length v):=by
   unfold Ia isVar;rw[decide_eq_false h];rfl
  go_enter func186,ntmps186;go_wp2;go_ret;rw[←HE.out];exact⟨rfl,(Hw _ _).alloc (He _) _⟩
theorem wO (m:Mo)(g:Fn)(B:Nat)(v:Int)(w:H5)(hB:w.heap[B]?=some (.cells (jg m g) 184 (0,0)))(hn:g.c.nvars=g.vs.length):
  zS 224 #[.int .i64 v,.pointer (some ⟨B,0,none⟩)] w (.bool (!isVar g.vs.length v)):=by
 have q:w.cell? ⟨B,4,none⟩=some (.slice g.c.varsA g.vs.length g.c.varsC):=by rw[cell_of_row _ _ _ _ _ _ hB,←hn];rfl
 clear hB hn
 by_cases h:v<0
 ·have HE:Ia (true= !isVar g.vs.length v):=by
   unfold Ia isVar;rw[decide_eq_false (by omega)];rfl
  go_enter func224,ntmps224;go_wp2;go_ret;rw[←HE.out];exact⟨rfl,rfl⟩
 ·have HE:Ia (decide ((g.vs.length:Int)≤v)= !isVar g.vs.length v):=by
   unfold Ia isVar;rw[Bool.eq_iff_iff];simp;omega
  go_enter func224,ntmps224;go_wp2;go_ret;rw[←HE.out];exact⟨rfl,rfl⟩
theorem qO (m:Mo)(g:Fn)(B:Nat)(v:Int)(w:H5)(hB:w.heap[B]?=some (.cells (jg m g) 184 (0,0)))(hr:aG Vr.cells 3 w w.heap.size g.c.varsA g.vs)(hn:g.c.nvars=g.vs.length)(hl:g.vs.length≤maxLen)(hv:isVar g.vs.length v=true):
  zP 225 #[.int .i64 v,.pointer (some ⟨B,0,none⟩)] w (.bool (ax g.vs v).1):=by
 have HT:=zH (gG m g v w hr hn hl hv);unfold uO at HT;have HB:=zH hB;have hfld:=jL;have hBlt:=(GR.1 hB).1;clear hB hr hv hn hl;go_enter func225,ntmps225
 go_wp2_with (first
  |(refine wpList_load_row rfl 184 _ rfl B rfl 184 (jg m g) (0,0) _ HB.out underlying184 rfl (by kernel_rfl) ?_)
  |(go_at_call 188;refine HT.out.mono ?_;rintro e w2 ⟨rfl,hb⟩;have HB2:=zH hb;clear hb))
 go_ret;exact⟨rfl,HB2.out⟩
theorem iH {α:Type}{p:α→Bool}{xs:List α}{j:Nat}{y:α}(hz:∀z∈xs.take j,p z=false)(hy:xs[j]?=some y)(hp:p y=true):fZ p xs=(j:Int):=by
 obtain⟨hj,e⟩:=GQ.1 hy;have h:xs.findIdx p=j:=(List.findIdx_eq hj).2 ⟨by rw[e];exact hp,fun i hi=>by
  have:=hz xs[i] (by rw[List.mem_take_iff_getElem];exact⟨i,by omega,rfl⟩);simpa using this⟩
 unfold fZ;rw[h,if_pos hj]
theorem fI {α:Type}{p:α→Bool}{xs:List α}(hz:∀z∈xs,p z=false):fZ p xs= -1:=by
 have h:xs.findIdx p=xs.length:=List.findIdx_eq_length.2 (by simpa using hz);unfold fZ;rw[h,if_neg (by omega)]
theorem nz {α:Type}{p:α→Bool}{xs:List α}:decide (0≤fZ p xs)=xs.any p:=by
 unfold fZ
 by_cases h:xs.findIdx p<xs.length
 ·rw[if_pos h,decide_eq_true (by omega)]
  obtain⟨x,hx,hp⟩:=List.findIdx_lt_length.1 h;exact(List.any_eq_true.2 ⟨x,hx,hp⟩).symm
 ·rw[if_neg h]
  have h2:=(List.findIdx_eq_length (p:=p) (xs:=xs)).1 (by have:=List.findIdx_le_length (p:=p) (xs:=xs);omega);symm;rw[decide_eq_false (by omega),List.any_eq_false];intro x hx;have:=h2 x hx;simpa using this
theorem dE {α:Type}{p:α→Bool}{xs:List α}{j:Nat}{y:α}(hz:∀z∈xs.take j,p z=false)(hy:xs[j]?=some y)(hp:p y=false):∀z∈xs.take (j+1),p z=false:=dx (p:=fun z=>p z=false) hz hy hp
theorem tq (w:H5)(ao:Option Addr)(xs:List Int)(c B:Nat)(p:Int→Bool)(hn:xs.length≤maxLen)(h:ak w ao xs)
  (hf:∀W,H9 w.heap.size w W→∀z∈xs,zP 224 #[.int .i64 z,.pointer (some ⟨B,0,none⟩)] W (.bool (p z))):
  zP 152 #[.slice ao xs.length c,.func (.func 224) #[] #[.pointer (some ⟨B,0,none⟩)]] w (.int .i64 (fZ p xs)):=by
 have H:=zH h;have HF:=zH hf;unfold maxLen at hn;clear h hf;go_enter func152,ntmps152
 go_wp2_with fail
 go_loopw [8] (fun k wr=>∃j:Nat,j≤xs.length∧k= .int .i64 (j:Int)∧(∀z∈xs.take j,p z=false)∧H9 w.heap.size w wr) (fun k _=>xs.length-(intOf k).toNat)
 case atStart=>exact⟨0,Hg _,rfl,by simp,Hw _ _⟩
 case round=>
  obtain⟨j,hj,rfl,hz,hb⟩:=hrel
  by_cases hjl:j<xs.length
  ·obtain⟨y,hy⟩:∃y,xs[j]?=some y:=⟨_,GN hjl⟩
   obtain⟨g1,off,rfl,hg1,q1⟩:=H.out.below hb (by intro e;rw[e] at hjl;simp at hjl);have d1:wr.cell? ⟨g1,off+j,none⟩=some (.int .i64 y):=q1 j y hy;have hjI:(j:Int)<(xs.length:Int):=by omega
   have HC:=zH (HF.out wr hb y (GV hy));obtain⟨d,hd⟩:=zE (p y);rw[hd] at HC;have HB:=zH hb;have HZ:=zH hz;have HY:=zH hy;have HD:=zH hd;clear hb hz hy hd q1;cases d with
   |true=>
    go_wp2_with (go_at_call 224;refine HC.out.mono ?_;rintro e w2 ⟨rfl,hb2⟩;have HB2:=zH hb2;clear hb2)
    go_ret;exact⟨by rw[iH HZ.out HY.out HD.out];rfl,HB.out.trans (HB2.out.mono HB.out.size)⟩
   |false=>
    go_wp2_with (go_at_call 224;refine HC.out.mono ?_;rintro e w2 ⟨rfl,hb2⟩;have HB2:=zH hb2;clear hb2)
    go_roundw
    case rel=>exact⟨j+1,by omega,by go_num,dE HZ.out HY.out HD.out,HB.out.trans (HB2.out.mono HB.out.size)⟩
    case measure=>simp[intOf];omega
  ·have hje:j=xs.length:=by omega
   subst hje;rw[Ha] at hz;have HM:=zH (fI hz);have HB:=zH hb;clear hz hb;go_wp2;go_ret;exact⟨by rw[HM.out];rfl,HB.out⟩
theorem wP (w:H5)(ao:Option Addr)(xs:List Int)(c B:Nat)(p:Int→Bool)(hn:xs.length≤maxLen)(h:ak w ao xs)
  (hf:∀W,H9 w.heap.size w W→∀z∈xs,zP 225 #[.int .i64 z,.pointer (some ⟨B,0,none⟩)] W (.bool (p z))):
  zP 152 #[.slice ao xs.length c,.func (.func 225) #[] #[.pointer (some ⟨B,0,none⟩)]] w (.int .i64 (fZ p xs)):=by
 have H:=zH h;have HF:=zH hf;unfold maxLen at hn;clear h hf;go_enter func152,ntmps152
 go_wp2_with fail
 go_loopw [8] (fun k wr=>∃j:Nat,j≤xs.length∧k= .int .i64 (j:Int)∧(∀z∈xs.take j,p z=false)∧H9 w.heap.size w wr) (fun k _=>xs.length-(intOf k).toNat)
 case atStart=>exact⟨0,Hg _,rfl,by simp,Hw _ _⟩
 case round=>
  obtain⟨j,hj,rfl,hz,hb⟩:=hrel
  by_cases hjl:j<xs.length
  ·obtain⟨y,hy⟩:∃y,xs[j]?=some y:=⟨_,GN hjl⟩
   obtain⟨g1,off,rfl,hg1,q1⟩:=H.out.below hb (by intro e;rw[e] at hjl;simp at hjl);have d1:wr.cell? ⟨g1,off+j,none⟩=some (.int .i64 y):=q1 j y hy;have hjI:(j:Int)<(xs.length:Int):=by omega
   have HC:=zH (HF.out wr hb y (GV hy));obtain⟨d,hd⟩:=zE (p y);rw[hd] at HC;have HB:=zH hb;have HZ:=zH hz;have HY:=zH hy;have HD:=zH hd;clear hb hz hy hd q1;cases d with
   |true=>
    go_wp2_with (go_at_call 225;refine HC.out.mono ?_;rintro e w2 ⟨rfl,hb2⟩;have HB2:=zH hb2;clear hb2)
    go_ret;exact⟨by rw[iH HZ.out HY.out HD.out];rfl,HB.out.trans (HB2.out.mono HB.out.size)⟩
   |false=>
    go_wp2_with (go_at_call 225;refine HC.out.mono ?_;rintro e w2 ⟨rfl,hb2⟩;have HB2:=zH hb2;clear hb2)
    go_roundw
    case rel=>exact⟨j+1,by omega,by go_num,dE HZ.out HY.out HD.out,HB.out.trans (HB2.out.mono HB.out.size)⟩
    case measure=>simp[intOf];omega
  ·have hje:j=xs.length:=by omega
   subst hje;rw[Ha] at hz;have HM:=zH (fI hz);have HB:=zH hb;clear hz hb;go_wp2;go_ret;exact⟨by rw[HM.out];rfl,HB.out⟩
theorem yF (xs:List Int)(p:Int→Bool):(!(xs.any p))=xs.all fun v=> !p v:=by
 induction xs with
 |nil=>rfl
 |cons x r ih=>simp[Bool.not_or,ih]
theorem yG {xs:List Int}{p:Int→Bool}:(xs.any fun v=> !p v)= !xs.all p:=by
 induction xs with
 |nil=>rfl
 |cons x r ih=>simp[ih,Bool.not_and]
theorem pE (m:Mo)(g:Fn)(ao:Option Addr)(xs:List Int)(c:Nat)(w:H5)(hn:g.c.nvars=g.vs.length)(hl:xs.length≤maxLen)(h:ak w ao xs):
  zP 184 #[.agg (jg m g),.slice ao xs.length c] w (.bool (aI g.vs.length xs)):=by
 obtain⟨N,hN⟩:=zE w.heap.size;have HCF:Ia (zP 116 #[.slice ao xs.length c,.func (.func 224) #[] #[.pointer (some ⟨N,0,none⟩)]] (w.alloc (.cells (jg m g) 184)) (.bool (!aI g.vs.length xs))):=by
  have HIX:=zH (tq (w.alloc (.cells (jg m g) 184)) ao xs c N (fun v=> !isVar g.vs.length v) hl (h.below ((Hw _ _).alloc (He _) _)) (fun W hW z _=>by
   have hB:W.heap[N]?=some (.cells (jg m g) 184 (0,0)):=by
    rw[hW.block N (by simp[hN]),←hN];exact alloc_at _ _
   refine(wO m g N z W hB hn).mono ?_;rintro e w' ⟨rfl,rfl⟩;exact⟨rfl,Hw _ _⟩))
  have HE:Ia (decide (0≤fZ (fun v=> !isVar g.vs.length v) xs)= !aI g.vs.length xs):=by
   unfold Ia aI;rw[nz,yG]
  obtain⟨W1,hW1⟩:=zE (w.alloc (.cells (jg m g) 184));rw[hW1] at HIX⊢;obtain⟨z,hz⟩:=zE (fZ (fun v=> !isVar g.vs.length v) xs);rw[hz] at HIX HE;clear hW1 h hz;go_enter func116,ntmps116
  go_wp2_with (go_at_call 152;refine HIX.out.mono ?_;rintro e w2 ⟨rfl,hb2⟩;have HB2:=zH hb2;clear hb2)
  go_ret;rw[←HE.out];exact⟨rfl,HB2.out⟩
 clear h hn;obtain⟨W1,hW1⟩:=zE (w.alloc (.cells (jg m g) 184));have HW1:=zH hW1;have HBW:Ia (H9 N w W1):=by rw[←hW1,←hN];exact(Hw _ _).alloc (He _) _
 rw[hW1] at HCF;obtain⟨J,hJ⟩:=zE (jg m g);rw[hJ] at hW1⊢;clear hJ HW1;obtain⟨d,hd⟩:=zE (aI g.vs.length xs);rw[hd] at HCF⊢;clear hd;go_enter func184,ntmps184
 go_wp2_with (go_at_call 116;refine HCF.out.mono ?_;rintro e w2 ⟨rfl,hb2⟩;have HB2:=zH hb2;clear hb2)
 go_ret;exact⟨by cases d<;>rfl,by rw[hN];exact HBW.out.trans (HB2.out.mono (by have:=HBW.out.size;omega))⟩
theorem cB (m:Mo)(g:Fn)(ao:Option Addr)(xs:List Int)(c:Nat)(w:H5)(hr:aG Vr.cells 3 w w.heap.size g.c.varsA g.vs)(hn:g.c.nvars=g.vs.length)(hlv:g.vs.length≤maxLen)(hl:xs.length≤maxLen)(h:ak w ao xs)(hx:∀z∈xs,isVar g.vs.length z=true):
  zP 187 #[.agg (jg m g),.slice ao xs.length c] w (.int .i64 (dR g.vs xs)):=by
 obtain⟨N,hN⟩:=zE w.heap.size;have HCF:Ia (zP 116 #[.slice ao xs.length c,.func (.func 225) #[] #[.pointer (some ⟨N,0,none⟩)]] (w.alloc (.cells (jg m g) 184)) (.bool (xs.any fun v=>(ax g.vs v).1))):=by
  have hb0:H9 w.heap.size w (w.alloc (.cells (jg m g) 184)):=(Hw _ _).alloc (He _) _;have HIX:=zH (wP (w.alloc (.cells (jg m g) 184)) ao xs c N (fun v=>(ax g.vs v).1) hl (h.below hb0) (fun W hW z hz=>by
   have hB:W.heap[N]?=some (.cells (jg m g) 184 (0,0)):=by
    rw[hW.block N (by simp[hN]),←hN];exact alloc_at _ _
   exact qO m g N z W hB ((hr.grow hb0).grow hW) hn hlv (hx z hz)))
  have HE:Ia (decide (0≤fZ (fun v=>(ax g.vs v).1) xs)=(xs.any fun v=>(ax g.vs v).1)):=nz;obtain⟨W1,hW1⟩:=zE (w.alloc (.cells (jg m g) 184));rw[hW1] at HIX⊢;obtain⟨z,hz⟩:=zE (fZ (fun v=>(ax g.vs v).1) xs);rw[hz] at HIX HE;obtain⟨d,hd⟩:=zE (xs.any fun v=>(ax g.vs v).1);rw[hd] at HE⊢;clear hW1 h hz hb0 hd hr hx;go_enter func116,ntmps116
  go_wp2_with (go_at_call 152;refine HIX.out.mono ?_;rintro e w2 ⟨rfl,hb2⟩;have HB2:=zH hb2;clear hb2)
  go_ret;rw[←HE.out];exact⟨rfl,HB2.out⟩
 clear h hn hr hx;have HE:Ia (bM (!(xs.any fun v=>(ax g.vs v).1)) 7=dR g.vs xs):=by
  unfold Ia dR;congr 1;exact yF xs _
 obtain⟨W1,hW1⟩:=zE (w.alloc (.cells (jg m g) 184));have HBW:Ia (H9 N w W1):=by rw[←hW1,←hN];exact(Hw _ _).alloc (He _) _
 rw[hW1] at HCF;obtain⟨J,hJ⟩:=zE (jg m g);rw[hJ] at hW1⊢;clear hJ;obtain⟨d,hd⟩:=zE (xs.any fun v=>(ax g.vs v).1);rw[hd] at HCF HE;clear hd;go_enter func187,ntmps187
 go_wp2_with (first
  |(go_at_call 116;refine HCF.out.mono ?_;rintro e w2 ⟨rfl,hb2⟩;have HB2:=zH hb2;clear hb2)
  |(go_at_call 99;refine(aB _ _ _).mono ?_;rintro e w3 ⟨rfl,rfl⟩))
 go_ret;exact⟨by rw[←HE.out];cases d<;>rfl,by rw[hN];exact HBW.out.trans (HB2.out.mono (by have:=HBW.out.size;omega))⟩
def aQ (w:H5)(ao:Option Addr)(xs:List ByteArray):Prop:=
 xs≠[]→∃g off,ao=some ⟨g,off,none⟩∧g<w.heap.size∧∀i z,xs[i]?=some z→w.cell? ⟨g,off+i,none⟩=some (.string z)
theorem aQ.below {w w':H5}{ao:Option Addr}{xs:List ByteArray}(h:aQ w ao xs)(hb:H9 w.heap.size w w'):aQ w' ao xs:=by
 intro hne;obtain⟨g,off,e,hg,hc⟩:=h hne;exact⟨g,off,e,Hd hg hb.size,fun i z hz=>by rw[hb.cell (p:=⟨g,_,none⟩) hg];exact hc i z hz⟩
theorem qP (w:H5)(c:Nat)(ao:Option Addr)(xs:List ByteArray)(z:ByteArray)(hn:xs.length≤maxLen)(h:aQ w ao xs):
  zS 270 #[.slice ao xs.length c,.string z] w (.int .i64 (fZ (fun x=>z==x) xs)):=by
 have H:=zH h;unfold maxLen at hn;clear h;go_enter func270,ntmps270
 go_wp2_with fail
 go_loop [8] (fun k=>∃j:Nat,j≤xs.length∧k= .int .i64 (j:Int)∧∀x∈xs.take j,(z==x)=false) (fun k=>xs.length-(intOf k).toNat)
 case atStart=>exact⟨0,Hg _,rfl,by simp⟩
 case round=>
  obtain⟨j,hj,rfl,hz⟩:=hrel
  by_cases hjl:j<xs.length
  ·obtain⟨y,hy⟩:∃y,xs[j]?=some y:=⟨_,GN hjl⟩
   obtain⟨g1,off,rfl,hg1,q1⟩:=H.out (by intro e;rw[e] at hjl;simp at hjl);have d1:w.cell? ⟨g1,off+j,none⟩=some (.string y):=q1 j y hy;have hjI:(j:Int)<(xs.length:Int):=by omega
   obtain⟨d,hd0⟩:=zE (z==y);have hd:(z.toList==y.toList)=d:=by rw[←beq_toListBytes];exact hd0
   have HZ:=zH hz;have HY:=zH hy;have HD:=zH hd0;clear hy q1 hz hd0;cases d with
   |true=>
    go_wp2;go_ret;exact⟨by rw[iH HZ.out HY.out HD.out];rfl,rfl⟩
   |false=>
    go_wp2
    go_round
    case rel=>exact⟨j+1,by omega,by go_num,dE (p:=fun x=>z==x) HZ.out HY.out HD.out⟩
    case measure=>simp[intOf];omega
  ·have hje:j=xs.length:=by omega
   subst hje;rw[Ha] at hz;have HM:=zH (fI (p:=fun x=>z==x) hz);clear hz;go_wp2;go_ret;exact⟨by rw[HM.out];rfl,rfl⟩
theorem nA (f:Int)(s:ByteArray)(xs:List ByteArray)(ao:Option Addr)(c:Nat)(w:H5)(hn:xs.length≤maxLen)(h:aQ w ao xs):
  zS 226 #[.int .i64 f,.string s,.slice ao xs.length c] w (.int .i64 (d9 f s xs)):=by
 by_cases hf:f=0
 ·subst hf
  have HC:Ia (zS 252 #[.slice ao xs.length c,.string s] w (.bool (xs.any fun x=>x==s))):=by
   have HI:=zH (qP w c ao xs s hn h);have HE:Ia (decide (0≤fZ (fun x=>s==x) xs)=(xs.any fun x=>x==s)):=by
    unfold Ia;rw[nz];congr 1;funext x;exact BEq.comm
   obtain⟨z,hz⟩:=zE (fZ (fun x=>s==x) xs);rw[hz] at HI HE;clear h hz;go_enter func252,ntmps252
   go_wp2_with (go_at_call 270;refine HI.out.mono ?_;rintro e w2 ⟨rfl,rfl⟩)
   go_ret;rw[←HE.out];exact⟨rfl,rfl⟩
  have HE:Ia (bM (xs.any fun x=>x==s) 3=d9 0 s xs):=rfl;obtain⟨d,hd⟩:=zE (xs.any fun x=>x==s);rw[hd] at HC HE;clear h hd;go_enter func226,ntmps226
  go_wp2_with (first
   |(go_at_call 252;refine HC.out.mono ?_;rintro e w2 ⟨rfl,rfl⟩)
   |(go_at_call 99;refine(aB _ _ _).mono ?_;rintro e w3 ⟨rfl,rfl⟩))
  go_ret;exact⟨by rw[←HE.out];rfl,rfl⟩
 ·have HE:Ia (d9 f s xs=f):=if_pos hf
  have hb:(f==0)=false:=by rw[beq_eq_false_iff_ne];exact hf
  clear hf h;go_enter func226,ntmps226;go_wp2;go_ret;exact⟨by rw[HE.out];rfl,rfl⟩
theorem yH (f:Fn)(B:Nat)(nm:ByteArray)(w:H5)(hB:w.heap[B]?=some (.cells #[.string nm] 9 (0,0))):
  zP 138 #[.agg f.cells,.pointer (some ⟨B,0,none⟩)] w (.bool (f.c.nm==nm)):=by
 have q:=zR hB 0 (.string nm);have hBl:=(GR.1 hB).1;have HE:Ia ((f.c.nm.toList==nm.toList)=(f.c.nm==nm)):=(beq_toListBytes _ _).symm;simp only[Fn.cells,dQ.cells];clear hB;go_enter func138,ntmps138;go_wp2;go_ret;rw[←HE.out];exact⟨rfl,(Hw _ _).alloc (He _) _⟩
theorem AP (w:H5)(ao:Option Addr)(xs:List Fn)(c B:Nat)(nm:ByteArray)(hn:xs.length≤maxLen)(h:aG Fn.cells 8 w w.heap.size ao xs)(hB:w.heap[B]?=some (.cells #[.string nm] 9 (0,0))):
  zP 137 #[.slice ao xs.length c,.func (.func 138) #[] #[.pointer (some ⟨B,0,none⟩)]] w (.int .i64 (fZ (fun f=>f.c.nm==nm) xs)):=by
 have H:=zH h;have HBB:=zH hB;unfold maxLen at hn;have hBl:=(GR.1 hB).1;clear h hB;go_enter func137,ntmps137
 go_wp2_with fail
 go_loopw [8] (fun k wr=>∃j:Nat,j≤xs.length∧k= .int .i64 (j:Int)∧(∀f∈xs.take j,(f.c.nm==nm)=false)∧H9 w.heap.size w wr) (fun k _=>xs.length-(intOf k).toNat)
 case atStart=>exact⟨0,Hg _,rfl,by simp,Hw _ _⟩
 case round=>
  obtain⟨j,hj,rfl,hz,hb⟩:=hrel
  by_cases hjl:j<xs.length
  ·obtain⟨f,hy⟩:∃y,xs[j]?=some y:=⟨_,GN hjl⟩
   obtain⟨g1,off,rfl,hg1,q1⟩:=(H.out.grow hb) (by intro e;rw[e] at hjl;simp at hjl)
   have HCA:Ia (∀k u,f.cells.toList[k]?=some u→wr.cell? ((⟨g1,off+j*8,none⟩:Addr).add k)=some u):=fun k u hu=>by rw[Addr.add_lit];exact q1 j f hy k u hu
   have d0:wr.cell? ⟨g1,off+j*8,none⟩=some (.string f.c.nm):=q1 j f hy 0 _ rfl;have hjI:(j:Int)<(xs.length:Int):=by omega
   have HC:=zH (yH f B nm wr ((hb.block B hBl).trans HBB.out));obtain⟨d,hd⟩:=zE (f.c.nm==nm);rw[hd] at HC;have HB:=zH hb;have HZ:=zH hz;have HY:=zH hy;have HD:=zH hd;clear hb hz hy hd q1;cases d with
   |true=>
    go_wp2_with (first
     |(refine ay rfl 38 _ rfl ⟨g1,off+j*8,none⟩ rfl f.cells _ HCA.out underlying38 rfl (by kernel_rfl) ?_)
     |(go_at_call 138;refine HC.out.mono ?_;rintro e w2 ⟨rfl,hb2⟩;have HB2:=zH hb2;clear hb2))
    go_ret;exact⟨by rw[iH (p:=fun f:Fn=>f.c.nm==nm) HZ.out HY.out HD.out];rfl,HB.out.trans (HB2.out.mono HB.out.size)⟩
   |false=>
    go_wp2_with (first
     |(refine ay rfl 38 _ rfl ⟨g1,off+j*8,none⟩ rfl f.cells _ HCA.out underlying38 rfl (by kernel_rfl) ?_)
     |(go_at_call 138;refine HC.out.mono ?_;rintro e w2 ⟨rfl,hb2⟩;have HB2:=zH hb2;clear hb2))
    go_roundw
    case rel=>exact⟨j+1,by omega,by go_num,dE (p:=fun f:Fn=>f.c.nm==nm) HZ.out HY.out HD.out,HB.out.trans (HB2.out.mono HB.out.size)⟩
    case measure=>simp[intOf];omega
  ·have hje:j=xs.length:=by omega
   subst hje;rw[Ha] at hz;have HM:=zH (fI (p:=fun f:Fn=>f.c.nm==nm) hz);have HB:=zH hb;clear hz hb;go_wp2;go_ret;exact⟨by rw[HM.out];rfl,HB.out⟩
theorem yI (m:Mo)(nm:ByteArray)(w:H5)(hn:m.fs.length≤maxLen)(h:aG Fn.cells 8 w w.heap.size m.fA m.fs):
  zP 98 #[.agg m.cells,.string nm] w (.int .i64 (m.fnIx nm)):=by
 obtain⟨N,hN⟩:=zE w.heap.size;have HIX:Ia (Calls prog 137 #[.slice m.fA m.fs.length m.fC,.func (.func 138) #[] #[.pointer (some ⟨N+1,0,none⟩)]] ((w.alloc (.cells m.cells 25)).alloc (.cells #[.string nm] 9)) fun e w'=>e= .returned (.int .i64 (m.fnIx nm))∧H9 N w w'):=by
  have hb:H9 w.heap.size w ((w.alloc (.cells m.cells 25)).alloc (.cells #[.string nm] 9)):=((Hw _ _).alloc (He _) _).alloc (by simp) _;refine(AP _ m.fA m.fs m.fC (N+1) nm hn (h.grow hb) (by subst hN;exact heap_alloc2_new _ _ _)).mono ?_;rintro e w' ⟨rfl,hb'⟩;exact⟨rfl,by rw[←hN];exact hb.trans (hb'.mono hb.size)⟩
 simp only[Mo.cells] at HIX⊢;clear h hn;obtain⟨z,hz⟩:=zE (m.fnIx nm);rw[hz] at HIX⊢;clear hz;go_enter func98,ntmps98
 go_wp2_with (go_at_call 137;(first|refine HIX.out.mono ?_|(rw[hN];refine HIX.out.mono ?_));rintro e w2 ⟨rfl,hb2⟩;have HB2:=zH hb2;clear hb2)
 go_ret;exact⟨rfl,by rw[hN];exact HB2.out⟩
theorem tu (f:St)(B:Nat)(nm:ByteArray)(w:H5)(hB:w.heap[B]?=some (.cells #[.string nm] 9 (0,0))):
  zP 182 #[.agg f.cells,.pointer (some ⟨B,0,none⟩)] w (.bool (f.s.nm==nm)):=by
 have q:=zR hB 0 (.string nm);have hBl:=(GR.1 hB).1;have HE:Ia ((f.s.nm.toList==nm.toList)=(f.s.nm==nm)):=(beq_toListBytes _ _).symm;simp only[St.cells,Dm.cells];clear hB;go_enter func182,ntmps182;go_wp2;go_ret;rw[←HE.out];exact⟨rfl,(Hw _ _).alloc (He _) _⟩
theorem AQ (w:H5)(ao:Option Addr)(xs:List St)(c B:Nat)(nm:ByteArray)(hn:xs.length≤maxLen)(h:aG St.cells 4 w w.heap.size ao xs)(hB:w.heap[B]?=some (.cells #[.string nm] 9 (0,0))):
  zP 181 #[.slice ao xs.length c,.func (.func 182) #[] #[.pointer (some ⟨B,0,none⟩)]] w (.int .i64 (fZ (fun f=>f.s.nm==nm) xs)):=by
 have H:=zH h;have HBB:=zH hB;unfold maxLen at hn;have hBl:=(GR.1 hB).1;clear h hB;go_enter func181,ntmps181
 go_wp2_with fail
 go_loopw [8] (fun k wr=>∃j:Nat,j≤xs.length∧k= .int .i64 (j:Int)∧(∀f∈xs.take j,(f.s.nm==nm)=false)∧H9 w.heap.size w wr) (fun k _=>xs.length-(intOf k).toNat)
 case atStart=>exact⟨0,Hg _,rfl,by simp,Hw _ _⟩
 case round=>
  obtain⟨j,hj,rfl,hz,hb⟩:=hrel
  by_cases hjl:j<xs.length
  ·obtain⟨f,hy⟩:∃y,xs[j]?=some y:=⟨_,GN hjl⟩
   obtain⟨g1,off,rfl,hg1,q1⟩:=(H.out.grow hb) (by intro e;rw[e] at hjl;simp at hjl)
   have HCA:Ia (∀k u,f.cells.toList[k]?=some u→wr.cell? ((⟨g1,off+j*4,none⟩:Addr).add k)=some u):=fun k u hu=>by rw[Addr.add_lit];exact q1 j f hy k u hu
   have d0:wr.cell? ⟨g1,off+j*4,none⟩=some (.string f.s.nm):=q1 j f hy 0 _ rfl;have hjI:(j:Int)<(xs.length:Int):=by omega
   have HC:=zH (tu f B nm wr ((hb.block B hBl).trans HBB.out));obtain⟨d,hd⟩:=zE (f.s.nm==nm);rw[hd] at HC;have HB:=zH hb;have HZ:=zH hz;have HY:=zH hy;have HD:=zH hd;clear hb hz hy hd q1;cases d with
   |true=>
    go_wp2_with (first
     |(refine ay rfl 90 _ rfl ⟨g1,off+j*4,none⟩ rfl f.cells _ HCA.out underlying90 rfl (by kernel_rfl) ?_)
     |(go_at_call 182;refine HC.out.mono ?_;rintro e w2 ⟨rfl,hb2⟩;have HB2:=zH hb2;clear hb2))
    go_ret;exact⟨by rw[iH (p:=fun f:St=>f.s.nm==nm) HZ.out HY.out HD.out];rfl,HB.out.trans (HB2.out.mono HB.out.size)⟩
   |false=>
    go_wp2_with (first
     |(refine ay rfl 90 _ rfl ⟨g1,off+j*4,none⟩ rfl f.cells _ HCA.out underlying90 rfl (by kernel_rfl) ?_)
     |(go_at_call 182;refine HC.out.mono ?_;rintro e w2 ⟨rfl,hb2⟩;have HB2:=zH hb2;clear hb2))
    go_roundw
    case rel=>exact⟨j+1,by omega,by go_num,dE (p:=fun f:St=>f.s.nm==nm) HZ.out HY.out HD.out,HB.out.trans (HB2.out.mono HB.out.size)⟩
    case measure=>simp[intOf];omega
  ·have hje:j=xs.length:=by omega
   subst hje;rw[Ha] at hz;have HM:=zH (fI (p:=fun f:St=>f.s.nm==nm) hz);have HB:=zH hb;clear hz hb;go_wp2;go_ret;exact⟨by rw[HM.out];rfl,HB.out⟩
theorem l9 (m:Mo)(nm:ByteArray)(w:H5)(hn:m.ss.length≤maxLen)(h:aG St.cells 4 w w.heap.size m.sA m.ss):
  zP 135 #[.agg m.cells,.string nm] w (.int .i64 (m.stIx nm)):=by
 obtain⟨N,hN⟩:=zE w.heap.size;have HIX:Ia (Calls prog 181 #[.slice m.sA m.ss.length m.sC,.func (.func 182) #[] #[.pointer (some ⟨N+1,0,none⟩)]] ((w.alloc (.cells m.cells 25)).alloc (.cells #[.string nm] 9)) fun e w'=>e= .returned (.int .i64 (m.stIx nm))∧H9 N w w'):=by
  have hb:H9 w.heap.size w ((w.alloc (.cells m.cells 25)).alloc (.cells #[.string nm] 9)):=((Hw _ _).alloc (He _) _).alloc (by simp) _;refine(AQ _ m.sA m.ss m.sC (N+1) nm hn (h.grow hb) (by subst hN;exact heap_alloc2_new _ _ _)).mono ?_;rintro e w' ⟨rfl,hb'⟩;exact⟨rfl,by rw[←hN];exact hb.trans (hb'.mono hb.size)⟩
 simp only[Mo.cells] at HIX⊢;clear h hn;obtain⟨z,hz⟩:=zE (m.stIx nm);rw[hz] at HIX⊢;clear hz;go_enter func135,ntmps135
 go_wp2_with (go_at_call 181;(first|refine HIX.out.mono ?_|(rw[hN];refine HIX.out.mono ?_));rintro e w2 ⟨rfl,hb2⟩;have HB2:=zH hb2;clear hb2)
 go_ret;exact⟨rfl,by rw[hN];exact HB2.out⟩
structure nC (w:H5)(m:Mo)(g:Fn):Prop where
 mo:m.inn w
 vars:aG Vr.cells 3 w w.heap.size g.c.varsA g.vs
 nv:g.c.nvars=g.vs.length
 vl:g.vs.length≤maxLen
theorem nC.below {w w':H5}{m:Mo}{g:Fn}(h:nC w m g)(hb:H9 w.heap.size w w'):nC w' m g:=⟨h.mo.below hb,h.vars.grow hb,h.nv,h.vl⟩
theorem AR {w:H5}{m:Mo}{g:Fn}(h:m.inn w)(hg:g.inn w):nC w m g:=⟨h,hg.vars,hg.nvars,by have:=hg.code.nvars;rw[hg.nvars] at this;exact this⟩
theorem mG {α:Type}(p:α→Bool)(l:List α):fZ p l= -1∨∃(k:Nat) (x:α),fZ p l=(k:Int)∧l[k]?=some x∧p x=true:=by
 unfold fZ
 by_cases h:l.findIdx p<l.length
 ·rw[if_pos h]
  exact .inr ⟨_,l[l.findIdx p],rfl,GN h,List.findIdx_getElem⟩
 ·rw[if_neg h];exact .inl rfl
theorem yJ {m:Mo}{t:Ty}(h:m.known t=true)(hp:t.1=true):∃(k:Nat) (s:St),m.stIx t.2=(k:Int)∧m.ss[k]?=some s:=by
 unfold Mo.known at h;rw[if_pos hp] at h;have h0:=of_decide_eq_true h;rcases mG (fun s:St=>s.s.nm==t.2) m.ss with e|⟨k,s,e,h1,_⟩
 ·unfold Mo.stIx at h0;omega
 ·exact⟨k,s,e,h1⟩
theorem yK (m:Mo)(g:Fn)(b:Bool)(s:ByteArray)(w:H5)(h:m.inn w):
  zP 96 #[.agg (jg m g),.agg #[.bool b,.string s]] w (.bool (m.known (b,s))):=by
 have HS:Ia (∀W,H9 w.heap.size w W→zP 135 #[.agg m.cells,.string s] W (.int .i64 (m.stIx s))):=
  fun W hW=>l9 m s W h.ns (h.below hW).srow
 clear h;simp only[Mo.cells] at HS;unfold jg;cases b with
 |false=>
  have HE:Ia (s.toList.isEmpty=m.known (false,s)):=by
   unfold Ia Mo.known;rw[if_neg (by simp)]
   show s.toList.isEmpty=(s==ByteArray.empty)
   rw[beq_toListBytes];have e:ByteArray.empty.toList=[]:=by rw[ByteArray.toList_eq];rfl
   rw[e];cases s.toList<;>rfl
  clear HS;go_enter func96,ntmps96;go_wp2;go_ret;rw[←HE.out];exact⟨rfl,((Hw _ _).alloc (He _) _).alloc (by simp) _⟩
 |true=>
  have HE:Ia (decide (0≤m.stIx s)=m.known (true,s)):=rfl;obtain⟨z,hz⟩:=zE (m.stIx s);rw[hz] at HE HS;clear hz;go_enter func96,ntmps96
  go_wp2_with (go_at_call 135;refine(HS.out _ (((Hw _ _).alloc (He _) _).alloc (by simp) _)).mono ?_;rintro e w2 ⟨rfl,hb⟩;have HB2:=zH ((((Hw w.heap.size w).alloc (He _) _).alloc (by simp) _).trans (hb.mono (by simp;omega)));clear hb)
  go_ret;rw[←HE.out];exact⟨rfl,HB2.out⟩
theorem aN {fn:Func}{p u:Tmp}{ty:TypeId}(h:fn.results=#[.cell p ty,.tmp u])(tmps:Array Value)(w:H5)(g:Nat)(t:TypeId)(cs:Array Value)(fr:Nat×Nat)(fs:Array Field)
  (hp:tmps.getD p undef= .pointer (some ⟨g,0,none⟩))(hg:w.heap[g]?=some (.cells cs t fr))
  (hu:prog.underlying ty=some (.struct fs))(hi:(prog.info? ty).map (·.size)=some cs.size):
  (results fn tmps).run prog w= .ok (.tuple #[.agg cs,tmps.getD u undef]) w:=by
 rw[results_cell_tmp h,hp];have e:=run_loadVar_row w g t ty cs fr _ hg hu rfl hi;simp only[asAddr,Sem.run_pure,Result.andThen_ok,e]
theorem dW {W:H5}{b:Nat}{x y u v:Value}{t:TypeId}(h:W.heap[b]?=some (.cells #[x,y] t (0,0))):((W.setCell ⟨b,0,none⟩ u).setCell ⟨b,1,none⟩ v).heap[b]?=some (.cells #[u,v] t (0,0)):=by
 have h1:=Hz W b 0 _ _ u h;have h2:=Hz _ b 1 _ _ v h1;simpa using h2
theorem yL (m:Mo)(g:Fn)(v f:Int)(w:H5)(h:nC w m g)(hv:isVar g.vs.length v=true)(hk:m.known (ax g.vs v)=true):
  zP 253 #[.agg (jg m g),.int .i64 v,.int .i64 f] w (.tuple #[uO (aH m g.vs v f).1,.int .i64 (aH m g.vs v f).2]):=by
 have HT:Ia (∀W,H9 w.heap.size w W→zP 188 #[.agg (jg m g),.int .i64 v] W (uO (ax g.vs v))):=fun W hW=>gG m g v W (h.below hW).vars h.nv h.vl hv;have HS:Ia (∀W s,H9 w.heap.size w W→zP 135 #[.agg m.cells,.string s] W (.int .i64 (m.stIx s))):=
  fun W s hW=>l9 m s W h.mo.ns (h.mo.below hW).srow
 simp only[Mo.cells] at HS;have HF:Ia (aH m g.vs v f=(if (ax g.vs v).1=false then(bF,7) else match m.ss[(m.stIx (ax g.vs v).2).toNat]? with
  |none=>(bF,15)
  |some s=>if f<0 then(bF,15) else match s.fs[f.toNat]? with
   |none=>(bF,15)
   |some x=>(x.ty,0):Ty×Int)):=rfl
 have HJ:=zH h;have HK:=zH hk;obtain⟨⟨b,s⟩,ht⟩:∃t,ax g.vs v=t:=⟨_,rfl⟩
 rw[ht] at HF HT HK;obtain⟨F,hF⟩:=zE (aH m g.vs v f);rw[hF] at HF⊢;unfold uO at HT;clear h hv hk ht hF;have hst:∀(w:H5)(c:Array Value),c.size=2→(storeCells ⟨w.heap.size,0,none⟩ [.bool b,.string s] 0).run prog (w.alloc (.cells c 32))= .ok () (w.alloc (.cells #[.bool b,.string s] 32)):=fun w c hc=>
  run_storeCells_new (P:=prog) w 32 c #[.bool b,.string s] (by show _=some 2;kernel_rfl) hc (by simp[Value.oneCell'])
 obtain⟨N,hN⟩:=zE w.heap.size;obtain⟨W1,hW1⟩:=zE ((w.alloc (.cells (jg m g) 184)).alloc (.cells #[.bool false,.string ⟨#[]⟩] 32));have hb1:=uG hW1 hN;have hs1:W1.heap.size=N+2:=by rw[←hW1];simp[hN]
 have hr1:=xV hW1 hN;have hr2:=zV hW1 hN;have HB1:=zH hb1;have HR1:=zH hr1;have HR2:=zH hr2;have HN:=zH hN;have HS1:=zH hs1;clear hb1 hr1 hr2 hs1;go_enter func253,ntmps253
 go_upto_region 2 with(first
  |(refine wpList_load_row rfl 184 _ rfl N rfl 184 (jg m g) (0,0) _ HR1.out underlying184 rfl (by kernel_rfl) ?_)
  |(go_at_call 188;refine(HT.out _ (by rw[HN.out];exact HB1.out)).mono ?_;rintro e w2 ⟨rfl,hb2⟩;have HB2:=zH hb2;clear hb2))
 obtain⟨T,hT⟩:=zE w2.heap.size;obtain⟨W3,hW3⟩:=zE (w2.alloc (.cells #[.bool b,.string s] 32));rw[hT,hW3];have hb13:=zD hW3 HB2;have hTN:N+2≤T:=by rw[←hT,←HS1.out];exact HB2.out.size
 have hs3:W3.heap.size=T+1:=by rw[←hW3,←hT];simp
 have hr3:W3.heap[N]?=some (.cells (jg m g) 184 (0,0)):=(hb13.block N (by have:=HS1.out;omega)).trans HR1.out;have hr4:W3.heap[N+1]?=some (.cells #[.bool false,.string ⟨#[]⟩] 32 (0,0)):=(hb13.block (N+1) (by have:=HS1.out;omega)).trans HR2.out;have hr5:W3.heap[T]?=some (.cells #[.bool b,.string s] 32 (0,0)):=by rw[←hW3,←hT];exact alloc_at _ _
 have HB3:Ia (H9 N w W3):=HB1.out.trans (hb13.mono (by have:=HS1.out;omega));have HKEEP:Ia (∀W,H9 W3.heap.size W3 W→W.cell? ⟨N,0,none⟩=some (.slice m.sA m.ss.length m.sC)∧W.cell? ⟨N,1,none⟩=some (.slice m.fA m.fs.length m.fC)∧W.cell? ⟨T,0,none⟩=some (.bool b)∧W.cell? ⟨T,1,none⟩=some (.string s)∧
   W.cell? ⟨N+1,0,none⟩=some (.bool false)∧W.cell? ⟨N+1,1,none⟩=some (.string ⟨#[]⟩)∧W.frozen? ⟨N+1,0,none⟩=false∧W.frozen? ⟨N+1,1,none⟩=false∧N+1<W.heap.size):=by
  intro W hW;have q3:=(hW.block N (by omega)).trans hr3;have q4:=(hW.block (N+1) (by omega)).trans hr4;have q5:=(hW.block T (by omega)).trans hr5;refine⟨?_, ?_, ?_, ?_, ?_, ?_, ?_, ?_,(GR.1 q4).1⟩
  ·rw[cell_of_row _ _ _ _ _ _ q3];rfl
  ·rw[cell_of_row _ _ _ _ _ _ q3];rfl
  ·rw[cell_of_row _ _ _ _ _ _ q5];rfl
  ·rw[cell_of_row _ _ _ _ _ _ q5];rfl
  ·rw[cell_of_row _ _ _ _ _ _ q4];rfl
  ·rw[cell_of_row _ _ _ _ _ _ q4];rfl
  ·exact frozen_of_row _ _ _ _ _ q4
  ·exact frozen_of_row _ _ _ _ _ q4
 have HR4:Ia (∀W,H9 W3.heap.size W3 W→W.heap[N+1]?=some (.cells #[.bool false,.string ⟨#[]⟩] 32 (0,0))):=fun W hW=>(hW.block (N+1) (by omega)).trans hr4;obtain⟨k0,k1,k2,k3,k4,k5,k6,k7,hN1⟩:=HKEEP.out W3 (Hw _ _);clear hst hW1 hW3 hb13 hr3 hr4 hr5 HR1 HR2 HT hT HB2 hN HS1;cases b with
 |false=>
  have HFF:Ia (F=(bF,7)):=by rw[HF.out];rfl
  clear HF;go_wp2;(try simp only[Exit.inBlock,Exit.then]);refine bodyPost_ret (aN rfl _ _ (N+1) 32 _ (0,0) _ rfl (dW (HR4.out W3 (Hw _ _))) underlying32 (by kernel_rfl)) rfl ?_;rw[HFF.out,HN.out];exact⟨rfl,(HB3.out.setCell (by show N≤N+1;omega) _).setCell (by show N≤N+1;omega) _⟩
 |true=>
  obtain⟨k,st,hk1,hk2⟩:=yJ HK.out rfl;obtain⟨b0,off,hA,hb0,hc0⟩:=HJ.out.mo.srow (by intro e;rw[e] at hk2;simp at hk2);have hkl:=(GQ.1 hk2).1;have hkI:(k:Int)<(m.ss.length:Int):=by omega
  have hb0N:b0<N:=by have:=HN.out;omega
  have hD:∀W,H9 W3.heap.size W3 W→W.cell? ⟨b0,off+k*4+1,none⟩=some (.slice st.s.fA st.fs.length st.s.fC):=fun W hW=>by
   rw[(HB3.out.trans (hW.mono (by omega))).cell (p:=⟨b0,_,none⟩) hb0N];have:=hc0 k st hk2 1 _ rfl;rw[(HJ.out.mo.sin st (GV hk2)).nf] at this;exact this
  have HD:=zH hD;have hd:=hD W3 (Hw _ _);have HSC:Ia (∀W,H9 W3.heap.size W3 W→zP 135 #[.agg #[.slice (some ⟨b0,off,none⟩) m.ss.length m.sC,.slice m.fA m.fs.length m.fC],.string s] W (.int .i64 (k:Int))):=by
   intro W hW;have:=HS.out W s (by rw[HN.out];exact HB3.out.trans (hW.mono (by omega)));rw[hk1,hA] at this;exact this
  have HFS:Ia (F=(if f<0 then(bF,15) else match st.fs[f.toNat]? with
   |none=>(bF,15)
   |some x=>(x.ty,0):Ty×Int)):=by
   unfold Ia;rw[HF.out,if_neg (by decide)]
   show(match m.ss[(m.stIx s).toNat]? with
    |none=>(bF,15)
    |some s=>if f<0 then(bF,15) else match s.fs[f.toNat]? with
     |none=>(bF,15)
     |some x=>(x.ty,0):Ty×Int)=_
   rw[hk1,Ho,hk2]
  have HIN:Ia (st.inn w):=HJ.out.mo.sin st (GV hk2);have HK2:=zH hk2;rw[hA] at k0 HKEEP;clear HF HK hk1 hk2 hA hb0 hc0 hD HJ HS;go_wp2
  go_region_held3 (fun w'=>w'.cell? ⟨N,0,none⟩=some (.slice (some ⟨b0,off,none⟩) m.ss.length m.sC)∧w'.cell? ⟨N,1,none⟩=some (.slice m.fA m.fs.length m.fC)∧w'.cell? ⟨T,0,none⟩=some (.bool true)∧w'.cell? ⟨T,1,none⟩=some (.string s)∧w'.cell? ⟨b0,off+k*4+1,none⟩=some (.slice st.s.fA st.fs.length st.s.fC)∧H9 W3.heap.size W3 w')
   (first|(exact hS)|(exact⟨k0,k1,k2,k3,hd,below_drewN (Hw _ _) 1⟩))
   (first
    |(go_at_call 135;refine(HSC.out _ (by go_split_ands;assumption)).mono ?_;rintro e w11 ⟨rfl,hb11⟩;have hbb:=(below_drewN (Hw W3.heap.size W3) 1).trans hb11;have hS:=(let h:=HKEEP.out _ hbb;(⟨h.1,h.2.1,h.2.2.1,h.2.2.2.1,HD.out _ hbb,hbb⟩:_∧_∧_∧_∧_∧_))))
  obtain⟨_,_,_,_,j4,j5,j6,j7,hN2⟩:=HKEEP.out w11 hbb;have hr11:=HR4.out w11 hbb;have HB11:Ia (H9 N w w11):=HB3.out.trans (hbb.mono (by omega));have HR11:=zH hr11;clear hS hbb hb11 k0 k1 k2 k3 k4 k5 k6 k7 hd HKEEP HR4 HSC HD hr11
  by_cases hf0:f<0
  ·have HFF:Ia (F=(bF,15)):=by unfold Ia;rw[HFS.out,if_pos hf0]
   clear HFS;go_wp2;(try simp only[Exit.inBlock,Exit.then]);refine bodyPost_ret (aN rfl _ _ (N+1) 32 _ (0,0) _ rfl (dW HR11.out) underlying32 (by kernel_rfl)) rfl ?_;rw[HFF.out,HN.out];exact⟨rfl,(HB11.out.setCell (by show N≤N+1;omega) _).setCell (by show N≤N+1;omega) _⟩
  obtain⟨q,rfl⟩:∃q:Nat,f=(q:Int):=⟨f.toNat,by omega⟩
  rw[if_neg hf0,Ho] at HFS
  by_cases hfl:q<st.fs.length
  ·obtain⟨x,hx⟩:∃x,st.fs[q]?=some x:=⟨_,GN hfl⟩
   have HFF:Ia (F=(x.ty,0)):=by unfold Ia;rw[HFS.out,hx]
   obtain⟨b1,off1,hA1,hb1,hc1⟩:=HIN.out.row (by intro e;rw[e] at hfl;simp at hfl);have hb1N:b1<N:=by have:=HN.out;omega
   have e1:w11.cell? ⟨b1,off1+q*5+1,none⟩=some (.bool x.ptr):=by rw[HB11.out.cell (p:=⟨b1,_,none⟩) hb1N];exact hc1 q x hx 1 _ rfl
   have e2:w11.cell? ⟨b1,off1+q*5+2,none⟩=some (.string x.tgt):=by rw[HB11.out.cell (p:=⟨b1,_,none⟩) hb1N];exact hc1 q x hx 2 _ rfl
   have hqI:(q:Int)<(st.fs.length:Int):=by omega
   rw[hA1];clear HFS hx hc1 hb1 hA1 hf0 hfl;go_wp2;(try simp only[Exit.inBlock,Exit.then]);refine bodyPost_ret (aN rfl _ _ (N+1) 32 _ (0,0) _ rfl (dW HR11.out) underlying32 (by kernel_rfl)) rfl ?_;rw[HFF.out,HN.out];exact⟨rfl,(HB11.out.setCell (by show N≤N+1;omega) _).setCell (by show N≤N+1;omega) _⟩
  ·have HFF:Ia (F=(bF,15)):=by unfold Ia;rw[HFS.out,List.getElem?_eq_none (by omega)]
   have hqI:¬(q:Int)<(st.fs.length:Int):=by omega
   clear HFS hf0 hfl;go_wp2;(try simp only[Exit.inBlock,Exit.then]);refine bodyPost_ret (aN rfl _ _ (N+1) 32 _ (0,0) _ rfl (dW HR11.out) underlying32 (by kernel_rfl)) rfl ?_;rw[HFF.out,HN.out];exact⟨rfl,(HB11.out.setCell (by show N≤N+1;omega) _).setCell (by show N≤N+1;omega) _⟩
theorem dC (a b:Bool)(s t:ByteArray)(w:H5):(Op.equalIn 10000 32 (.agg #[.bool a,.string s]) (.agg #[.bool b,.string t])).run prog w= .ok (((a,s):Ty)==(b,t)) w:=by
 have hS:prog.underlying 32=some (.struct (prog.fieldsOf 32)):=by kernel_rfl
 have hp:prog.stoodInHeld 32=false:=by kernel_rfl
 rw[show(10000:Nat)=9999+1 from rfl,run_equalIn_agg w 9999 32 _ _ hS hp];simp only[Program.fieldsOf,underlying32];have e:(((a,s):Ty)==(b,t))=(a==b&&s.toList==t.toList):=by rw[←beq_toListBytes];rfl
 rw[e];go_simp
 by_cases h1:a=b<;>by_cases h2:s.toList=t.toList<;>simp[h1,h2]
def jk (w:H5)(N:Nat)(m:Mo)(g:Fn):Prop:=w.cell? ⟨N,0,none⟩=some (.slice m.sA m.ss.length m.sC)∧w.cell? ⟨N,1,none⟩=some (.slice m.fA m.fs.length m.fC)∧w.cell? ⟨N,2,none⟩=some (.string g.c.nm)∧w.cell? ⟨N,3,none⟩=some (.int .i64 g.c.par)∧w.cell? ⟨N,4,none⟩=some (.slice g.c.varsA g.c.nvars g.c.varsC)∧w.cell? ⟨N,5,none⟩=some (.bool g.c.rp)∧w.cell? ⟨N,6,none⟩=some (.string g.c.rto)∧w.cell? ⟨N,7,none⟩=some (.int .i64 g.c.rcl)∧w.cell? ⟨N,8,none⟩=some (.slice g.c.fromA g.c.nfrom g.c.fromC)∧w.cell? ⟨N,9,none⟩=some (.slice g.c.insA g.c.ins.length g.c.insC)
theorem jk.of {w:H5}{N:Nat}{m:Mo}{g:Fn}(h:w.heap[N]?=some (.cells (jg m g) 184 (0,0))):jk w N m g:=by
 refine⟨?_, ?_, ?_, ?_, ?_, ?_, ?_, ?_, ?_, ?_⟩<;>(rw[cell_of_row _ _ _ _ _ _ h];rfl)
theorem jZ (m:Mo)(g:Fn)(i:Ins)(other:Int)(ptr:Bool)(w:H5)(h:nC w m g)(ha:isVar g.vs.length i.a=true)(ho:isVar g.vs.length other=true)(hk:m.known (ax g.vs i.a)=true):
  zP 227 #[.agg (jg m g),.agg i.cells,.int .i64 other,.bool ptr] w (.int .i64 (cu m g.vs i other ptr)):=by
 have HT:Ia (∀W,H9 w.heap.size w W→zP 188 #[.agg (jg m g),.int .i64 other] W (uO (ax g.vs other))):=fun W hW=>gG m g other W (h.below hW).vars h.nv h.vl ho;have HF:Ia (∀W,H9 w.heap.size w W→zP 253 #[.agg (jg m g),.int .i64 i.a,.int .i64 i.f] W (.tuple #[uO (aH m g.vs i.a i.f).1,.int .i64 (aH m g.vs i.a i.f).2])):=fun W hW=>yL m g i.a i.f W (h.below hW) ha hk;clear h ha ho hk;have HE:Ia (cu m g.vs i other ptr=if (aH m g.vs i.a i.f).2≠0 then(aH m g.vs i.a i.f).2 else bM ((aH m g.vs i.a i.f).1==ax g.vs other&&(aH m g.vs i.a i.f).1.1==ptr) 7):=rfl;obtain⟨R,hR⟩:=zE (cu m g.vs i other ptr);obtain⟨⟨⟨b,s⟩,z⟩,hz⟩:∃F,aH m g.vs i.a i.f=F:=⟨_,rfl⟩
 obtain⟨⟨b2,s2⟩,ht⟩:∃t,ax g.vs other=t:=⟨_,rfl⟩
 rw[hz,ht,hR] at HE;rw[hz] at HF;rw[ht] at HT;rw[hR];unfold uO at HT HF;clear hz ht hR;have hst:∀(w:H5)(c:Array Value),c.size=2→(storeCells ⟨w.heap.size,0,none⟩ [.bool b,.string s] 0).run prog (w.alloc (.cells c 32))= .ok () (w.alloc (.cells #[.bool b,.string s] 32)):=fun w c hc=>
  run_storeCells_new (P:=prog) w 32 c #[.bool b,.string s] (by show _=some 2;kernel_rfl) hc (by simp[Value.oneCell'])
 obtain⟨N,hN⟩:=zE w.heap.size;obtain⟨W1,hW1⟩:=zE ((w.alloc (.cells (jg m g) 184)).alloc (.cells i.cells 42));have hb1:=uG hW1 hN;have hs1:W1.heap.size=N+2:=by rw[←hW1];simp[hN]
 have hr1:=xV hW1 hN;have hr2:=zV hW1 hN;have i2:=zR hr2 2 (.int .i64 i.a);have i4:=zR hr2 4 (.int .i64 i.f);have HB1:=zH hb1;have HR1:=zH hr1;have HN:=zH hN;have HS1:=zH hs1;clear hb1 hr1 hr2 hs1;go_enter func227,ntmps227
 go_upto_region 2 with(first
  |(refine wpList_load_row rfl 184 _ rfl N rfl 184 (jg m g) (0,0) _ HR1.out underlying184 rfl (by kernel_rfl) ?_)
  |(go_at_call 253;refine(HF.out _ (by rw[HN.out];exact HB1.out)).mono ?_;rintro e w2 ⟨rfl,hb2⟩;have HB2:=zH hb2;clear hb2))
 obtain⟨T,hT⟩:=zE w2.heap.size;obtain⟨W3,hW3⟩:=zE (w2.alloc (.cells #[.bool b,.string s] 32));rw[hT,hW3];have hb13:=zD hW3 HB2;have hTN:N+2≤T:=by rw[←hT,←HS1.out];exact HB2.out.size
 have hs3:W3.heap.size=T+1:=by rw[←hW3,←hT];simp
 have hr3:W3.heap[N]?=some (.cells (jg m g) 184 (0,0)):=(hb13.block N (by have:=HS1.out;omega)).trans HR1.out;have hr5:W3.heap[T]?=some (.cells #[.bool b,.string s] 32 (0,0)):=by rw[←hW3,←hT];exact alloc_at _ _
 have HB3:Ia (H9 N w W3):=HB1.out.trans (hb13.mono (by have:=HS1.out;omega));have HKEEP:Ia (∀W,H9 W3.heap.size W3 W→jk W N m g∧W.cell? ⟨T,0,none⟩=some (.bool b)∧W.cell? ⟨T,1,none⟩=some (.string s)):=by
  intro W hW;have q5:=(hW.block T (by omega)).trans hr5;refine⟨jk.of ((hW.block N (by omega)).trans hr3), ?_, ?_⟩
  ·rw[cell_of_row _ _ _ _ _ _ q5];rfl
  ·rw[cell_of_row _ _ _ _ _ _ q5];rfl
 clear hst hW1 hW3 hb13 hr3 hr5 HR1 hT HB2 hN HS1 i2 i4 HF
 by_cases hz:z=0
 ·subst hz
  have HRR:Ia (R=bM (((b,s):Ty)==(b2,s2)&&b==ptr) 7):=by unfold Ia;rw[HE.out,if_neg (by simp)]
  obtain⟨d,hd⟩:=zE (((b,s):Ty)==(b2,s2));have heq:∀w,(Op.equalIn 10000 32 (.agg #[.bool b,.string s]) (.agg #[.bool b2,.string s2])).run prog w= .ok d w:=fun w=>by rw[dC,hd]
  rw[hd] at HRR;have HTC:Ia (∀p:BW W3,zP 188 #[.agg (jg m g),.int .i64 other] p.w (.agg #[.bool b2,.string s2])):=
   fun p=>HT.out p.w (by rw[HN.out];exact HB3.out.trans (p.h.mono (by omega)))
  unfold jg at HTC;have k0:∀p:BW W3,p.w.cell? ⟨N,0,none⟩=some (.slice m.sA m.ss.length m.sC):=fun p=>(HKEEP.out p.w p.h).1.1;have k1:∀p:BW W3,p.w.cell? ⟨N,1,none⟩=some (.slice m.fA m.fs.length m.fC):=fun p=>(HKEEP.out p.w p.h).1.2.1;have k2:∀p:BW W3,p.w.cell? ⟨N,2,none⟩=some (.string g.c.nm):=fun p=>(HKEEP.out p.w p.h).1.2.2.1;have k3:∀p:BW W3,p.w.cell? ⟨N,3,none⟩=some (.int .i64 g.c.par):=fun p=>(HKEEP.out p.w p.h).1.2.2.2.1;have k4:∀p:BW W3,p.w.cell? ⟨N,4,none⟩=some (.slice g.c.varsA g.c.nvars g.c.varsC):=fun p=>(HKEEP.out p.w p.h).1.2.2.2.2.1;have k5:∀p:BW W3,p.w.cell? ⟨N,5,none⟩=some (.bool g.c.rp):=fun p=>(HKEEP.out p.w p.h).1.2.2.2.2.2.1;have k6:∀p:BW W3,p.w.cell? ⟨N,6,none⟩=some (.string g.c.rto):=fun p=>(HKEEP.out p.w p.h).1.2.2.2.2.2.2.1;have k7:∀p:BW W3,p.w.cell? ⟨N,7,none⟩=some (.int .i64 g.c.rcl):=fun p=>(HKEEP.out p.w p.h).1.2.2.2.2.2.2.2.1;have k8:∀p:BW W3,p.w.cell? ⟨N,8,none⟩=some (.slice g.c.fromA g.c.nfrom g.c.fromC):=fun p=>(HKEEP.out p.w p.h).1.2.2.2.2.2.2.2.2.1;have k9:∀p:BW W3,p.w.cell? ⟨N,9,none⟩=some (.slice g.c.insA g.c.ins.length g.c.insC):=fun p=>(HKEEP.out p.w p.h).1.2.2.2.2.2.2.2.2.2;have t0:∀p:BW W3,p.w.cell? ⟨T,0,none⟩=some (.bool b):=fun p=>(HKEEP.out p.w p.h).2.1;have t1:∀p:BW W3,p.w.cell? ⟨T,1,none⟩=some (.string s):=fun p=>(HKEEP.out p.w p.h).2.2;clear hd HE HT HKEEP;cases d with
  |false=>
   go_wp2;refine zQ ?_
   repeat (go_big_quiet_step (first
    |(go_at_call 188;exact bg (HTC.out _))
    |(go_at_call 99;exact jo (aB _ _ _))))
   refine wpQuiet_nil ?_;rintro _ ⟨p,rfl⟩;go_wp2;go_ret;rw[HRR.out,HN.out];exact⟨rfl,HB3.out.trans (p.h.mono (by omega))⟩
  |true=>
   go_wp2;refine zQ ?_
   repeat (go_big_quiet_step (first
    |(go_at_call 188;exact bg (HTC.out _))
    |(go_at_call 99;exact jo (aB _ _ _))))
   refine wpQuiet_nil ?_;rintro _ ⟨p,rfl⟩;go_wp2;go_ret;rw[HRR.out,HN.out];exact⟨rfl,HB3.out.trans (p.h.mono (by omega))⟩
 ·have HRR:Ia (R=z):=by unfold Ia;rw[HE.out,if_pos hz]
  have hzb:(z==0)=false:=by rw[beq_eq_false_iff_ne];exact hz
  clear HE HT HKEEP hz;go_wp2;go_ret;rw[HRR.out,HN.out];exact⟨rfl,HB3.out⟩
theorem jM (vs gs:List Vr):∀(l:List Int)(k0:Nat),ig vs gs k0 l=true↔∀k a,l[k]?=some a→(ax vs a==ax gs ((k0+k:Nat):Int))=true
 |[],k0=>⟨fun _ k a h=>by simp at h,fun _=>rfl⟩
 |x::r,k0=>by
  unfold ig;rw[Bool.and_eq_true,jM vs gs r (k0+1)];constructor
  ·rintro⟨h1,h2⟩ k a hk
   cases k with
   |zero=>simp at hk;subst hk;exact h1
   |succ k=>
    have:=h2 k a (by simpa using hk);rw[show k0+(k+1)=k0+1+k by omega];exact this
  ·intro h
   refine⟨h 0 x rfl,fun k a hk=> ?_⟩;have:=h (k+1) a (by simpa using hk);rw[show k0+1+k=k0+(k+1) by omega];exact this
theorem nD (f:Fn):(f.cells.all fun x=>x.oneCell')=true:=by
 rw[←Array.all_toList];simp[Fn.cells,dQ.cells,Value.oneCell']
theorem qQ (m:Mo)(g:Fn)(i:Ins)(w:H5)(h:nC w m g)(hi:i.args_in w)(hal:i.args.length≤maxLen)(hd:isVar g.vs.length i.d=true)(ha:∀a∈i.args,isVar g.vs.length a=true):
  zP 185 #[.agg (jg m g),.agg i.cells] w (.int .i64 (gU m g.vs i)):=by
 have HT:Ia (∀W v,H9 w.heap.size w W→isVar g.vs.length v=true→zP 188 #[.agg (jg m g),.int .i64 v] W (uO (ax g.vs v))):=fun W v hW hv=>gG m g v W (h.below hW).vars h.nv h.vl hv;obtain⟨⟨_,ao2,n2,cap2,hm2⟩,ao,cap,hav,hrow⟩:=hi;have HA:Ia (ak w ao i.args):=hrow.at_;have HJ:=zH h;have HDV:=zH hd;have HAV:=zH ha;have HE:Ia (gU m g.vs i=if i.f<0 then 15 else match m.fs[i.f.toNat]? with
  |none=>15
  |some g'=>if (i.args.length:Int)≠g'.c.par∨(g'.vs.length:Int)<g'.c.par then 7
   else if ig g.vs g'.vs 0 i.args=false then 7 else bM (ax g.vs i.d==g'.ret) 7):=rfl
 obtain⟨R,hR⟩:=zE (gU m g.vs i);rw[hR] at HE⊢;clear hR h hrow hd ha hm2;obtain⟨N,hN⟩:=zE w.heap.size;obtain⟨W1,hW1⟩:=zE ((w.alloc (.cells (jg m g) 184)).alloc (.cells i.cells 42));have hb1:=uG hW1 hN;have hs1:W1.heap.size=N+2:=by rw[←hW1];simp[hN]
 have hr1:=xV hW1 hN;have hr2:=zV hW1 hN;have i4:=zR hr2 4 (.int .i64 i.f);have k1:=zR hr1 1 (.slice m.fA m.fs.length m.fC);have HB1:=zH hb1;have HR1:=zH hr1;have HR2:=zH hr2;have HN:=zH hN;have HS1:=zH hs1;clear hb1 hr1 hr2
 by_cases hf0:i.f<0
 ·have HRR:Ia (R=15):=by unfold Ia;rw[HE.out,if_pos hf0]
  clear HE HT;go_enter func185,ntmps185;go_wp2;go_ret;rw[HRR.out];exact⟨rfl,by first|exact HB1.out|(rw[HN.out];exact HB1.out)⟩
 obtain⟨F,hF⟩:∃F:Nat,i.f=(F:Int):=⟨i.f.toNat,by omega⟩
 rw[hF] at i4
 by_cases hfl:F<m.fs.length
 ·obtain⟨f,hfx⟩:∃f,m.fs[F]?=some f:=⟨_,GN hfl⟩
  have HE2:Ia (R=if (i.args.length:Int)≠f.c.par∨(f.vs.length:Int)<f.c.par then 7 else if ig g.vs f.vs 0 i.args=false then 7 else bM (ax g.vs i.d==f.ret) 7):=by
   unfold Ia;rw[HE.out,if_neg hf0,hF,Ho,hfx]
  have hfin:=HJ.out.mo.fin f (GV hfx);have HFI:=zH hfin;obtain⟨fb,foff,hfA,hfb,hfc⟩:=HJ.out.mo.frow (by intro e;rw[e] at hfl;simp at hfl);have hfbN:fb<N:=by omega
  have HFC:Ia (∀k u,f.cells.toList[k]?=some u→W1.cell? ((⟨fb,foff+F*8,none⟩:Addr).add k)=some u):=fun k u hu=>by
   rw[Addr.add_lit,HB1.out.cell (p:=⟨fb,_,none⟩) hfbN];exact hfc F f hfx k u hu
  have hFI:(F:Int)<(m.fs.length:Int):=by omega
  obtain⟨W2,hW2⟩:=zE (W1.alloc (.cells f.cells 38));have hst:∀(c:Array Value),c.size=8→(storeCells ⟨N+2,0,none⟩ f.cells.toList 0).run prog (W1.alloc (.cells c 38))= .ok () W2:=fun c hc=>by
   rw[←hW2,←hs1];exact run_storeCells_new (P:=prog) W1 38 c f.cells (by show _=some 8;kernel_rfl) hc (nD f)
  have hb2:=gK hW2;have hr3:W2.heap[N+2]?=some (.cells f.cells 38 (0,0)):=by rw[←hW2,←hs1];exact alloc_at _ _
  have hs2:W2.heap.size=N+3:=by rw[←hW2];simp[hs1]
  have HB2:Ia (H9 N w W2):=HB1.out.trans (hb2.mono (by omega));have HKEEP:Ia (∀W,H9 W2.heap.size W2 W→jk W N m g∧W.cell? ⟨N+1,1,none⟩=some (.int .i64 i.d)∧W.cell? ⟨N+1,7,none⟩=some (.slice ao i.args.length cap)∧
    W.cell? ⟨N+2,1,none⟩=some (.int .i64 f.c.par)∧W.cell? ⟨N+2,2,none⟩=some (.slice f.c.varsA f.vs.length f.c.varsC)∧W.cell? ⟨N+2,3,none⟩=some (.bool f.c.rp)∧W.cell? ⟨N+2,4,none⟩=some (.string f.c.rto)):=by
   intro W hW;have q1:=(hW.block N (by omega)).trans ((hb2.block N (by omega)).trans HR1.out);have q2:=(hW.block (N+1) (by omega)).trans ((hb2.block (N+1) (by omega)).trans HR2.out);have q3:=(hW.block (N+2) (by omega)).trans hr3;refine⟨jk.of q1, ?_, ?_, ?_, ?_, ?_, ?_⟩
   ·rw[cell_of_row _ _ _ _ _ _ q2];rfl
   ·rw[cell_of_row _ _ _ _ _ _ q2,←hav];rfl
   ·rw[cell_of_row _ _ _ _ _ _ q3];rfl
   ·rw[cell_of_row _ _ _ _ _ _ q3,←hfin.nvars];rfl
   ·rw[cell_of_row _ _ _ _ _ _ q3];rfl
   ·rw[cell_of_row _ _ _ _ _ _ q3];rfl
  obtain⟨_,j1,j7,c1,c2,c3,c4⟩:=HKEEP.out W2 (Hw _ _);have HFV:Ia (∀(W:H5)(v:Int),H9 W2.heap.size W2 W→isVar f.vs.length v=true→∃(k b off:Nat) (x:Vr),v=(k:Int)∧k<f.vs.length∧f.c.varsA=some ⟨b,off,none⟩∧b<W2.heap.size∧ax f.vs v=(x.ptr,x.tgt)∧W.cell? ⟨b,off+k*3,none⟩=some (.bool x.ptr)∧W.cell? ⟨b,off+k*3+1,none⟩=some (.string x.tgt)):=by
   intro W v hW hv;have hWW:H9 w.heap.size w W:=by rw[HN.out];exact HB2.out.trans (hW.mono (by omega))
   obtain⟨k,b,off,x,r1,r2,r3,r4,r5,r6,r7⟩:=dN (HFI.out.vars) hv;exact⟨k,b,off,x,r1,r2,r3,by omega,r5,by rw[hWW.cell (p:=⟨b,_,none⟩) r4];exact r6,by rw[hWW.cell (p:=⟨b,_,none⟩) r4];exact r7⟩
  have HFA:=zH hfA;rw[hfA] at k1;have hx63:i.args.length≤9223372036854775807:=by unfold maxLen at hal;omega
  clear HE hf0 hF hfl hfx hfin hfA hfc hb2 hr3 HR1 HR2 hfb;go_enter func185,ntmps185
  go_upto_region 4 with(first
   |(refine ay rfl 38 _ rfl ⟨fb,foff+F*8,none⟩ rfl f.cells _ HFC.out underlying38 rfl (by kernel_rfl) ?_))
  clear hst hW2 i4 k1
  by_cases hpar:(i.args.length:Int)=f.c.par
  ·by_cases hpv:(f.vs.length:Int)<f.c.par
   ·have HRR:Ia (R=7):=by unfold Ia;rw[HE2.out,if_pos (.inr hpv)]
    rw[←hpar] at hpv c1;clear HE2 HT;go_wp2;go_ret;rw[HRR.out,HN.out];exact⟨rfl,HB2.out⟩
   ·have HE3:Ia (R=if ig g.vs f.vs 0 i.args=false then 7 else bM (ax g.vs i.d==f.ret) 7):=by
     unfold Ia;rw[HE2.out,if_neg (fun h=>by rcases h with h|h;exact h hpar;exact hpv h)]
    rw[←hpar] at hpv c1;have hlv:i.args.length≤f.vs.length:=by omega
    clear HE2 hpar
    go_upto_region 7 with(fail)
    go_loopw [44] (fun c wr=>∃j:Nat,j≤i.args.length∧c= .int .i64 (j:Int)∧(∀k a,k<j→i.args[k]?=some a→(ax g.vs a==ax f.vs (k:Int))=true)∧H9 W2.heap.size W2 wr) (fun c _=>i.args.length-(intOf c).toNat)
    case atStart=>exact⟨0,Hg _,rfl,fun k a hk=>absurd hk (by omega),Hw _ _⟩
    case round=>
     obtain⟨j,hj,rfl,hall,hb⟩:=hrel;have HB:=zH hb;have HALL:=zH hall
     by_cases hjl:j<i.args.length
     ·obtain⟨y,hy⟩:∃y,i.args[j]?=some y:=⟨_,GN hjl⟩
      obtain⟨ab,aoff,hao,hab,hac⟩:=(HA.out.below (by rw[HN.out];exact HB2.out.trans (hb.mono (by omega)))) (by intro e;rw[e] at hjl;simp at hjl)
      have d1:wr.cell? ⟨ab,aoff+j,none⟩=some (.int .i64 y):=hac j y hy;have hyv:isVar g.vs.length y=true:=HAV.out y (GV hy);obtain⟨k',b,off,x,hkj,hkl,hvA,hbl,hty,_,_⟩:=HFV.out wr (j:Int) hb (dX.2 ⟨by omega,by omega⟩);obtain rfl:k'=j:=by omega
      have HX:Ia (∀p:BW wr,p.w.cell? ⟨b,off+k'*3,none⟩=some (.bool x.ptr)∧p.w.cell? ⟨b,off+k'*3+1,none⟩=some (.string x.tgt)):=by
       intro p;obtain⟨k2,b2,off2,x2,q1,q2,q3,q4,q5,q6,q7⟩:=HFV.out p.w (k':Int) (HB.out.trans (p.h.mono HB.out.size)) (dX.2 ⟨by omega,by omega⟩);obtain rfl:k'=k2:=by omega
       rw[hvA] at q3;obtain⟨rfl,rfl⟩:b=b2∧off=off2:=by simpa using q3
       rw[hty] at q5;obtain⟨e1,e2⟩:x.ptr=x2.ptr∧x.tgt=x2.tgt:=by simpa using q5
       rw[e1,e2];exact⟨q6,q7⟩
      have x0:∀p:BW wr,p.w.cell? ⟨b,off+k'*3,none⟩=some (.bool x.ptr):=fun p=>(HX.out p).1;have x1:∀p:BW wr,p.w.cell? ⟨b,off+k'*3+1,none⟩=some (.string x.tgt):=fun p=>(HX.out p).2;have hbr:b<wr.heap.size:=Hd hbl hb.size;obtain⟨⟨tb,ts⟩,htt⟩:∃t,ax g.vs y=t:=⟨_,rfl⟩
      have HTC:Ia (∀p:BW wr,zP 188 #[.agg (jg m g),.int .i64 y] p.w (.agg #[.bool tb,.string ts])):=fun p=>by
       have:=HT.out p.w y (by rw[HN.out];exact(HB2.out.trans (HB.out.mono (by omega))).trans (p.h.mono (by have:=HB.out.size;omega))) hyv;rw[htt] at this;exact this
      unfold jg at HTC;obtain⟨d,hdd⟩:=zE (((tb,ts):Ty)==(x.ptr,x.tgt));have heq:∀w,(Op.equalIn 10000 32 (.agg #[.bool tb,.string ts]) (.agg #[.bool x.ptr,.string x.tgt])).run prog w= .ok d w:=fun w=>by rw[dC,hdd]
      have HDD:Ia ((ax g.vs y==ax f.vs (k':Int))=d):=by unfold Ia;rw[htt,hty];exact hdd
      have HY:=zH hy;have HJW:Ia (∀p:BW wr,_):=fun p:BW wr=>HKEEP.out p.w (HB.out.trans (p.h.mono HB.out.size));have k0:∀p:BW wr,p.w.cell? ⟨N,0,none⟩=some (.slice m.sA m.ss.length m.sC):=fun p=>(HJW.out p).1.1;have k1:∀p:BW wr,p.w.cell? ⟨N,1,none⟩=some (.slice m.fA m.fs.length m.fC):=fun p=>(HJW.out p).1.2.1;have k2:∀p:BW wr,p.w.cell? ⟨N,2,none⟩=some (.string g.c.nm):=fun p=>(HJW.out p).1.2.2.1;have k3:∀p:BW wr,p.w.cell? ⟨N,3,none⟩=some (.int .i64 g.c.par):=fun p=>(HJW.out p).1.2.2.2.1;have k4:∀p:BW wr,p.w.cell? ⟨N,4,none⟩=some (.slice g.c.varsA g.c.nvars g.c.varsC):=fun p=>(HJW.out p).1.2.2.2.2.1;have k5:∀p:BW wr,p.w.cell? ⟨N,5,none⟩=some (.bool g.c.rp):=fun p=>(HJW.out p).1.2.2.2.2.2.1;have k6:∀p:BW wr,p.w.cell? ⟨N,6,none⟩=some (.string g.c.rto):=fun p=>(HJW.out p).1.2.2.2.2.2.2.1;have k7:∀p:BW wr,p.w.cell? ⟨N,7,none⟩=some (.int .i64 g.c.rcl):=fun p=>(HJW.out p).1.2.2.2.2.2.2.2.1;have k8:∀p:BW wr,p.w.cell? ⟨N,8,none⟩=some (.slice g.c.fromA g.c.nfrom g.c.fromC):=fun p=>(HJW.out p).1.2.2.2.2.2.2.2.2.1;have k9:∀p:BW wr,p.w.cell? ⟨N,9,none⟩=some (.slice g.c.insA g.c.ins.length g.c.insC):=fun p=>(HJW.out p).1.2.2.2.2.2.2.2.2.2;have c2r:∀p:BW wr,p.w.cell? ⟨N+2,2,none⟩=some (.slice (some ⟨b,off,none⟩) f.vs.length f.c.varsC):=fun p=>by rw[←hvA];exact(HJW.out p).2.2.2.2.1
      have hkI:(k':Int)<(i.args.length:Int):=by omega
      have hkV:(k':Int)<(f.vs.length:Int):=by omega
      subst hao;clear hall hb hy hac hyv hvA hty htt hdd hjl HJW;cases d with
      |true=>
       go_wp2_with fail
       refine zQ ?_
       repeat (go_big_quiet_step (first
        |(go_at_call 188;exact bg (HTC.out _))))
       refine wpQuiet_nil ?_;rintro _ ⟨p,rfl⟩;go_wp2;go_roundw
       case rel=>
        refine⟨k'+1,by omega,by go_num,fun k a hk hka=> ?_,HB.out.trans (p.h.mono HB.out.size)⟩
        by_cases e:k=k'
        ·subst e
         rw[HY.out] at hka;obtain rfl:=Hl hka;exact HDD.out
        ·exact HALL.out k a (by omega) hka
       case measure=>simp[intOf];omega
      |false=>
       have HRR:Ia (R=7):=by
        unfold Ia;rw[HE3.out,if_pos];cases hc:ig g.vs f.vs 0 i.args with
        |false=>rfl
        |true=>
         have:=(jM _ _ _ _).1 hc k' y HY.out;rw[Hf,HDD.out] at this;cases this
       go_wp2_with fail
       refine zQ ?_
       repeat (go_big_quiet_step (first
        |(go_at_call 188;exact bg (HTC.out _))))
       refine wpQuiet_nil ?_;rintro _ ⟨p,rfl⟩;go_wp2;go_ret;rw[HRR.out,HN.out];exact⟨rfl,(HB2.out.trans (HB.out.mono (by omega))).trans (p.h.mono (by have:=HB.out.size;omega))⟩
     ·have hje:j=i.args.length:=by omega
      subst hje;have HE4:Ia (R=bM (ax g.vs i.d==f.ret) 7):=by
       unfold Ia;rw[HE3.out,if_neg];rw[(jM _ _ _ _).2 (fun k a hk=>by rw[Hf];exact HALL.out k a (GQ.1 hk).1 hk)];decide
      obtain⟨⟨tb,ts⟩,htt⟩:∃t,ax g.vs i.d=t:=⟨_,rfl⟩
      have HTC:Ia (∀p:BW wr,zP 188 #[.agg (jg m g),.int .i64 i.d] p.w (.agg #[.bool tb,.string ts])):=fun p=>by
       have:=HT.out p.w i.d (by rw[HN.out];exact(HB2.out.trans (HB.out.mono (by omega))).trans (p.h.mono (by have:=HB.out.size;omega))) HDV.out;rw[htt] at this;exact this
      unfold jg at HTC;obtain⟨d,hdd⟩:=zE (((tb,ts):Ty)==(f.c.rp,f.c.rto));have heq:∀w,(Op.equalIn 10000 32 (.agg #[.bool tb,.string ts]) (.agg #[.bool f.c.rp,.string f.c.rto])).run prog w= .ok d w:=fun w=>by rw[dC,hdd]
      have HRR:Ia (R=bM d 7):=by unfold Ia;rw[HE4.out,htt,←hdd];rfl
      have HJW:Ia (∀p:BW wr,_):=fun p:BW wr=>HKEEP.out p.w (HB.out.trans (p.h.mono HB.out.size));have k0:∀p:BW wr,p.w.cell? ⟨N,0,none⟩=some (.slice m.sA m.ss.length m.sC):=fun p=>(HJW.out p).1.1;have k1:∀p:BW wr,p.w.cell? ⟨N,1,none⟩=some (.slice m.fA m.fs.length m.fC):=fun p=>(HJW.out p).1.2.1;have k2:∀p:BW wr,p.w.cell? ⟨N,2,none⟩=some (.string g.c.nm):=fun p=>(HJW.out p).1.2.2.1;have k3:∀p:BW wr,p.w.cell? ⟨N,3,none⟩=some (.int .i64 g.c.par):=fun p=>(HJW.out p).1.2.2.2.1;have k4:∀p:BW wr,p.w.cell? ⟨N,4,none⟩=some (.slice g.c.varsA g.c.nvars g.c.varsC):=fun p=>(HJW.out p).1.2.2.2.2.1;have k5:∀p:BW wr,p.w.cell? ⟨N,5,none⟩=some (.bool g.c.rp):=fun p=>(HJW.out p).1.2.2.2.2.2.1;have k6:∀p:BW wr,p.w.cell? ⟨N,6,none⟩=some (.string g.c.rto):=fun p=>(HJW.out p).1.2.2.2.2.2.2.1;have k7:∀p:BW wr,p.w.cell? ⟨N,7,none⟩=some (.int .i64 g.c.rcl):=fun p=>(HJW.out p).1.2.2.2.2.2.2.2.1;have k8:∀p:BW wr,p.w.cell? ⟨N,8,none⟩=some (.slice g.c.fromA g.c.nfrom g.c.fromC):=fun p=>(HJW.out p).1.2.2.2.2.2.2.2.2.1;have k9:∀p:BW wr,p.w.cell? ⟨N,9,none⟩=some (.slice g.c.insA g.c.ins.length g.c.insC):=fun p=>(HJW.out p).1.2.2.2.2.2.2.2.2.2;have g1:∀p:BW wr,p.w.cell? ⟨N+1,1,none⟩=some (.int .i64 i.d):=fun p=>(HJW.out p).2.1;have g3:∀p:BW wr,p.w.cell? ⟨N+2,3,none⟩=some (.bool f.c.rp):=fun p=>(HJW.out p).2.2.2.2.2.1;have g4:∀p:BW wr,p.w.cell? ⟨N+2,4,none⟩=some (.string f.c.rto):=fun p=>(HJW.out p).2.2.2.2.2.2;clear hall hb htt hdd HJW HE3 HE4 HFV HT HKEEP
      go_wp2_with fail
      refine zQ ?_
      repeat (go_big_quiet_step (first
       |(go_at_call 188;exact bg (HTC.out _))
       |(go_at_call 99;exact jo (aB _ _ _))))
      refine wpQuiet_nil ?_;rintro _ ⟨p,rfl⟩;go_wp2;go_ret;rw[HRR.out,HN.out];exact⟨rfl,(HB2.out.trans (HB.out.mono (by omega))).trans (p.h.mono (by have:=HB.out.size;omega))⟩
  ·have HRR:Ia (R=7):=by unfold Ia;rw[HE2.out,if_pos (.inl hpar)]
   clear HE2 HT;go_wp2;go_ret;rw[HRR.out,HN.out];exact⟨rfl,HB2.out⟩
 ·have HRR:Ia (R=15):=by unfold Ia;rw[HE.out,if_neg hf0,hF,Ho,List.getElem?_eq_none (by omega)]
  have hFI:¬((F:Int)<(m.fs.length:Int)):=by omega
  clear HE HT hfl hf0 hF;go_enter func185,ntmps185;go_wp2;go_ret;rw[HRR.out];exact⟨rfl,by first|exact HB1.out|(rw[HN.out];exact HB1.out)⟩
end Go.Proofs.YtjomgckjhcfbgaaGreat
