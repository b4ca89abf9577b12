/- Walks. -/
import Derived.Laws.OwnMore
import Derived.Handy
import Derived.Laws.StructEq
import Derived.Deep.RegionHeld3
import Derived.Deep.WholeRow
import Derived.Laws.ResultCell
import Derived.Test.YtjomgckjhcfbgaaGreatP0
set_option maxRecDepth 100000
set_option maxHeartbeats 64000000
set_option linter.all false
namespace Go.Proofs.YtjomgckjhcfbgaaGreat
open Go.RowKit
open Go.Proofs.Tryz renaming prog→am,underlying42→cA,underlying184→cG,underlying38→cJ,underlying32→dT,ntmps189→eJ,func189→eW,underlying35→gv,underlying90→nx,ntmps152→pc,ntmps144→pH,func152→pL,func144→qT
open _root_.List renaming getElem?_eq_getElem→ap,length_append→bm,getElem?_eq_some_iff→bo,mem_of_getElem?→ci,take_length→cL,append_nil→eA,nil_append→eK,cons_append→gh,any_eq_true→js,any_eq_false→j8,length_pos_iff→kq,take_add_one→kA,getElem?_eq_none→m9,getElem?_map→qs
open Go.RowKit.Below renaming refl→aq
open _root_ renaming Int→aw,Nat→bj,ByteArray→bl,List→bp,if_neg→bw,decide_eq_false→cm,Option→cC,if_pos→cH,beq_eq_false_iff_ne→cN,decide_eq_true→cR,Array→dl,absurd→fz,False→lj,Bool→ml,of_decide_eq_true→mw
open Go.RowKit renaming Below→aE,Hid→cg,intOf→dp
open Go renaming heap_setCell_same→bk,cell_of_row→bt,wpList_load_row→cf,run_storeCells_new→cr,Value→cw,storeCells→dd,frozen_of_row→de,bodyPost_ret→dk,wpQuiet_nil→dr,maxLen→du,Addr→fg,Calls→fj,beq_toListBytes→fx,TypeId→fX,below_drewN→hU,heap_alloc2_new→im,run_underlying→i5,Oper→kj,Program→km,info_parts→m6,run_loadVar_row→nr,wpList→pi,results→rr,wpList_plain→sL
open _root_.Array renaming getElem?_eq_some_iff→br,getElem?_eq_none→fY,all_toList→j9
open _root_.Nat renaming le_refl→cd,lt_of_lt_of_le→cD,zero_add→cI,zero_le→cM,le_succ→iu
open Go.Value renaming oneCell'→cn,slice→cv,ownBlock→eL,int→eS,string→tm,slice→tn,pointer→tr,bool→tt,agg→tv,int→Z
open _root_.Option.some renaming inj→cy
open Go.Exit renaming inBlock→cQ
open Go.Addr renaming add_lit→cU
open _root_.Bool renaming and_eq_true→ej,true→ti,false→tj
open _root_.Int renaming toNat_natCast→ep
open Go.Op renaming equalIn→gt
open Go.Builtin renaming append_→it,firstCells→mB,lenOf→ph
open _root_.ByteArray renaming empty→kh
open Go.Result renaming andThen_ok→kB,andThen→lz
open Go.Oper renaming wp→mp
open Go.Instr renaming field→m7
open Go.ByteArray renaming toList_eq→oA
open Go.Sem renaming run_pure→rn
open _root_.Option renaming some→tf,none→th
open Go.Obj renaming cells→tA
open Go.Ending renaming returned→tB
open Go.IntKind renaming i64→U
open Tryz
def qH (op:aw):ml:=decide (op∈[1,2,3,4,5,7,9,10,12,14,15])
def uy (op:aw):ml:=decide (op∈[3,4,6,7,8,9,10,11,13,14,17,18])
def rT (op:aw):ml:=decide (op∈[4,8,11])
theorem CV (op:aw):(op=1\/op=2\/op=3\/op=4\/op=5\/op=6\/op=7\/op=8\/op=9\/op=10\/op=11\/op=12\/op=13\/op=14\/op=15\/op=17\/op=18)\/(op≠1/\op≠2/\op≠3/\op≠4/\op≠5/\op≠6/\op≠7/\op≠8/\op≠9/\op≠10/\op≠11/\op≠12/\op≠13/\op≠14/\op≠15/\op≠17/\op≠18):=by omega
theorem qh (op:aw)(w:World):zS 193 #[Z U op] w (.tuple #[tt (qH op),tt (uy op),tt (rT op)]):=by
 rcases CV op with h|h
 ·rcases h with rfl|rfl|rfl|rfl|rfl|rfl|rfl|rfl|rfl|rfl|rfl|rfl|rfl|rfl|rfl|rfl|rfl
  all_goals
   go_enter func193,ntmps193;go_wp2
   go_ret3
   exact⟨rfl,rfl⟩
 ·obtain⟨d,e,f,g,j,o,q,t,u,v,x,y,z,A,E,G,J⟩:=h
  have R:(op==1)=tj:=by simpa using d
  have W:(op==2)=tj:=by simpa using e
  have e3:(op==3)=tj:=by simpa using f
  have e4:(op==4)=tj:=by simpa using g
  have e5:(op==5)=tj:=by simpa using j
  have e6:(op==6)=tj:=by simpa using o
  have e7:(op==7)=tj:=by simpa using q
  have e8:(op==8)=tj:=by simpa using t
  have e9:(op==9)=tj:=by simpa using u
  have tD:(op==10)=tj:=by simpa using v
  have tE:(op==11)=tj:=by simpa using x
  have tG:(op==12)=tj:=by simpa using y
  have tM:(op==13)=tj:=by simpa using z
  have tP:(op==14)=tj:=by simpa using A
  have tR:(op==15)=tj:=by simpa using E
  have tS:(op==17)=tj:=by simpa using G
  have tU:(op==18)=tj:=by simpa using J
  have K:cg (qH op=tj/\uy op=tj/\rT op=tj):=by
   unfold qH uy rT;refine⟨cm ?_,cm ?_,cm ?_⟩<;>(simp;omega)
  clear d e f g j o q t u v x y z A E G J;go_enter func193,ntmps193;go_wp2
  go_ret3
  obtain⟨a,b,c⟩:=K.out;exact⟨by rw[a,b,c];rfl,rfl⟩
def ak (w:World)(ao:cC fg)(xs:bp aw):Prop:=
 xs≠[]->∃g d,ao=tf ⟨g,d,th⟩/\g<w.heap.size/\∀i z,xs[i]?=tf z->w.cell? ⟨g,d+i,th⟩=tf (Z U z)
theorem aU.at_ {w:World}{base n cap:bj}{ao:cC fg}{xs:bp aw}(h:aU w base (tn ao n cap) xs):ak w ao xs:=by
 intro d;obtain⟨g,e,_,f,j⟩:=h.shape (kq.2 d);exact⟨g,0,e,f,λi z o=>by rw[cI];exact j i z o⟩
theorem dX.at_ {w:World}{ao:cC fg}{xs:bp aw}(h:dX w ao xs):ak w ao xs:=by
 intro d;obtain⟨b,f,e,hb,g⟩:=h d;exact⟨b,f,e,hb,λi z j=>by have:=g i z j 0 _ rfl;simpa using this⟩
theorem ak.below {w w':World}{ao:cC fg}{xs:bp aw}(h:ak w ao xs)(hb:aE w.heap.size w w'):ak w' ao xs:=by
 intro f;obtain⟨g,j,e,d,o⟩:=h f;exact⟨g,j,e,cD d hb.size,λi z q=>by rw[hb.cell (p:=⟨g,_,th⟩) d];exact o i z q⟩
theorem CW (w:World)(c:bj)(ao:cC fg)(xs:bp aw)(z:aw)(G:xs.length<=90000)(h:ak w ao xs):
  zS 126 #[Z U z,tn ao xs.length c] w (tt (decide (z∈xs))):=by
 have H:=zH h;clear h;go_enter func126,ntmps126
 go_wp2_with fail
 go_loop [5] (λk=>∃j:bj,j<=xs.length/\k= Z U (j:aw)/\z∉xs.take j) (λk=>xs.length-(dp k).toNat)
 case atStart=>exact⟨0,cM _,rfl,by simp⟩
 case round=>
  obtain⟨j,J,rfl,d⟩:=hrel
  by_cases o:j<xs.length
  ·obtain⟨y,g⟩:∃y,xs[j]?=tf y:=⟨_,ap o⟩
   obtain⟨u,v,rfl,K,q⟩:=H.out (by intro e;rw[e] at o;simp at o);have d1:w.cell? ⟨u,v+j,th⟩=tf (Z U y):=q j y g;have R:(j:aw)<(xs.length:aw):=by omega
   by_cases f:y=z
   ·have x:(y==z)=ti:=by simp[f]
    have t:cg (decide (z∈xs)=ti):=cR (by rw[<-f];exact ci g);clear g q d f;go_wp2;go_ret;exact⟨by rw[t.out];rfl,rfl⟩
   ·have x:(y==z)=tj:=by simp[f]
    have A:cg (z∉xs.take (j+1)):=by
     unfold cg;rw[kA,g];simp[d];exact λe=>f e.symm
    clear g q d f;go_wp2
    go_round
    case rel=>exact⟨j+1,by omega,by go_num,A.out⟩
    case measure=>simp[dp];omega
  ·have E:j=xs.length:=by omega
   subst E;rw[cL] at d;have t:cg (decide (z∈xs)=tj):=cm d;clear d;go_wp2;go_ret;exact⟨by rw[t.out];rfl,rfl⟩
theorem ak.nil_of_none {w:World}{xs:bp aw}(h:ak w th xs):xs=[]:=by
 by_cases e:xs=[]
 ·exact e
 ·obtain⟨g,f,d,_⟩:=h e
  cases d
theorem qI {P:km}(w:World)(base:bj)(t f e:fX)(i:TypeInfo)(size:bj)(d:P.underlying t=tf (.slice e))(hi:P.info? e=tf i)
  (v:cw)(n:bj)(xs:bp cw)(h:w.ownsRow base e size v n xs)(c:bj):(it #[t,t] f #[v,tn th 0 c]).run P w= .ok v w:=by
 rcases h.2 with⟨rfl,rfl⟩|⟨g,cap,o,rfl,_,_,j,_⟩
 ·simp[it,i5 d,sizeOf,typeInfo,hi,ph,mB]
 ·simp[it,i5 d,sizeOf,typeInfo,hi,ph,mB,j,dd]
theorem aL {w:World}{ops:dl kj}{rest:bp kj}{o:kj}{a:Act}{Q:Exit->Act->World->Prop}(G:o.guard=th)(s x:Operand)
  (J:o.op= .call {callee:= .builtin .append,args:=#[s,x],argTypes:=#[35,35]})(base:bj)(v:cw)(xs:bp aw)(R:a.eval s=v)(t:aU w base v xs)
  (ao:cC fg)(d:bp aw)(c:bj)(W:a.eval x= tn ao d.length c)(tD:ak w ao d)(tU:xs.length+d.length<=90000)(tE:base<=w.heap.size)
  (h:∀f w',aU w' base f (xs++d)->w.grownBy w' v.ownBlock->pi am ops Q rest (a.put o.dst f) w'):pi am ops Q (o::rest) a w:=by
 obtain⟨i0,hi,tG,tM,tP⟩:=m6 iQ;have hh:∀f w',w'.ownsRow base 3 1 f (xs.length+d.length) (xs.map (eS .i64)++d.map (eS .i64))->w.grownBy w' v.ownBlock->pi am ops Q rest (a.put o.dst f) w':=λf w' y A=>h f w' (by unfold aU;simpa using y) A;cases ao with
 |none=>
  obtain rfl:=tD.nil_of_none;refine sL G λK hK=> ?_;have tR:=qI (P:=am) w base 35 o.type 3 i0 1 gv hi v _ _ t c;have tS:a.eval x= tn th 0 c:=W;unfold mp;simp[execOp,J,resolve,invoke,builtin,R,tS,tR,lz];exact hK _ _ (hh _ _ (by have h:=t;unfold aU at h;simpa using h) (World.grownBy.refl w _))
 |some ad=>
  refine wpList_append_own _ G s x 35 J base 3 i0 (Z U 0) 1 8 gv hi tG tM tP rfl (by decide) v xs.length _ R t ad d.length c (d.map (eS .i64)) W (by simp) (λj u q=> ?_) (by simp;intro _ _;rfl) (by unfold du;omega) (by omega) tE (λf w' y A _=>hh f w' y A);obtain⟨z,E,rfl⟩:∃z,d[j]?=tf z/\eS .i64 z=u:=by
   rw[qs] at q;cases hy:d[j]? with
   |none=>rw[hy] at q;simp at q
   |some z=>rw[hy] at q;exact⟨z,rfl,by simpa using q⟩
  obtain⟨g,tW,e,_,hc⟩:=tD (by intro e;rw[e] at E;simp at E);obtain rfl:=cy e;rw[cU];exact hc j z E
def az (i:Ins):aw×ml:=if qH i.op=ti then(i.d,ti) else(0,tj)
def readsOf (i:Ins):bp aw:=(if uy i.op=ti then[i.a] else[])++(if rT i.op=ti then[i.b] else[])++(if i.op=15 then i.args else[])
theorem kX (i:Ins)(w:World)(o:i.ok):zP 142 #[tv i.cells] w (.tuple #[Z U (az i).1,tt (az i).2]):=by
 obtain⟨op,d,a,b,f,n,q,t,u,v,x,y,z,args⟩:=i;obtain⟨⟨ao,cap,g⟩,A,n2,E,h⟩:=o;simp only at g h;subst g h;simp only[Ins.cells,az];have j:=zH (qh op);cases G:qH op with
 |true=>
  go_enter func142,ntmps142
  go_wp2_with (go_at_call 193;refine(j.out _).mono ?_;rintro e w' ⟨rfl,rfl⟩)
  go_ret2
  exact⟨rfl,(aq _ _).alloc (cd _) _⟩
 |false=>
  go_enter func142,ntmps142
  go_wp2_with (go_at_call 193;refine(j.out _).mono ?_;rintro e w' ⟨rfl,rfl⟩)
  go_ret2
  exact⟨rfl,(aq _ _).alloc (cd _) _⟩
theorem below_grown {B:bj}{a w w':World}{v:cw}{xs:bp aw}(h:aE B a w)(d:B<=w.heap.size)(e:aU w B v xs)(f:w.grownBy w' v.ownBlock):aE B a w':=
 h.grown f d (λk g=>(e.lt k g).1)
theorem ak.one (w:World)(z:aw){B:bj}(d:B=w.heap.size):ak (w.alloc (tA #[Z U z] 3)) (tf ⟨B,0,th⟩) [z]:=by
 subst d;intro _;refine⟨w.heap.size,0,rfl,by simp,λi u hi=> ?_⟩;rw[cI,World.cell?_alloc_new];have:i<1:=(bo.1 hi).1;obtain rfl:i=0:=by omega
 simp at hi;subst hi;rfl
theorem Cj {op:aw}(h:rT op=ti):uy op=ti:=by
 unfold rT at h;unfold uy;have:=mw h;refine cR ?_;simp at this⊢;omega
theorem qi (i:Ins)(h:i.args.length<=40):(readsOf i).length<=42:=by
 unfold readsOf;simp only[bm];have:(if uy i.op=ti then[i.a] else[]).length<=1:=by split<;>simp
 have:(if rT i.op=ti then[i.b] else[]).length<=1:=by split<;>simp
 have:(if i.op=15 then i.args else[]).length<=40:=by
  split
  ·exact h
  ·simp
 omega
theorem mD (i:Ins)(w:World)(tU:i.args_in w)(hl:i.args.length<=40):fj am 144 #[tv i.cells] w (iT w (readsOf i)):=by
 obtain⟨op,d,a,b,f,n,tG,ud,ue,tM,tP,ln,cl,args⟩:=i;obtain⟨⟨_,tR,n2,tS,h2⟩,ao,cap,h1,R⟩:=tU;simp only at h1 h2 R hl;subst h1 h2;simp only[Ins.cells,readsOf];have E:=zH (qh op);have tW:=zH R.at_;clear R;obtain⟨N,g⟩:=zE w.heap.size
 by_cases G:op=15
 ·subst G
  have e:(if uy 15=ti then[a] else[])++(if rT 15=ti then[b] else[])++(if (15:aw)=15 then args else[])=args:=by
   rw[bw (by decide),bw (by decide),cH rfl];rfl
  rw[e];go_enter qT,pH
  go_wp2_with (first
   |(go_at_call 193;refine(E.out _).mono ?_;rintro e w' ⟨rfl,rfl⟩)
   |(at_builtin;refine aL rfl (.tmp 28) (.tmp 30) rfl (N+1) (tn th 0 0) [] rfl (aU.nil _ _) ao args cap rfl (tW.out.below ((aq _ _).alloc (cd _) _)) ?c1 ?c2 ?_))
  case c1=>simp;omega
  case c2=>simp;omega
  intro v' w' o q;obtain⟨x,y,rfl⟩:=o.isSlice;have j:cg (aU w' (N+1) (tn x args.length y) args/\aE N w w'):=⟨by simpa using o,by
   refine below_grown (v:= tn th 0 0) (xs:=[]) ?_ ?_ (aU.nil _ _) q
   ·rw[<-g];exact(aq _ _).alloc (cd _) _
   ·simp;omega⟩
  clear o q
  try simp only[eK]
  go_wp2;go_ret;exact⟨_,_,rfl,by first|exact j.out.1.mono (iu N)|(rw[g];exact j.out.1.mono (iu N)),by first|exact j.out.2|(rw[g];exact j.out.2)⟩
 ·have up:(op==15)=tj:=by simpa using G
  rw[bw G,eA];clear G;cases ha:uy op with
  |false=>
   have hb:rT op=tj:=by
    cases h:rT op with
    |false=>rfl
    |true=>rw[Cj h] at ha;cases ha
   rw[hb,bw (by decide),bw (by decide)];go_enter qT,pH
   go_wp2_with (go_at_call 193;refine(E.out _).mono ?_;rintro e w' ⟨rfl,rfl⟩)
   go_ret;exact⟨th,0,rfl,aU.nil _ _,(aq _ _).alloc (by omega) _⟩
  |true=>
   cases hb:rT op with
   |false=>
    rw[cH rfl,bw (by decide),eA];go_enter qT,pH
    go_wp2_with (first
     |(go_at_call 193;refine(E.out _).mono ?_;rintro e w' ⟨rfl,rfl⟩)
     |(at_builtin;refine aL rfl (.tmp 14) (.tmp 17) rfl (N+1) (tn th 0 0) [] rfl (aU.nil _ _) _ [a] 1 rfl (ak.one _ _ (by simp[g])) ?c1 ?c2 ?_))
    case c1=>simp
    case c2=>simp;omega
    intro v' w' o q;obtain⟨x,y,rfl⟩:=o.isSlice;have j:cg (aU w' (N+1) (tn x [a].length y) [a]/\aE N w w'):=⟨by simpa using o,by
     refine below_grown (v:= tn th 0 0) (xs:=[]) ?_ ?_ (aU.nil _ _) q
     ·rw[<-g];exact((aq _ _).alloc (cd _) _).alloc (by simp) _
     ·simp;omega⟩
    have u:Ext (λ_=>lj) ((w.alloc (tA #[Z U op,Z U d,Z U a,Z U b,Z U f,Z U n,tm tG,tn ao args.length cap,tn tR n2 tS,Z U tM,Z U tP,Z U ln,Z U cl] 42)).alloc (tA #[Z U a] 3)) w':=Ext.of_grown q (λk z=>by simp[eL] at z);have W:w'.cell? ⟨N,0,th⟩=tf (Z U op):=by
     rw[u.cell (a:=⟨N,0,th⟩) (by simp;omega) (λh=>h),<-g,World.cell?_alloc_lt _ _ _ (by simp),World.cell?_alloc_new];rfl
    clear o q u
    try simp only[eK]
    go_wp2;go_ret;exact⟨_,_,rfl,by first|exact j.out.1.mono (iu N)|(rw[g];exact j.out.1.mono (iu N)),by first|exact j.out.2|(rw[g];exact j.out.2)⟩
   |true=>
    rw[cH rfl,cH rfl];go_enter qT,pH
    go_wp2_with (first
     |(go_at_call 193;refine(E.out _).mono ?_;rintro e w' ⟨rfl,rfl⟩)
     |(at_builtin;refine aL rfl (.tmp 14) (.tmp 17) rfl (N+1) (tn th 0 0) [] rfl (aU.nil _ _) _ [a] 1 rfl (ak.one _ _ (by simp[g])) ?c1 ?c2 ?_))
    case c1=>simp
    case c2=>simp;omega
    intro v1 t tD tE;obtain⟨J,K,rfl⟩:=tD.isSlice;have u:Ext (λ_=>lj) ((w.alloc (tA #[Z U op,Z U d,Z U a,Z U b,Z U f,Z U n,tm tG,tn ao args.length cap,tn tR n2 tS,Z U tM,Z U tP,Z U ln,Z U cl] 42)).alloc (tA #[Z U a] 3)) t:=Ext.of_grown tE (λk z=>by simp[eL] at z);have ur:t.cell? ⟨N,3,th⟩=tf (Z U b):=by
     rw[u.cell (a:=⟨N,3,th⟩) (by simp;omega) (λh=>h),<-g,World.cell?_alloc_lt _ _ _ (by simp),World.cell?_alloc_new];rfl
    have W:t.cell? ⟨N,0,th⟩=tf (Z U op):=by
     rw[u.cell (a:=⟨N,0,th⟩) (by simp;omega) (λh=>h),<-g,World.cell?_alloc_lt _ _ _ (by simp),World.cell?_alloc_new];rfl
    have A:cg (aU t (N+1) (tn J [a].length K) [a]/\aE N w t):=⟨by simpa using tD,by
     refine below_grown (v:= tn th 0 0) (xs:=[]) ?_ ?_ (aU.nil _ _) tE
     ·rw[<-g];exact((aq _ _).alloc (cd _) _).alloc (by simp) _
     ·simp;omega⟩
    have ua:N<=t.heap.size:=by have:=A.out.2.size;omega
    clear tD tE u
    try simp only[eK]
    go_wp2_with (at_builtin;refine aL rfl (.tmp 20) (.tmp 23) rfl (N+1) (tn J 1 K) [a] rfl (ownsRow_below A.out.1 ((aq _ _).alloc (cd _) _)) _ [b] 1 rfl (ak.one _ _ (by simp)) ?c3 ?c4 ?_)
    case c3=>simp
    case c4=>simp;omega
    intro v' w' o q;obtain⟨x,y,rfl⟩:=o.isSlice;have ub:N<t.heap.size:=by
     by_cases e:N<t.heap.size
     ·exact e
     ·exact fz W (by simp[World.cell?,fY (Nat.le_of_not_lt e)])
    have uv:w'.cell? ⟨N,0,th⟩=tf (Z U op):=by
     have uc:Ext (λk=>(cv J 1 K).ownBlock=tf k) (t.alloc (tA #[Z U b] 3)) w':=Ext.of_grown q (λk z=> .inl z);rw[uc.cell (a:=⟨N,0,th⟩) (by simp;omega) (λh=> ?_),World.cell?_alloc_lt _ _ _ ub]
     ·exact W
     ·have h3:=(A.out.1.lt N h).1
      omega
    have j:cg (aU w' (N+1) (tn x [a,b].length y) [a,b]/\aE N w w'):=⟨by simpa using o,by
     refine below_grown (v:= tn J 1 K) (xs:=[a]) ?_ ?_ (aU.mono (ownsRow_below A.out.1 ((aq _ _).alloc (cd _) _)) (iu N)) q
     ·exact A.out.2.alloc ua _
     ·simp;omega⟩
    clear o q
    try simp only[gh,eK]
    go_wp2;go_ret;exact⟨_,_,rfl,by first|exact j.out.1.mono (iu N)|(rw[g];exact j.out.1.mono (iu N)),by first|exact j.out.2|(rw[g];exact j.out.2)⟩
def fV {α:Type}(p:α->ml)(l:bp α):aw:=if l.findIdx p<l.length then((l.findIdx p:bj):aw) else-1
def Mo.stIx (m:Mo)(nm:bl):aw:=fV (λs=>s.s.nm==nm) m.ss
def Mo.fnIx (m:Mo)(nm:bl):aw:=fV (λf=>f.c.nm==nm) m.fs
def Mo.known (m:Mo)(t:Ty):ml:=if t.1=ti then decide (0<=m.stIx t.2) else t.2==kh
def ax (d:bp Vr)(v:aw):Ty:=match d[v.toNat]? with
 |some x=>x.ty
 |none=>bG
def isVar (n:bj)(v:aw):ml:=decide (0<=v)&&decide (v<(n:aw))
def aK (n:bj)(l:bp aw):ml:=l.all (isVar n)
def bN (b:ml)(f:aw):aw:=if b=ti then 0 else f
def aI (m:Mo)(d:bp Vr)(v f:aw):Ty×aw:=
 if (ax d v).1=tj then(bG,7)
 else match m.ss[(m.stIx (ax d v).2).toNat]? with
  |none=>(bG,15)
  |some s=>if f<0 then(bG,15) else match s.fs[f.toNat]? with
   |none=>(bG,15)
   |some x=>(x.ty,0)
def cu (m:Mo)(d:bp Vr)(i:Ins)(e:aw)(g:ml):aw:=
 if (aI m d i.a i.f).2≠0 then(aI m d i.a i.f).2
 else bN ((aI m d i.a i.f).1==ax d e&&(aI m d i.a i.f).1.1==g) 7
def il (d e:bp Vr):bj->bp aw->ml
 |_,[]=>ti
 |k,a::r=>ax d a==ax e (k:aw)&&il d e (k+1) r
def gU (m:Mo)(vs:bp Vr)(i:Ins):aw:=
 if i.f<0 then 15 else match m.fs[i.f.toNat]? with
  |none=>15
  |some g=>if (i.args.length:aw)≠g.c.par\/(g.vs.length:aw)<g.c.par then 7
   else if il vs g.vs 0 i.args=tj then 7 else bN (ax vs i.d==g.ret) 7
def dQ (d:bp Vr)(l:bp aw):aw:=bN (l.all λv=> !(ax d v).1) 7
def dZ (f:aw)(s:bl)(l:bp bl):aw:=if f≠0 then f else bN (l.any λx=>x==s) 3
def fZ:bp bl:=[⟨#[43]⟩,⟨#[45]⟩,⟨#[42]⟩,⟨#[47]⟩,⟨#[37]⟩,⟨#[60]⟩,⟨#[60,61]⟩,⟨#[62]⟩,⟨#[62,61]⟩,⟨#[61,61]⟩,⟨#[33,61]⟩]
def jb:bp bl:=[⟨#[61,61]⟩,⟨#[33,61]⟩]
def au (m:Mo)(e:bp Vr)(i:Ins):aw:=
 if i.op=1\/i.op=5 then dQ e [i.d]
 else if i.op=3 then dQ e [i.d,i.a]
 else if i.op=4 then dZ (dQ e [i.d,i.a,i.b]) i.sign fZ
 else if i.op=6 then dQ e [i.a]
 else if i.op=2 then bN (ax e i.d).1 7
 else if i.op=13 then bN (ax e i.a).1 7
 else if i.op=14 then dZ (bN (!(ax e i.d).1&&(ax e i.a).1) 7) i.sign jb
 else if i.op=9 then bN ((ax e i.a).1&&ax e i.a==ax e i.d) 7
 else if i.op=7\/i.op=10 then cu m e i i.d (decide (i.op=10))
 else if i.op=8\/i.op=11 then cu m e i i.b (decide (i.op=11))
 else if i.f<0 then 15 else match m.ss[i.f.toNat]? with
  |none=>15
  |some s=>bN (ax e i.d==(ti,s.s.nm)) 7
def aF (m:Mo)(g:Fn)(i:Ins):aw:=
 if i.op<1\/18<i.op then 3
 else if aK g.vs.length (readsOf i++(if qH i.op then[i.d] else[]))=tj then 15
 else if i.op=15 then gU m g.vs i
 else if i.op=16 then bN (isVar g.c.ins.length i.tI) 15
 else if i.op=17 then(if isVar g.c.ins.length i.tI&&isVar g.c.ins.length i.els then dQ g.vs [i.a] else 15)
 else if i.op=18 then bN (ax g.vs i.a==g.ret) 7
 else au m g.vs i
def aQ {α:Type}(f:α->aw):bp α->aw
 |[]=>0
 |x::r=>if f x=0 then aQ f r else f x
def codeF (m:Mo)(g:Fn):aw:=
 if 300<g.vs.length\/g.c.ins.length<1\/3000<g.c.ins.length then 2
 else if g.c.par<0\/(g.vs.length:aw)<g.c.par then 15
 else if aQ (aF m g) g.c.ins≠0 then aQ (aF m g) g.c.ins
 else bN (match g.c.ins.getLast? with
  |some i=>decide (16<=i.op)
  |none=>tj) 15
def dh (m:Mo):ml:=(m.ss.any λs=>decide (¬(s.fs.map Fd.nm).Nodup))||decide (¬(m.ss.map λs=>s.s.nm).Nodup)||decide (¬(m.fs.map λf=>f.c.nm).Nodup)
def bO (m:Mo):bp Ty:=(m.ss.flatMap λs=>s.fs.map Fd.ty)++(m.fs.flatMap λf=>f.ret::f.vs.map Vr.ty)
def dA:bl:=⟨#[109,97,105,110]⟩
def gZ (m:Mo):aw:=
 if 30<m.ss.length\/60<m.fs.length then 2
 else if dh m=ti then 6
 else if (bO m).all m.known=tj then 5
 else if aQ (codeF m) m.fs≠0 then aQ (codeF m) m.fs
 else bN (decide (0<=m.fnIx dA)&&(match m.fs[(m.fnIx dA).toNat]? with
  |some g=>decide (g.c.par=0)&& !g.c.rp
  |none=>tj)) 9
theorem aB (b:ml)(f:aw)(w:World):zS 99 #[tt b,Z U f] w (Z U (bN b f)):=by
 cases b with
 |true=>
  go_enter func99,ntmps99;go_wp2;go_ret;exact⟨rfl,rfl⟩
 |false=>
  go_enter func99,ntmps99;go_wp2;go_ret;exact⟨rfl,rfl⟩
def jg (m:Mo)(g:Fn):dl cw:=#[tn m.sA m.ss.length m.sC,tn m.fA m.fs.length m.fC,tm g.c.nm,Z U g.c.par,tn g.c.varsA g.c.nvars g.c.varsC,tt g.c.rp,tm g.c.rto,Z U g.c.rcl,tn g.c.fromA g.c.nfrom g.c.fromC,tn g.c.insA g.c.ins.length g.c.insC]
def vG (t:Ty):cw:= tv #[tt t.1,tm t.2]
theorem jN:∀(b:ml)(s:bl)(w:World),(m7 32 (tv #[tt b,tm s]) 0).run am w= .ok (tt b) w:=λb s w=>by kernel_rfl
theorem dW {n:bj}{v:aw}:isVar n v=ti↔0<=v/\v<(n:aw):=by simp[isVar]
theorem dM {w:World}{A:cC fg}{d:bp Vr}(o:aH Vr.cells 3 w w.heap.size A d){v:aw}(q:isVar d.length v=ti):
  ∃(k b f:bj) (x:Vr),v=(k:aw)/\k<d.length/\A=tf ⟨b,f,th⟩/\b<w.heap.size/\ax d v=(x.ptr,x.tgt)/\w.cell? ⟨b,f+k*3,th⟩=tf (tt x.ptr)/\w.cell? ⟨b,f+k*3+1,th⟩=tf (tm x.tgt):=by
 obtain⟨h0,u⟩:=dW.1 q;obtain⟨k,rfl⟩:∃k:bj,v=(k:aw):=⟨v.toNat,by omega⟩
 have g:k<d.length:=by omega
 obtain⟨x,h⟩:∃x,d[k]?=tf x:=⟨_,ap g⟩
 obtain⟨b,f,t,hb,j⟩:=o (by intro e;rw[e] at g;simp at g);refine⟨k,b,f,x,rfl,g,t,hb, ?_,j k x h 0 _ rfl,j k x h 1 _ rfl⟩;unfold ax;rw[ep,h];rfl
theorem gF (m:Mo)(g:Fn)(v:aw)(w:World)(d:aH Vr.cells 3 w w.heap.size g.c.varsA g.vs)(e:g.c.nvars=g.vs.length)(_:g.vs.length<=du)(f:isVar g.vs.length v=ti):
  zP 188 #[tv (jg m g),Z U v] w (vG (ax g.vs v)):=by
 obtain⟨k,b,o,x,rfl,q,h,hb,j,t,u⟩:=dM d f;have y:(k:aw)<(g.vs.length:aw):=by omega
 rw[j];unfold vG jg;rw[h,e];clear d f j h e;go_enter func188,ntmps188;go_wp2
 go_returns
 exact⟨rfl,((aq _ _).alloc (cd _) _).alloc (by simp) _⟩
theorem gG (m:Mo)(g:Fn)(v:aw)(w:World):zP 186 #[tv (jg m g),Z U v] w (tt (isVar g.c.ins.length v)):=by
 unfold jg
 by_cases h:0<=v
 ·have d:cg (decide (v<(g.c.ins.length:aw))=isVar g.c.ins.length v):=by
   unfold cg isVar;rw[cR h];rfl
  go_enter func186,ntmps186;go_wp2;go_ret;rw[<-d.out];exact⟨rfl,(aq _ _).alloc (cd _) _⟩
 ·have d:cg (tj=isVar g.c.ins.length v):=by
   unfold cg isVar;rw[cm h];rfl
  go_enter func186,ntmps186;go_wp2;go_ret;rw[<-d.out];exact⟨rfl,(aq _ _).alloc (cd _) _⟩
theorem xg (m:Mo)(g:Fn)(B:bj)(v:aw)(w:World)(e:w.heap[B]?=tf (tA (jg m g) 184 (0,0)))(f:g.c.nvars=g.vs.length):
  zS 224 #[Z U v,tr (tf ⟨B,0,th⟩)] w (tt (!isVar g.vs.length v)):=by
 have q:w.cell? ⟨B,4,th⟩=tf (tn g.c.varsA g.vs.length g.c.varsC):=by rw[bt _ _ _ _ _ _ e,<-f];rfl
 clear e f
 by_cases h:v<0
 ·have d:cg (ti= !isVar g.vs.length v):=by
   unfold cg isVar;rw[cm (by omega)];rfl
  go_enter func224,ntmps224;go_wp2;go_ret;rw[<-d.out];exact⟨rfl,rfl⟩
 ·have d:cg (decide ((g.vs.length:aw)<=v)= !isVar g.vs.length v):=by
   unfold cg isVar;rw[Bool.eq_iff_iff];simp;omega
  go_enter func224,ntmps224;go_wp2;go_ret;rw[<-d.out];exact⟨rfl,rfl⟩
theorem rU (m:Mo)(g:Fn)(B:bj)(v:aw)(w:World)(d:w.heap[B]?=tf (tA (jg m g) 184 (0,0)))(f:aH Vr.cells 3 w w.heap.size g.c.varsA g.vs)(h:g.c.nvars=g.vs.length)(j:g.vs.length<=du)(o:isVar g.vs.length v=ti):
  zP 225 #[Z U v,tr (tf ⟨B,0,th⟩)] w (tt (ax g.vs v).1):=by
 have q:=zH (gF m g v w f h j o);unfold vG at q;have t:=zH d;have x:=jN;have y:=(br.1 d).1;clear d f o h j;go_enter func225,ntmps225
 go_wp2_with (first
  |(refine cf rfl 184 _ rfl B rfl 184 (jg m g) (0,0) _ t.out cG rfl (by kernel_rfl) ?_)
  |(go_at_call 188;refine q.out.mono ?_;rintro e w2 ⟨rfl,hb⟩;have u:=zH hb;clear hb))
 go_ret;exact⟨rfl,u.out⟩
theorem iI {α:Type}{p:α->ml}{xs:bp α}{j:bj}{y:α}(f:∀z∈xs.take j,p z=tj)(g:xs[j]?=tf y)(o:p y=ti):fV p xs=(j:aw):=by
 obtain⟨d,e⟩:=bo.1 g;have h:xs.findIdx p=j:=(List.findIdx_eq d).2 ⟨by rw[e];exact o,λi hi=>by
  have:=f xs[i] (by rw[List.mem_take_iff_getElem];exact⟨i,by omega,rfl⟩);simpa using this⟩
 unfold fV;rw[h,cH d]
theorem fH {α:Type}{p:α->ml}{xs:bp α}(d:∀z∈xs,p z=tj):fV p xs= -1:=by
 have h:xs.findIdx p=xs.length:=List.findIdx_eq_length.2 (by simpa using d);unfold fV;rw[h,bw (by omega)]
theorem nO {α:Type}{p:α->ml}{xs:bp α}:decide (0<=fV p xs)=xs.any p:=by
 unfold fV
 by_cases h:xs.findIdx p<xs.length
 ·rw[cH h,cR (by omega)]
  obtain⟨x,d,e⟩:=List.findIdx_lt_length.1 h;exact(js.2 ⟨x,d,e⟩).symm
 ·rw[bw h]
  have f:=(List.findIdx_eq_length (p:=p) (xs:=xs)).1 (by have:=List.findIdx_le_length (p:=p) (xs:=xs);omega);symm;rw[cm (by omega),j8];intro x d;have:=f x d;simpa using this
theorem dE {α:Type}{p:α->ml}{xs:bp α}{j:bj}{y:α}(d:∀z∈xs.take j,p z=tj)(e:xs[j]?=tf y)(f:p y=tj):∀z∈xs.take (j+1),p z=tj:=dw (p:=λz=>p z=tj) d e f
theorem uz (w:World)(ao:cC fg)(xs:bp aw)(c B:bj)(p:aw->ml)(K:xs.length<=du)(h:ak w ao xs)
  (hf:∀W,aE w.heap.size w W->∀z∈xs,zP 224 #[Z U z,tr (tf ⟨B,0,th⟩)] W (tt (p z))):
  zP 152 #[tn ao xs.length c,.func (.func 224) #[] #[tr (tf ⟨B,0,th⟩)]] w (Z U (fV p xs)):=by
 have H:=zH h;have R:=zH hf;unfold du at K;clear h hf;go_enter pL,pc
 go_wp2_with fail
 go_loopw [8] (λk wr=>∃j:bj,j<=xs.length/\k= Z U (j:aw)/\(∀z∈xs.take j,p z=tj)/\aE w.heap.size w wr) (λk _=>xs.length-(dp k).toNat)
 case atStart=>exact⟨0,cM _,rfl,by simp,aq _ _⟩
 case round=>
  obtain⟨j,hj,rfl,g,hb⟩:=hrel
  by_cases t:j<xs.length
  ·obtain⟨y,q⟩:∃y,xs[j]?=tf y:=⟨_,ap t⟩
   obtain⟨g1,tD,rfl,tG,A⟩:=H.out.below hb (by intro e;rw[e] at t;simp at t);have d1:wr.cell? ⟨g1,tD+j,th⟩=tf (Z U y):=A j y q;have tM:(j:aw)<(xs.length:aw):=by omega
   have u:=zH (R.out wr hb y (ci q));obtain⟨d,v⟩:=zE (p y);rw[v] at u;have f:=zH hb;have E:=zH g;have G:=zH q;have J:=zH v;clear hb g q v A;cases d with
   |true=>
    go_wp2_with (go_at_call 224;refine u.out.mono ?_;rintro e w2 ⟨rfl,o⟩;have x:=zH o;clear o)
    go_ret;exact⟨by rw[iI E.out G.out J.out];rfl,f.out.trans (x.out.mono f.out.size)⟩
   |false=>
    go_wp2_with (go_at_call 224;refine u.out.mono ?_;rintro e w2 ⟨rfl,o⟩;have x:=zH o;clear o)
    go_roundw
    case rel=>exact⟨j+1,by omega,by go_num,dE E.out G.out J.out,f.out.trans (x.out.mono f.out.size)⟩
    case measure=>simp[dp];omega
  ·have tE:j=xs.length:=by omega
   subst tE;rw[cL] at g;have HM:=zH (fH g);have f:=zH hb;clear g hb;go_wp2;go_ret;exact⟨by rw[HM.out];rfl,f.out⟩
theorem xh (w:World)(ao:cC fg)(xs:bp aw)(c B:bj)(p:aw->ml)(K:xs.length<=du)(h:ak w ao xs)
  (hf:∀W,aE w.heap.size w W->∀z∈xs,zP 225 #[Z U z,tr (tf ⟨B,0,th⟩)] W (tt (p z))):
  zP 152 #[tn ao xs.length c,.func (.func 225) #[] #[tr (tf ⟨B,0,th⟩)]] w (Z U (fV p xs)):=by
 have H:=zH h;have R:=zH hf;unfold du at K;clear h hf;go_enter pL,pc
 go_wp2_with fail
 go_loopw [8] (λk wr=>∃j:bj,j<=xs.length/\k= Z U (j:aw)/\(∀z∈xs.take j,p z=tj)/\aE w.heap.size w wr) (λk _=>xs.length-(dp k).toNat)
 case atStart=>exact⟨0,cM _,rfl,by simp,aq _ _⟩
 case round=>
  obtain⟨j,hj,rfl,g,hb⟩:=hrel
  by_cases t:j<xs.length
  ·obtain⟨y,q⟩:∃y,xs[j]?=tf y:=⟨_,ap t⟩
   obtain⟨g1,tD,rfl,tG,A⟩:=H.out.below hb (by intro e;rw[e] at t;simp at t);have d1:wr.cell? ⟨g1,tD+j,th⟩=tf (Z U y):=A j y q;have tM:(j:aw)<(xs.length:aw):=by omega
   have u:=zH (R.out wr hb y (ci q));obtain⟨d,v⟩:=zE (p y);rw[v] at u;have f:=zH hb;have E:=zH g;have G:=zH q;have J:=zH v;clear hb g q v A;cases d with
   |true=>
    go_wp2_with (go_at_call 225;refine u.out.mono ?_;rintro e w2 ⟨rfl,o⟩;have x:=zH o;clear o)
    go_ret;exact⟨by rw[iI E.out G.out J.out];rfl,f.out.trans (x.out.mono f.out.size)⟩
   |false=>
    go_wp2_with (go_at_call 225;refine u.out.mono ?_;rintro e w2 ⟨rfl,o⟩;have x:=zH o;clear o)
    go_roundw
    case rel=>exact⟨j+1,by omega,by go_num,dE E.out G.out J.out,f.out.trans (x.out.mono f.out.size)⟩
    case measure=>simp[dp];omega
  ·have tE:j=xs.length:=by omega
   subst tE;rw[cL] at g;have HM:=zH (fH g);have f:=zH hb;clear g hb;go_wp2;go_ret;exact⟨by rw[HM.out];rfl,f.out⟩
theorem yS (xs:bp aw)(p:aw->ml):(!(xs.any p))=xs.all λv=> !p v:=by
 induction xs with
 |nil=>rfl
 |cons x r ih=>simp[Bool.not_or,ih]
theorem yT {xs:bp aw}{p:aw->ml}:(xs.any λv=> !p v)= !xs.all p:=by
 induction xs with
 |nil=>rfl
 |cons x r ih=>simp[ih,Bool.not_and]
theorem qj (m:Mo)(g:Fn)(ao:cC fg)(xs:bp aw)(c:bj)(w:World)(x:g.c.nvars=g.vs.length)(R:xs.length<=du)(h:ak w ao xs):
  zP 184 #[tv (jg m g),tn ao xs.length c] w (tt (aK g.vs.length xs)):=by
 obtain⟨N,o⟩:=zE w.heap.size;have q:cg (zP 116 #[tn ao xs.length c,.func (.func 224) #[] #[tr (tf ⟨N,0,th⟩)]] (w.alloc (tA (jg m g) 184)) (tt (!aK g.vs.length xs))):=by
  have t:=zH (uz (w.alloc (tA (jg m g) 184)) ao xs c N (λv=> !isVar g.vs.length v) R (h.below ((aq _ _).alloc (cd _) _)) (λW hW z _=>by
   have hB:W.heap[N]?=tf (tA (jg m g) 184 (0,0)):=by
    rw[hW.block N (by simp[o]),<-o];exact alloc_at _ _
   refine(xg m g N z W hB x).mono ?_;rintro e w' ⟨rfl,rfl⟩;exact⟨rfl,aq _ _⟩))
  have y:cg (decide (0<=fV (λv=> !isVar g.vs.length v) xs)= !aK g.vs.length xs):=by
   unfold cg aK;rw[nO,yT]
  obtain⟨W1,f⟩:=zE (w.alloc (tA (jg m g) 184));rw[f] at t⊢;obtain⟨z,A⟩:=zE (fV (λv=> !isVar g.vs.length v) xs);rw[A] at t y;clear f h A;go_enter func116,ntmps116
  go_wp2_with (go_at_call 152;refine t.out.mono ?_;rintro e w2 ⟨rfl,j⟩;have u:=zH j;clear j)
  go_ret;rw[<-y.out];exact⟨rfl,u.out⟩
 clear h x;obtain⟨W1,f⟩:=zE (w.alloc (tA (jg m g) 184));have tD:=zH f;have E:cg (aE N w W1):=by rw[<-f,<-o];exact(aq _ _).alloc (cd _) _
 rw[f] at q;obtain⟨J,G⟩:=zE (jg m g);rw[G] at f⊢;clear G tD;obtain⟨d,K⟩:=zE (aK g.vs.length xs);rw[K] at q⊢;clear K;go_enter func184,ntmps184
 go_wp2_with (go_at_call 116;refine q.out.mono ?_;rintro e w2 ⟨rfl,j⟩;have u:=zH j;clear j)
 go_ret;exact⟨by cases d<;>rfl,by rw[o];exact E.out.trans (u.out.mono (by have:=E.out.size;omega))⟩
theorem cB (m:Mo)(g:Fn)(ao:cC fg)(xs:bp aw)(c:bj)(w:World)(x:aH Vr.cells 3 w w.heap.size g.c.varsA g.vs)(R:g.c.nvars=g.vs.length)(tE:g.vs.length<=du)(hl:xs.length<=du)(h:ak w ao xs)(y:∀z∈xs,isVar g.vs.length z=ti):
  zP 187 #[tv (jg m g),tn ao xs.length c] w (Z U (dQ g.vs xs)):=by
 obtain⟨N,t⟩:=zE w.heap.size;have A:cg (zP 116 #[tn ao xs.length c,.func (.func 225) #[] #[tr (tf ⟨N,0,th⟩)]] (w.alloc (tA (jg m g) 184)) (tt (xs.any λv=>(ax g.vs v).1))):=by
  have E:aE w.heap.size w (w.alloc (tA (jg m g) 184)):=(aq _ _).alloc (cd _) _;have G:=zH (xh (w.alloc (tA (jg m g) 184)) ao xs c N (λv=>(ax g.vs v).1) hl (h.below E) (λW hW z u=>by
   have hB:W.heap[N]?=tf (tA (jg m g) 184 (0,0)):=by
    rw[hW.block N (by simp[t]),<-t];exact alloc_at _ _
   exact rU m g N z W hB ((x.grow E).grow hW) R tE (y z u)))
  have f:cg (decide (0<=fV (λv=>(ax g.vs v).1) xs)=(xs.any λv=>(ax g.vs v).1)):=nO;obtain⟨W1,j⟩:=zE (w.alloc (tA (jg m g) 184));rw[j] at G⊢;obtain⟨z,u⟩:=zE (fV (λv=>(ax g.vs v).1) xs);rw[u] at G f;obtain⟨d,o⟩:=zE (xs.any λv=>(ax g.vs v).1);rw[o] at f⊢;clear j h u E o x y;go_enter func116,ntmps116
  go_wp2_with (go_at_call 152;refine G.out.mono ?_;rintro e w2 ⟨rfl,q⟩;have K:=zH q;clear q)
  go_ret;rw[<-f.out];exact⟨rfl,K.out⟩
 clear h R x y;have f:cg (bN (!(xs.any λv=>(ax g.vs v).1)) 7=dQ g.vs xs):=by
  unfold cg dQ;congr 1;exact yS xs _
 obtain⟨W1,j⟩:=zE (w.alloc (tA (jg m g) 184));have tD:cg (aE N w W1):=by rw[<-j,<-t];exact(aq _ _).alloc (cd _) _
 rw[j] at A;obtain⟨J,hJ⟩:=zE (jg m g);rw[hJ] at j⊢;clear hJ;obtain⟨d,o⟩:=zE (xs.any λv=>(ax g.vs v).1);rw[o] at A f;clear o;go_enter func187,ntmps187
 go_wp2_with (first
  |(go_at_call 116;refine A.out.mono ?_;rintro e w2 ⟨rfl,q⟩;have K:=zH q;clear q)
  |(go_at_call 99;refine(aB _ _ _).mono ?_;rintro e w3 ⟨rfl,rfl⟩))
 go_ret;exact⟨by rw[<-f.out];cases d<;>rfl,by rw[t];exact tD.out.trans (K.out.mono (by have:=tD.out.size;omega))⟩
def aR (w:World)(ao:cC fg)(xs:bp bl):Prop:=
 xs≠[]->∃g d,ao=tf ⟨g,d,th⟩/\g<w.heap.size/\∀i z,xs[i]?=tf z->w.cell? ⟨g,d+i,th⟩=tf (tm z)
theorem aR.below {w w':World}{ao:cC fg}{xs:bp bl}(h:aR w ao xs)(hb:aE w.heap.size w w'):aR w' ao xs:=by
 intro f;obtain⟨g,j,e,d,o⟩:=h f;exact⟨g,j,e,cD d hb.size,λi z q=>by rw[hb.cell (p:=⟨g,_,th⟩) d];exact o i z q⟩
theorem rV (w:World)(c:bj)(ao:cC fg)(xs:bp bl)(z:bl)(E:xs.length<=du)(h:aR w ao xs):
  zS 270 #[tn ao xs.length c,tm z] w (Z U (fV (λx=>z==x) xs)):=by
 have H:=zH h;unfold du at E;clear h;go_enter func270,ntmps270
 go_wp2_with fail
 go_loop [8] (λk=>∃j:bj,j<=xs.length/\k= Z U (j:aw)/\∀x∈xs.take j,(z==x)=tj) (λk=>xs.length-(dp k).toNat)
 case atStart=>exact⟨0,cM _,rfl,by simp⟩
 case round=>
  obtain⟨j,W,rfl,f⟩:=hrel
  by_cases g:j<xs.length
  ·obtain⟨y,o⟩:∃y,xs[j]?=tf y:=⟨_,ap g⟩
   obtain⟨G,J,rfl,tD,t⟩:=H.out (by intro e;rw[e] at g;simp at g);have d1:w.cell? ⟨G,J+j,th⟩=tf (tm y):=t j y o;have tE:(j:aw)<(xs.length:aw):=by omega
   obtain⟨d,q⟩:=zE (z==y);have hd:(z.toList==y.toList)=d:=by rw[<-fx];exact q
   have u:=zH f;have v:=zH o;have A:=zH q;clear o t f q;cases d with
   |true=>
    go_wp2;go_ret;exact⟨by rw[iI u.out v.out A.out];rfl,rfl⟩
   |false=>
    go_wp2
    go_round
    case rel=>exact⟨j+1,by omega,by go_num,dE (p:=λx=>z==x) u.out v.out A.out⟩
    case measure=>simp[dp];omega
  ·have K:j=xs.length:=by omega
   subst K;rw[cL] at f;have R:=zH (fH (p:=λx=>z==x) f);clear f;go_wp2;go_ret;exact⟨by rw[R.out];rfl,rfl⟩
theorem nQ (f:aw)(s:bl)(xs:bp bl)(ao:cC fg)(c:bj)(w:World)(u:xs.length<=du)(h:aR w ao xs):
  zS 226 #[Z U f,tm s,tn ao xs.length c] w (Z U (dZ f s xs)):=by
 by_cases hf:f=0
 ·subst hf
  have j:cg (zS 252 #[tn ao xs.length c,tm s] w (tt (xs.any λx=>x==s))):=by
   have o:=zH (rV w c ao xs s u h);have g:cg (decide (0<=fV (λx=>s==x) xs)=(xs.any λx=>x==s)):=by
    unfold cg;rw[nO];congr 1;funext x;exact BEq.comm
   obtain⟨z,q⟩:=zE (fV (λx=>s==x) xs);rw[q] at o g;clear h q;go_enter func252,ntmps252
   go_wp2_with (go_at_call 270;refine o.out.mono ?_;rintro e w2 ⟨rfl,rfl⟩)
   go_ret;rw[<-g.out];exact⟨rfl,rfl⟩
  have g:cg (bN (xs.any λx=>x==s) 3=dZ 0 s xs):=rfl;obtain⟨d,t⟩:=zE (xs.any λx=>x==s);rw[t] at j g;clear h t;go_enter func226,ntmps226
  go_wp2_with (first
   |(go_at_call 252;refine j.out.mono ?_;rintro e w2 ⟨rfl,rfl⟩)
   |(go_at_call 99;refine(aB _ _ _).mono ?_;rintro e v ⟨rfl,rfl⟩))
  go_ret;exact⟨by rw[<-g.out];rfl,rfl⟩
 ·have g:cg (dZ f s xs=f):=cH hf
  have hb:(f==0)=tj:=by rw[cN];exact hf
  clear hf h;go_enter func226,ntmps226;go_wp2;go_ret;exact⟨by rw[g.out];rfl,rfl⟩
theorem yU (f:Fn)(B:bj)(nm:bl)(w:World)(d:w.heap[B]?=tf (tA #[tm nm] 9 (0,0))):
  zP 138 #[tv f.cells,tr (tf ⟨B,0,th⟩)] w (tt (f.c.nm==nm)):=by
 have q:=zR d 0 (tm nm);have g:=(br.1 d).1;have e:cg ((f.c.nm.toList==nm.toList)=(f.c.nm==nm)):=(fx _ _).symm;simp only[Fn.cells,dP.cells];clear d;go_enter func138,ntmps138;go_wp2;go_ret;rw[<-e.out];exact⟨rfl,(aq _ _).alloc (cd _) _⟩
theorem Bd (w:World)(ao:cC fg)(xs:bp Fn)(c B:bj)(nm:bl)(hn:xs.length<=du)(h:aH Fn.cells 8 w w.heap.size ao xs)(z:w.heap[B]?=tf (tA #[tm nm] 9 (0,0))):
  zP 137 #[tn ao xs.length c,.func (.func 138) #[] #[tr (tf ⟨B,0,th⟩)]] w (Z U (fV (λf=>f.c.nm==nm) xs)):=by
 have H:=zH h;have tD:=zH z;unfold du at hn;have tE:=(br.1 z).1;clear h z;go_enter func137,ntmps137
 go_wp2_with fail
 go_loopw [8] (λk wr=>∃j:bj,j<=xs.length/\k= Z U (j:aw)/\(∀f∈xs.take j,(f.c.nm==nm)=tj)/\aE w.heap.size w wr) (λk _=>xs.length-(dp k).toNat)
 case atStart=>exact⟨0,cM _,rfl,by simp,aq _ _⟩
 case round=>
  obtain⟨j,hj,rfl,o,hb⟩:=hrel
  by_cases A:j<xs.length
  ·obtain⟨f,t⟩:∃y,xs[j]?=tf y:=⟨_,ap A⟩
   obtain⟨v,x,rfl,tM,E⟩:=(H.out.grow hb) (by intro e;rw[e] at A;simp at A)
   have R:cg (∀k u,f.cells.toList[k]?=tf u->wr.cell? ((⟨v,x+j*8,th⟩:fg).add k)=tf u):=λk u hu=>by rw[cU];exact E j f t k u hu
   have d0:wr.cell? ⟨v,x+j*8,th⟩=tf (tm f.c.nm):=E j f t 0 _ rfl;have tP:(j:aw)<(xs.length:aw):=by omega
   have G:=zH (yU f B nm wr ((hb.block B tE).trans tD.out));obtain⟨d,J⟩:=zE (f.c.nm==nm);rw[J] at G;have g:=zH hb;have W:=zH o;have HY:=zH t;have HD:=zH J;clear hb o t J E;cases d with
   |true=>
    go_wp2_with (first
     |(refine ay rfl 38 _ rfl ⟨v,x+j*8,th⟩ rfl f.cells _ R.out cJ rfl (by kernel_rfl) ?_)
     |(go_at_call 138;refine G.out.mono ?_;rintro e w2 ⟨rfl,q⟩;have K:=zH q;clear q))
    go_ret;exact⟨by rw[iI (p:=λf:Fn=>f.c.nm==nm) W.out HY.out HD.out];rfl,g.out.trans (K.out.mono g.out.size)⟩
   |false=>
    go_wp2_with (first
     |(refine ay rfl 38 _ rfl ⟨v,x+j*8,th⟩ rfl f.cells _ R.out cJ rfl (by kernel_rfl) ?_)
     |(go_at_call 138;refine G.out.mono ?_;rintro e w2 ⟨rfl,q⟩;have K:=zH q;clear q))
    go_roundw
    case rel=>exact⟨j+1,by omega,by go_num,dE (p:=λf:Fn=>f.c.nm==nm) W.out HY.out HD.out,g.out.trans (K.out.mono g.out.size)⟩
    case measure=>simp[dp];omega
  ·have tG:j=xs.length:=by omega
   subst tG;rw[cL] at o;have HM:=zH (fH (p:=λf:Fn=>f.c.nm==nm) o);have g:=zH hb;clear o hb;go_wp2;go_ret;exact⟨by rw[HM.out];rfl,g.out⟩
theorem yV (m:Mo)(nm:bl)(w:World)(g:m.fs.length<=du)(h:aH Fn.cells 8 w w.heap.size m.fA m.fs):
  zP 98 #[tv m.cells,tm nm] w (Z U (m.fnIx nm)):=by
 obtain⟨N,d⟩:=zE w.heap.size;have f:cg (fj am 137 #[tn m.fA m.fs.length m.fC,.func (.func 138) #[] #[tr (tf ⟨N+1,0,th⟩)]] ((w.alloc (tA m.cells 25)).alloc (tA #[tm nm] 9)) λe w'=>e= tB (Z U (m.fnIx nm))/\aE N w w'):=by
  have hb:aE w.heap.size w ((w.alloc (tA m.cells 25)).alloc (tA #[tm nm] 9)):=((aq _ _).alloc (cd _) _).alloc (by simp) _;refine(Bd _ m.fA m.fs m.fC (N+1) nm g (h.grow hb) (by subst d;exact im _ _ _)).mono ?_;rintro e w' ⟨rfl,q⟩;exact⟨rfl,by rw[<-d];exact hb.trans (q.mono hb.size)⟩
 simp only[Mo.cells] at f⊢;clear h g;obtain⟨z,j⟩:=zE (m.fnIx nm);rw[j] at f⊢;clear j;go_enter func98,ntmps98
 go_wp2_with (go_at_call 137;(first|refine f.out.mono ?_|(rw[d];refine f.out.mono ?_));rintro e w2 ⟨rfl,o⟩;have t:=zH o;clear o)
 go_ret;exact⟨rfl,by rw[d];exact t.out⟩
theorem uA (f:St)(B:bj)(nm:bl)(w:World)(d:w.heap[B]?=tf (tA #[tm nm] 9 (0,0))):
  zP 182 #[tv f.cells,tr (tf ⟨B,0,th⟩)] w (tt (f.s.nm==nm)):=by
 have q:=zR d 0 (tm nm);have g:=(br.1 d).1;have e:cg ((f.s.nm.toList==nm.toList)=(f.s.nm==nm)):=(fx _ _).symm;simp only[St.cells,DN.cells];clear d;go_enter func182,ntmps182;go_wp2;go_ret;rw[<-e.out];exact⟨rfl,(aq _ _).alloc (cd _) _⟩
theorem Be (w:World)(ao:cC fg)(xs:bp St)(c B:bj)(nm:bl)(hn:xs.length<=du)(h:aH St.cells 4 w w.heap.size ao xs)(z:w.heap[B]?=tf (tA #[tm nm] 9 (0,0))):
  zP 181 #[tn ao xs.length c,.func (.func 182) #[] #[tr (tf ⟨B,0,th⟩)]] w (Z U (fV (λf=>f.s.nm==nm) xs)):=by
 have H:=zH h;have tD:=zH z;unfold du at hn;have tE:=(br.1 z).1;clear h z;go_enter func181,ntmps181
 go_wp2_with fail
 go_loopw [8] (λk wr=>∃j:bj,j<=xs.length/\k= Z U (j:aw)/\(∀f∈xs.take j,(f.s.nm==nm)=tj)/\aE w.heap.size w wr) (λk _=>xs.length-(dp k).toNat)
 case atStart=>exact⟨0,cM _,rfl,by simp,aq _ _⟩
 case round=>
  obtain⟨j,hj,rfl,o,hb⟩:=hrel
  by_cases A:j<xs.length
  ·obtain⟨f,t⟩:∃y,xs[j]?=tf y:=⟨_,ap A⟩
   obtain⟨v,x,rfl,tM,E⟩:=(H.out.grow hb) (by intro e;rw[e] at A;simp at A)
   have R:cg (∀k u,f.cells.toList[k]?=tf u->wr.cell? ((⟨v,x+j*4,th⟩:fg).add k)=tf u):=λk u hu=>by rw[cU];exact E j f t k u hu
   have d0:wr.cell? ⟨v,x+j*4,th⟩=tf (tm f.s.nm):=E j f t 0 _ rfl;have tP:(j:aw)<(xs.length:aw):=by omega
   have G:=zH (uA f B nm wr ((hb.block B tE).trans tD.out));obtain⟨d,J⟩:=zE (f.s.nm==nm);rw[J] at G;have g:=zH hb;have W:=zH o;have HY:=zH t;have HD:=zH J;clear hb o t J E;cases d with
   |true=>
    go_wp2_with (first
     |(refine ay rfl 90 _ rfl ⟨v,x+j*4,th⟩ rfl f.cells _ R.out nx rfl (by kernel_rfl) ?_)
     |(go_at_call 182;refine G.out.mono ?_;rintro e w2 ⟨rfl,q⟩;have K:=zH q;clear q))
    go_ret;exact⟨by rw[iI (p:=λf:St=>f.s.nm==nm) W.out HY.out HD.out];rfl,g.out.trans (K.out.mono g.out.size)⟩
   |false=>
    go_wp2_with (first
     |(refine ay rfl 90 _ rfl ⟨v,x+j*4,th⟩ rfl f.cells _ R.out nx rfl (by kernel_rfl) ?_)
     |(go_at_call 182;refine G.out.mono ?_;rintro e w2 ⟨rfl,q⟩;have K:=zH q;clear q))
    go_roundw
    case rel=>exact⟨j+1,by omega,by go_num,dE (p:=λf:St=>f.s.nm==nm) W.out HY.out HD.out,g.out.trans (K.out.mono g.out.size)⟩
    case measure=>simp[dp];omega
  ·have tG:j=xs.length:=by omega
   subst tG;rw[cL] at o;have HM:=zH (fH (p:=λf:St=>f.s.nm==nm) o);have g:=zH hb;clear o hb;go_wp2;go_ret;exact⟨by rw[HM.out];rfl,g.out⟩
theorem mE (m:Mo)(nm:bl)(w:World)(g:m.ss.length<=du)(h:aH St.cells 4 w w.heap.size m.sA m.ss):
  zP 135 #[tv m.cells,tm nm] w (Z U (m.stIx nm)):=by
 obtain⟨N,d⟩:=zE w.heap.size;have f:cg (fj am 181 #[tn m.sA m.ss.length m.sC,.func (.func 182) #[] #[tr (tf ⟨N+1,0,th⟩)]] ((w.alloc (tA m.cells 25)).alloc (tA #[tm nm] 9)) λe w'=>e= tB (Z U (m.stIx nm))/\aE N w w'):=by
  have hb:aE w.heap.size w ((w.alloc (tA m.cells 25)).alloc (tA #[tm nm] 9)):=((aq _ _).alloc (cd _) _).alloc (by simp) _;refine(Be _ m.sA m.ss m.sC (N+1) nm g (h.grow hb) (by subst d;exact im _ _ _)).mono ?_;rintro e w' ⟨rfl,q⟩;exact⟨rfl,by rw[<-d];exact hb.trans (q.mono hb.size)⟩
 simp only[Mo.cells] at f⊢;clear h g;obtain⟨z,j⟩:=zE (m.stIx nm);rw[j] at f⊢;clear j;go_enter func135,ntmps135
 go_wp2_with (go_at_call 181;(first|refine f.out.mono ?_|(rw[d];refine f.out.mono ?_));rintro e w2 ⟨rfl,o⟩;have t:=zH o;clear o)
 go_ret;exact⟨rfl,by rw[d];exact t.out⟩
structure nR (w:World)(m:Mo)(g:Fn):Prop where
 mo:m.inn w
 vars:aH Vr.cells 3 w w.heap.size g.c.varsA g.vs
 nv:g.c.nvars=g.vs.length
 vl:g.vs.length<=du
theorem nR.below {w w':World}{m:Mo}{g:Fn}(h:nR w m g)(hb:aE w.heap.size w w'):nR w' m g:=⟨h.mo.below hb,h.vars.grow hb,h.nv,h.vl⟩
theorem Bf {w:World}{m:Mo}{g:Fn}(h:m.inn w)(d:g.inn w):nR w m g:=⟨h,d.vars,d.nvars,by have:=d.code.nvars;rw[d.nvars] at this;exact this⟩
theorem mU {α:Type}(p:α->ml)(l:bp α):fV p l= -1\/∃(k:bj) (x:α),fV p l=(k:aw)/\l[k]?=tf x/\p x=ti:=by
 unfold fV
 by_cases h:l.findIdx p<l.length
 ·rw[cH h]
  exact .inr ⟨_,l[l.findIdx p],rfl,ap h,List.findIdx_getElem⟩
 ·rw[bw h];exact .inl rfl
theorem yX {m:Mo}{t:Ty}(h:m.known t=ti)(d:t.1=ti):∃(k:bj) (s:St),m.stIx t.2=(k:aw)/\m.ss[k]?=tf s:=by
 unfold Mo.known at h;rw[cH d] at h;have h0:=mw h;rcases mU (λs:St=>s.s.nm==t.2) m.ss with e|⟨k,s,e,f,_⟩
 ·unfold Mo.stIx at h0;omega
 ·exact⟨k,s,e,f⟩
theorem yY (m:Mo)(g:Fn)(b:ml)(s:bl)(w:World)(h:m.inn w):
  zP 96 #[tv (jg m g),tv #[tt b,tm s]] w (tt (m.known (b,s))):=by
 have d:cg (∀W,aE w.heap.size w W->zP 135 #[tv m.cells,tm s] W (Z U (m.stIx s))):=
  λW o=>mE m s W h.ns (h.below o).srow
 clear h;simp only[Mo.cells] at d;unfold jg;cases b with
 |false=>
  have f:cg (s.toList.isEmpty=m.known (tj,s)):=by
   unfold cg Mo.known;rw[bw (by simp)]
   show s.toList.isEmpty=(s==kh)
   rw[fx];have e:kh.toList=[]:=by rw[oA];rfl
   rw[e];cases s.toList<;>rfl
  clear d;go_enter func96,ntmps96;go_wp2;go_ret;rw[<-f.out];exact⟨rfl,((aq _ _).alloc (cd _) _).alloc (by simp) _⟩
 |true=>
  have f:cg (decide (0<=m.stIx s)=m.known (ti,s)):=rfl;obtain⟨z,j⟩:=zE (m.stIx s);rw[j] at f d;clear j;go_enter func96,ntmps96
  go_wp2_with (go_at_call 135;refine(d.out _ (((aq _ _).alloc (cd _) _).alloc (by simp) _)).mono ?_;rintro e w2 ⟨rfl,hb⟩;have q:=zH ((((aq w.heap.size w).alloc (cd _) _).alloc (by simp) _).trans (hb.mono (by simp;omega)));clear hb)
  go_ret;rw[<-f.out];exact⟨rfl,q.out⟩
theorem aO {fn:Func}{p u:Tmp}{d:fX}(h:fn.results=#[.cell p d,.tmp u])(tmps:dl cw)(w:World)(g:bj)(t:fX)(f:dl cw)(j:bj×bj)(fs:dl Field)
  (o:tmps.getD p undef= tr (tf ⟨g,0,th⟩))(q:w.heap[g]?=tf (tA f t j))
  (v:am.underlying d=tf (.struct fs))(hi:(am.info? d).map (·.size)=tf f.size):
  (rr fn tmps).run am w= .ok (.tuple #[tv f,tmps.getD u undef]) w:=by
 rw[results_cell_tmp h,o];have e:=nr w g t d f j _ q v rfl hi;simp only[asAddr,rn,kB,e]
theorem dV {W:World}{b:bj}{x y u v:cw}{t:fX}(h:W.heap[b]?=tf (tA #[x,y] t (0,0))):((W.setCell ⟨b,0,th⟩ u).setCell ⟨b,1,th⟩ v).heap[b]?=tf (tA #[u,v] t (0,0)):=by
 have d:=bk W b 0 _ _ u h;have e:=bk _ b 1 _ _ v d;simpa using e
theorem yZ (m:Mo)(g:Fn)(v f:aw)(w:World)(h:nR w m g)(hv:isVar g.vs.length v=ti)(hk:m.known (ax g.vs v)=ti):
  zP 253 #[tv (jg m g),Z U v,Z U f] w (.tuple #[vG (aI m g.vs v f).1,Z U (aI m g.vs v f).2]):=by
 have HT:cg (∀W,aE w.heap.size w W->zP 188 #[tv (jg m g),Z U v] W (vG (ax g.vs v))):=λW o=>gF m g v W (h.below o).vars h.nv h.vl hv;have HS:cg (∀W s,aE w.heap.size w W->zP 135 #[tv m.cells,tm s] W (Z U (m.stIx s))):=
  λW s o=>mE m s W h.mo.ns (h.mo.below o).srow
 simp only[Mo.cells] at HS;have G:cg (aI m g.vs v f=(if (ax g.vs v).1=tj then(bG,7) else match m.ss[(m.stIx (ax g.vs v).2).toNat]? with
  |none=>(bG,15)
  |some s=>if f<0 then(bG,15) else match s.fs[f.toNat]? with
   |none=>(bG,15)
   |some x=>(x.ty,0):Ty×aw)):=rfl
 have HJ:=zH h;have HK:=zH hk;obtain⟨⟨b,s⟩,ht⟩:∃t,ax g.vs v=t:=⟨_,rfl⟩
 rw[ht] at G HT HK;obtain⟨F,hF⟩:=zE (aI m g.vs v f);rw[hF] at G⊢;unfold vG at HT;clear h hv hk ht hF;have hst:∀(w:World)(c:dl cw),c.size=2->(dd ⟨w.heap.size,0,th⟩ [tt b,tm s] 0).run am (w.alloc (tA c 32))= .ok () (w.alloc (tA #[tt b,tm s] 32)):=λw c hc=>
  cr (P:=am) w 32 c #[tt b,tm s] (by show _=tf 2;kernel_rfl) hc (by simp[cn])
 obtain⟨N,J⟩:=zE w.heap.size;obtain⟨W1,R⟩:=zE ((w.alloc (tA (jg m g) 184)).alloc (tA #[tt tj,tm ⟨#[]⟩] 32));have tS:=vg R J;have vc:W1.heap.size=N+2:=by rw[<-R];simp[J]
 have vd:=vZ R J;have vf:=yo R J;have vh:=zH tS;have uc:=zH vd;have vm:=zH vf;have y:=zH J;have tD:=zH vc;clear tS vd vf vc;go_enter func253,ntmps253
 go_upto_region 2 with(first
  |(refine cf rfl 184 _ rfl N rfl 184 (jg m g) (0,0) _ uc.out cG rfl (by kernel_rfl) ?_)
  |(go_at_call 188;refine(HT.out _ (by rw[y.out];exact vh.out)).mono ?_;rintro e w2 ⟨rfl,vp⟩;have ud:=zH vp;clear vp))
 obtain⟨T,hT⟩:=zE w2.heap.size;obtain⟨d,tE⟩:=zE (w2.alloc (tA #[tt b,tm s] 32));rw[hT,tE];have tU:=zD tE ud;have xf:N+2<=T:=by rw[<-hT,<-tD.out];exact ud.out.size
 have xj:d.heap.size=T+1:=by rw[<-tE,<-hT];simp
 have vq:d.heap[N]?=tf (tA (jg m g) 184 (0,0)):=(tU.block N (by have:=tD.out;omega)).trans uc.out;have ue:d.heap[N+1]?=tf (tA #[tt tj,tm ⟨#[]⟩] 32 (0,0)):=(tU.block (N+1) (by have:=tD.out;omega)).trans vm.out;have vr:d.heap[T]?=tf (tA #[tt b,tm s] 32 (0,0)):=by rw[<-tE,<-hT];exact alloc_at _ _
 have tW:cg (aE N w d):=vh.out.trans (tU.mono (by have:=tD.out;omega));have tG:cg (∀W,aE d.heap.size d W->W.cell? ⟨N,0,th⟩=tf (tn m.sA m.ss.length m.sC)/\W.cell? ⟨N,1,th⟩=tf (tn m.fA m.fs.length m.fC)/\W.cell? ⟨T,0,th⟩=tf (tt b)/\W.cell? ⟨T,1,th⟩=tf (tm s)/\
   W.cell? ⟨N+1,0,th⟩=tf (tt tj)/\W.cell? ⟨N+1,1,th⟩=tf (tm ⟨#[]⟩)/\W.frozen? ⟨N+1,0,th⟩=tj/\W.frozen? ⟨N+1,1,th⟩=tj/\N+1<W.heap.size):=by
  intro W o;have q3:=(o.block N (by omega)).trans vq;have q4:=(o.block (N+1) (by omega)).trans ue;have q5:=(o.block T (by omega)).trans vr;refine⟨?_, ?_, ?_, ?_, ?_, ?_, ?_, ?_,(br.1 q4).1⟩
  ·rw[bt _ _ _ _ _ _ q3];rfl
  ·rw[bt _ _ _ _ _ _ q3];rfl
  ·rw[bt _ _ _ _ _ _ q5];rfl
  ·rw[bt _ _ _ _ _ _ q5];rfl
  ·rw[bt _ _ _ _ _ _ q4];rfl
  ·rw[bt _ _ _ _ _ _ q4];rfl
  ·exact de _ _ _ _ _ q4
  ·exact de _ _ _ _ _ q4
 have up:cg (∀W,aE d.heap.size d W->W.heap[N+1]?=tf (tA #[tt tj,tm ⟨#[]⟩] 32 (0,0))):=λW o=>(o.block (N+1) (by omega)).trans ue;obtain⟨k0,k1,k2,k3,k4,k5,k6,k7,xl⟩:=tG.out d (aq _ _);clear hst R tE tU vq ue vr uc vm HT hT ud J tD;cases b with
 |false=>
  have z:cg (F=(bG,7)):=by rw[G.out];rfl
  clear G;go_wp2;(try simp only[cQ,Exit.then]);refine dk (aO rfl _ _ (N+1) 32 _ (0,0) _ rfl (dV (up.out d (aq _ _))) dT (by kernel_rfl)) rfl ?_;rw[z.out,y.out];exact⟨rfl,(tW.out.setCell (by show N<=N+1;omega) _).setCell (by show N<=N+1;omega) _⟩
 |true=>
  obtain⟨k,j,ur,u⟩:=yX HK.out rfl;obtain⟨K,ua,hA,wj,vt⟩:=HJ.out.mo.srow (by intro e;rw[e] at u;simp at u);have xo:=(bo.1 u).1;have xp:(k:aw)<(m.ss.length:aw):=by omega
  have wk:K<N:=by have:=y.out;omega
  have hD:∀W,aE d.heap.size d W->W.cell? ⟨K,ua+k*4+1,th⟩=tf (tn j.s.fA j.fs.length j.s.fC):=λW o=>by
   rw[(tW.out.trans (o.mono (by omega))).cell (p:=⟨K,_,th⟩) wk];have:=vt k j u 1 _ rfl;rw[(HJ.out.mo.sin j (ci u)).nf] at this;exact this
  have HD:=zH hD;have hd:=hD d (aq _ _);have vu:cg (∀W,aE d.heap.size d W->zP 135 #[tv #[tn (tf ⟨K,ua,th⟩) m.ss.length m.sC,tn m.fA m.fs.length m.fC],tm s] W (Z U (k:aw))):=by
   intro W o;have:=HS.out W s (by rw[y.out];exact tW.out.trans (o.mono (by omega)));rw[ur,hA] at this;exact this
  have A:cg (F=(if f<0 then(bG,15) else match j.fs[f.toNat]? with
   |none=>(bG,15)
   |some x=>(x.ty,0):Ty×aw)):=by
   unfold cg;rw[G.out,bw (by decide)]
   show(match m.ss[(m.stIx s).toNat]? with
    |none=>(bG,15)
    |some s=>if f<0 then(bG,15) else match s.fs[f.toNat]? with
     |none=>(bG,15)
     |some x=>(x.ty,0):Ty×aw)=_
   rw[ur,ep,u]
  have wl:cg (j.inn w):=HJ.out.mo.sin j (ci u);have xr:=zH u;rw[hA] at k0 tG;clear G HK ur u hA wj vt hD HJ HS;go_wp2
  go_region_held3 (λw'=>w'.cell? ⟨N,0,th⟩=tf (tn (tf ⟨K,ua,th⟩) m.ss.length m.sC)/\w'.cell? ⟨N,1,th⟩=tf (tn m.fA m.fs.length m.fC)/\w'.cell? ⟨T,0,th⟩=tf (tt ti)/\w'.cell? ⟨T,1,th⟩=tf (tm s)/\w'.cell? ⟨K,ua+k*4+1,th⟩=tf (tn j.s.fA j.fs.length j.s.fC)/\aE d.heap.size d w')
   (first|(exact hS)|(exact⟨k0,k1,k2,k3,hd,hU (aq _ _) 1⟩))
   (first
    |(go_at_call 135;refine(vu.out _ (by go_split_ands;assumption)).mono ?_;rintro e tM ⟨rfl,vx⟩;have E:=(hU (aq d.heap.size d) 1).trans vx;have hS:=(let h:=tG.out _ E;(⟨h.1,h.2.1,h.2.2.1,h.2.2.2.1,HD.out _ E,E⟩:_/\_/\_/\_/\_/\_))))
  obtain⟨_,_,_,_,j4,j5,j6,j7,xt⟩:=tG.out tM E;have vy:=up.out tM E;have tP:cg (aE N w tM):=tW.out.trans (E.mono (by omega));have uv:=zH vy;clear hS E vx k0 k1 k2 k3 k4 k5 k6 k7 hd tG up vu HD vy
  by_cases ub:f<0
  ·have z:cg (F=(bG,15)):=by unfold cg;rw[A.out,cH ub]
   clear A;go_wp2;(try simp only[cQ,Exit.then]);refine dk (aO rfl _ _ (N+1) 32 _ (0,0) _ rfl (dV uv.out) dT (by kernel_rfl)) rfl ?_;rw[z.out,y.out];exact⟨rfl,(tP.out.setCell (by show N<=N+1;omega) _).setCell (by show N<=N+1;omega) _⟩
  obtain⟨q,rfl⟩:∃q:bj,f=(q:aw):=⟨f.toNat,by omega⟩
  rw[bw ub,ep] at A
  by_cases tR:q<j.fs.length
  ·obtain⟨x,hx⟩:∃x,j.fs[q]?=tf x:=⟨_,ap tR⟩
   have z:cg (F=(x.ty,0)):=by unfold cg;rw[A.out,hx]
   obtain⟨b1,we,hA1,tS,ux⟩:=wl.out.row (by intro e;rw[e] at tR;simp at tR);have wg:b1<N:=by have:=y.out;omega
   have e1:tM.cell? ⟨b1,we+q*5+1,th⟩=tf (tt x.ptr):=by rw[tP.out.cell (p:=⟨b1,_,th⟩) wg];exact ux q x hx 1 _ rfl
   have e2:tM.cell? ⟨b1,we+q*5+2,th⟩=tf (tm x.tgt):=by rw[tP.out.cell (p:=⟨b1,_,th⟩) wg];exact ux q x hx 2 _ rfl
   have ws:(q:aw)<(j.fs.length:aw):=by omega
   rw[hA1];clear A hx ux tS hA1 ub tR;go_wp2;(try simp only[cQ,Exit.then]);refine dk (aO rfl _ _ (N+1) 32 _ (0,0) _ rfl (dV uv.out) dT (by kernel_rfl)) rfl ?_;rw[z.out,y.out];exact⟨rfl,(tP.out.setCell (by show N<=N+1;omega) _).setCell (by show N<=N+1;omega) _⟩
  ·have z:cg (F=(bG,15)):=by unfold cg;rw[A.out,m9 (by omega)]
   have ws:¬(q:aw)<(j.fs.length:aw):=by omega
   clear A ub tR;go_wp2;(try simp only[cQ,Exit.then]);refine dk (aO rfl _ _ (N+1) 32 _ (0,0) _ rfl (dV uv.out) dT (by kernel_rfl)) rfl ?_;rw[z.out,y.out];exact⟨rfl,(tP.out.setCell (by show N<=N+1;omega) _).setCell (by show N<=N+1;omega) _⟩
theorem dB (a b:ml)(s t:bl)(w:World):(gt 10000 32 (tv #[tt a,tm s]) (tv #[tt b,tm t])).run am w= .ok (((a,s):Ty)==(b,t)) w:=by
 have d:am.underlying 32=tf (.struct (am.fieldsOf 32)):=by kernel_rfl
 have f:am.stoodInHeld 32=tj:=by kernel_rfl
 rw[show(10000:bj)=9999+1 from rfl,run_equalIn_agg w 9999 32 _ _ d f];simp only[Program.fieldsOf,dT];have e:(((a,s):Ty)==(b,t))=(a==b&&s.toList==t.toList):=by rw[<-fx];rfl
 rw[e];go_simp
 by_cases g:a=b<;>by_cases h:s.toList=t.toList<;>simp[g,h]
def jk (w:World)(N:bj)(m:Mo)(g:Fn):Prop:=w.cell? ⟨N,0,th⟩=tf (tn m.sA m.ss.length m.sC)/\w.cell? ⟨N,1,th⟩=tf (tn m.fA m.fs.length m.fC)/\w.cell? ⟨N,2,th⟩=tf (tm g.c.nm)/\w.cell? ⟨N,3,th⟩=tf (Z U g.c.par)/\w.cell? ⟨N,4,th⟩=tf (tn g.c.varsA g.c.nvars g.c.varsC)/\w.cell? ⟨N,5,th⟩=tf (tt g.c.rp)/\w.cell? ⟨N,6,th⟩=tf (tm g.c.rto)/\w.cell? ⟨N,7,th⟩=tf (Z U g.c.rcl)/\w.cell? ⟨N,8,th⟩=tf (tn g.c.fromA g.c.nfrom g.c.fromC)/\w.cell? ⟨N,9,th⟩=tf (tn g.c.insA g.c.ins.length g.c.insC)
theorem jk.of {w:World}{N:bj}{m:Mo}{g:Fn}(h:w.heap[N]?=tf (tA (jg m g) 184 (0,0))):jk w N m g:=by
 refine⟨?_, ?_, ?_, ?_, ?_, ?_, ?_, ?_, ?_, ?_⟩<;>(rw[bt _ _ _ _ _ _ h];rfl)
theorem kw (m:Mo)(g:Fn)(i:Ins)(q:aw)(v:ml)(w:World)(h:nR w m g)(ha:isVar g.vs.length i.a=ti)(ho:isVar g.vs.length q=ti)(hk:m.known (ax g.vs i.a)=ti):
  zP 227 #[tv (jg m g),tv i.cells,Z U q,tt v] w (Z U (cu m g.vs i q v)):=by
 have A:cg (∀W,aE w.heap.size w W->zP 188 #[tv (jg m g),Z U q] W (vG (ax g.vs q))):=λW x=>gF m g q W (h.below x).vars h.nv h.vl ho;have HF:cg (∀W,aE w.heap.size w W->zP 253 #[tv (jg m g),Z U i.a,Z U i.f] W (.tuple #[vG (aI m g.vs i.a i.f).1,Z U (aI m g.vs i.a i.f).2])):=λW x=>yZ m g i.a i.f W (h.below x) ha hk;clear h ha ho hk;have E:cg (cu m g.vs i q v=if (aI m g.vs i.a i.f).2≠0 then(aI m g.vs i.a i.f).2 else bN ((aI m g.vs i.a i.f).1==ax g.vs q&&(aI m g.vs i.a i.f).1.1==v) 7):=rfl;obtain⟨R,hR⟩:=zE (cu m g.vs i q v);obtain⟨⟨⟨b,s⟩,z⟩,u⟩:∃F,aI m g.vs i.a i.f=F:=⟨_,rfl⟩
 obtain⟨⟨b2,s2⟩,ht⟩:∃t,ax g.vs q=t:=⟨_,rfl⟩
 rw[u,ht,hR] at E;rw[u] at HF;rw[ht] at A;rw[hR];unfold vG at A HF;clear u ht hR;have hst:∀(w:World)(c:dl cw),c.size=2->(dd ⟨w.heap.size,0,th⟩ [tt b,tm s] 0).run am (w.alloc (tA c 32))= .ok () (w.alloc (tA #[tt b,tm s] 32)):=λw c hc=>
  cr (P:=am) w 32 c #[tt b,tm s] (by show _=tf 2;kernel_rfl) hc (by simp[cn])
 obtain⟨N,y⟩:=zE w.heap.size;obtain⟨W1,G⟩:=zE ((w.alloc (tA (jg m g) 184)).alloc (tA i.cells 42));have ua:=vg G y;have ub:W1.heap.size=N+2:=by rw[<-G];simp[y]
 have uc:=vZ G y;have tP:=yo G y;have i2:=zR tP 2 (Z U i.a);have i4:=zR tP 4 (Z U i.f);have ud:=zH ua;have tR:=zH uc;have J:=zH y;have tG:=zH ub;clear ua uc tP ub;go_enter func227,ntmps227
 go_upto_region 2 with(first
  |(refine cf rfl 184 _ rfl N rfl 184 (jg m g) (0,0) _ tR.out cG rfl (by kernel_rfl) ?_)
  |(go_at_call 253;refine(HF.out _ (by rw[J.out];exact ud.out)).mono ?_;rintro e w2 ⟨rfl,ue⟩;have tS:=zH ue;clear ue))
 obtain⟨T,K⟩:=zE w2.heap.size;obtain⟨j,tD⟩:=zE (w2.alloc (tA #[tt b,tm s] 32));rw[K,tD];have tU:=zD tD tS;have uv:N+2<=T:=by rw[<-K,<-tG.out];exact tS.out.size
 have ux:j.heap.size=T+1:=by rw[<-tD,<-K];simp
 have up:j.heap[N]?=tf (tA (jg m g) 184 (0,0)):=(tU.block N (by have:=tG.out;omega)).trans tR.out;have ur:j.heap[T]?=tf (tA #[tt b,tm s] 32 (0,0)):=by rw[<-tD,<-K];exact alloc_at _ _
 have tM:cg (aE N w j):=ud.out.trans (tU.mono (by have:=tG.out;omega));have o:cg (∀W,aE j.heap.size j W->jk W N m g/\W.cell? ⟨T,0,th⟩=tf (tt b)/\W.cell? ⟨T,1,th⟩=tf (tm s)):=by
  intro W x;have q5:=(x.block T (by omega)).trans ur;refine⟨jk.of ((x.block N (by omega)).trans up), ?_, ?_⟩
  ·rw[bt _ _ _ _ _ _ q5];rfl
  ·rw[bt _ _ _ _ _ _ q5];rfl
 clear hst G tD tU up ur tR K tS y tG i2 i4 HF
 by_cases u:z=0
 ·subst u
  have tE:cg (R=bN (((b,s):Ty)==(b2,s2)&&b==v) 7):=by unfold cg;rw[E.out,bw (by simp)]
  obtain⟨d,hd⟩:=zE (((b,s):Ty)==(b2,s2));have vc:∀w,(gt 10000 32 (tv #[tt b,tm s]) (tv #[tt b2,tm s2])).run am w= .ok d w:=λw=>by rw[dB,hd]
  rw[hd] at tE;have tW:cg (∀p:BW j,zP 188 #[tv (jg m g),Z U q] p.w (tv #[tt b2,tm s2])):=
   λp=>A.out p.w (by rw[J.out];exact tM.out.trans (p.h.mono (by omega)))
  unfold jg at tW;have k0:∀p:BW j,p.w.cell? ⟨N,0,th⟩=tf (tn m.sA m.ss.length m.sC):=λp=>(o.out p.w p.h).1.1;have k1:∀p:BW j,p.w.cell? ⟨N,1,th⟩=tf (tn m.fA m.fs.length m.fC):=λp=>(o.out p.w p.h).1.2.1;have k2:∀p:BW j,p.w.cell? ⟨N,2,th⟩=tf (tm g.c.nm):=λp=>(o.out p.w p.h).1.2.2.1;have k3:∀p:BW j,p.w.cell? ⟨N,3,th⟩=tf (Z U g.c.par):=λp=>(o.out p.w p.h).1.2.2.2.1;have k4:∀p:BW j,p.w.cell? ⟨N,4,th⟩=tf (tn g.c.varsA g.c.nvars g.c.varsC):=λp=>(o.out p.w p.h).1.2.2.2.2.1;have k5:∀p:BW j,p.w.cell? ⟨N,5,th⟩=tf (tt g.c.rp):=λp=>(o.out p.w p.h).1.2.2.2.2.2.1;have k6:∀p:BW j,p.w.cell? ⟨N,6,th⟩=tf (tm g.c.rto):=λp=>(o.out p.w p.h).1.2.2.2.2.2.2.1;have k7:∀p:BW j,p.w.cell? ⟨N,7,th⟩=tf (Z U g.c.rcl):=λp=>(o.out p.w p.h).1.2.2.2.2.2.2.2.1;have k8:∀p:BW j,p.w.cell? ⟨N,8,th⟩=tf (tn g.c.fromA g.c.nfrom g.c.fromC):=λp=>(o.out p.w p.h).1.2.2.2.2.2.2.2.2.1;have k9:∀p:BW j,p.w.cell? ⟨N,9,th⟩=tf (tn g.c.insA g.c.ins.length g.c.insC):=λp=>(o.out p.w p.h).1.2.2.2.2.2.2.2.2.2;have t0:∀p:BW j,p.w.cell? ⟨T,0,th⟩=tf (tt b):=λp=>(o.out p.w p.h).2.1;have t1:∀p:BW j,p.w.cell? ⟨T,1,th⟩=tf (tm s):=λp=>(o.out p.w p.h).2.2;clear hd E A o;cases d with
  |false=>
   go_wp2;refine zQ ?_
   repeat (go_big_quiet_step (first
    |(go_at_call 188;exact bg (tW.out _))
    |(go_at_call 99;exact jr (aB _ _ _))))
   refine dr ?_;rintro _ ⟨p,rfl⟩;go_wp2;go_ret;rw[tE.out,J.out];exact⟨rfl,tM.out.trans (p.h.mono (by omega))⟩
  |true=>
   go_wp2;refine zQ ?_
   repeat (go_big_quiet_step (first
    |(go_at_call 188;exact bg (tW.out _))
    |(go_at_call 99;exact jr (aB _ _ _))))
   refine dr ?_;rintro _ ⟨p,rfl⟩;go_wp2;go_ret;rw[tE.out,J.out];exact⟨rfl,tM.out.trans (p.h.mono (by omega))⟩
 ·have tE:cg (R=z):=by unfold cg;rw[E.out,cH u]
  have vd:(z==0)=tj:=by rw[cN];exact u
  clear E A o u;go_wp2;go_ret;rw[tE.out,J.out];exact⟨rfl,tM.out⟩
theorem jO (f g:bp Vr):∀(l:bp aw)(d:bj),il f g d l=ti↔∀k a,l[k]?=tf a->(ax f a==ax g ((d+k:bj):aw))=ti
 |[],d=>⟨λ_ k a h=>by simp at h,λ_=>rfl⟩
 |x::r,d=>by
  unfold il;rw[ej,jO f g r (d+1)];constructor
  ·rintro⟨j,o⟩ k a e
   cases k with
   |zero=>simp at e;subst e;exact j
   |succ k=>
    have:=o k a (by simpa using e);rw[show d+(k+1)=d+1+k by omega];exact this
  ·intro h
   refine⟨h 0 x rfl,λk a e=> ?_⟩;have:=h (k+1) a (by simpa using e);rw[show d+1+k=d+(k+1) by omega];exact this
theorem nT (f:Fn):(f.cells.all λx=>x.oneCell')=ti:=by
 rw[<-j9];simp[Fn.cells,dP.cells,cn]
theorem rW (m:Mo)(g:Fn)(i:Ins)(w:World)(h:nR w m g)(hi:i.args_in w)(xo:i.args.length<=du)(hd:isVar g.vs.length i.d=ti)(ha:∀a∈i.args,isVar g.vs.length a=ti):
  zP 185 #[tv (jg m g),tv i.cells] w (Z U (gU m g.vs i)):=by
 have HT:cg (∀W v,aE w.heap.size w W->isVar g.vs.length v=ti->zP 188 #[tv (jg m g),Z U v] W (vG (ax g.vs v))):=λW v hW hv=>gF m g v W (h.below hW).vars h.nv h.vl hv;obtain⟨⟨_,yy,n2,yW,xp⟩,ao,cap,xr,vt⟩:=hi;have HA:cg (ak w ao i.args):=vt.at_;have HJ:=zH h;have xt:=zH hd;have xF:=zH ha;have HE:cg (gU m g.vs i=if i.f<0 then 15 else match m.fs[i.f.toNat]? with
  |none=>15
  |some g'=>if (i.args.length:aw)≠g'.c.par\/(g'.vs.length:aw)<g'.c.par then 7
   else if il g.vs g'.vs 0 i.args=tj then 7 else bN (ax g.vs i.d==g'.ret) 7):=rfl
 obtain⟨R,hR⟩:=zE (gU m g.vs i);rw[hR] at HE⊢;clear hR h vt hd ha xp;obtain⟨N,hN⟩:=zE w.heap.size;obtain⟨W1,ua⟩:=zE ((w.alloc (tA (jg m g) 184)).alloc (tA i.cells 42));have vu:=vg ua hN;have ub:W1.heap.size=N+2:=by rw[<-ua];simp[hN]
 have uv:=vZ ua hN;have ux:=yo ua hN;have i4:=zR ux 4 (Z U i.f);have k1:=zR uv 1 (tn m.fA m.fs.length m.fC);have tG:=zH vu;have vx:=zH uv;have vy:=zH ux;have J:=zH hN;have zc:=zH ub;clear vu uv ux
 by_cases tR:i.f<0
 ·have G:cg (R=15):=by unfold cg;rw[HE.out,cH tR]
  clear HE HT;go_enter func185,ntmps185;go_wp2;go_ret;rw[G.out];exact⟨rfl,by first|exact tG.out|(rw[J.out];exact tG.out)⟩
 obtain⟨F,hF⟩:∃F:bj,i.f=(F:aw):=⟨i.f.toNat,by omega⟩
 rw[hF] at i4
 by_cases tS:F<m.fs.length
 ·obtain⟨f,uc⟩:∃f,m.fs[F]?=tf f:=⟨_,ap tS⟩
  have tM:cg (R=if (i.args.length:aw)≠f.c.par\/(f.vs.length:aw)<f.c.par then 7 else if il g.vs f.vs 0 i.args=tj then 7 else bN (ax g.vs i.d==f.ret) 7):=by
   unfold cg;rw[HE.out,bw tR,hF,ep,uc]
  have vc:=HJ.out.mo.fin f (ci uc);have xT:=zH vc;obtain⟨fb,we,vd,ya,wg⟩:=HJ.out.mo.frow (by intro e;rw[e] at tS;simp at tS);have yb:fb<N:=by omega
  have yd:cg (∀k u,f.cells.toList[k]?=tf u->W1.cell? ((⟨fb,we+F*8,th⟩:fg).add k)=tf u):=λk u hu=>by
   rw[cU,tG.out.cell (p:=⟨fb,_,th⟩) yb];exact wg F f uc k u hu
  have ye:(F:aw)<(m.fs.length:aw):=by omega
  obtain⟨A,tU⟩:=zE (W1.alloc (tA f.cells 38));have hst:∀(c:dl cw),c.size=8->(dd ⟨N+2,0,th⟩ f.cells.toList 0).run am (W1.alloc (tA c 38))= .ok () A:=λc hc=>by
   rw[<-tU,<-ub];exact cr (P:=am) W1 38 c f.cells (by show _=tf 8;kernel_rfl) hc (nT f)
  have ud:=gy tU;have wj:A.heap[N+2]?=tf (tA f.cells 38 (0,0)):=by rw[<-tU,<-ub];exact alloc_at _ _
  have zd:A.heap.size=N+3:=by rw[<-tU];simp[ub]
  have K:cg (aE N w A):=tG.out.trans (ud.mono (by omega));have ue:cg (∀W,aE A.heap.size A W->jk W N m g/\W.cell? ⟨N+1,1,th⟩=tf (Z U i.d)/\W.cell? ⟨N+1,7,th⟩=tf (tn ao i.args.length cap)/\
    W.cell? ⟨N+2,1,th⟩=tf (Z U f.c.par)/\W.cell? ⟨N+2,2,th⟩=tf (tn f.c.varsA f.vs.length f.c.varsC)/\W.cell? ⟨N+2,3,th⟩=tf (tt f.c.rp)/\W.cell? ⟨N+2,4,th⟩=tf (tm f.c.rto)):=by
   intro W hW;have q1:=(hW.block N (by omega)).trans ((ud.block N (by omega)).trans vx.out);have q2:=(hW.block (N+1) (by omega)).trans ((ud.block (N+1) (by omega)).trans vy.out);have q3:=(hW.block (N+2) (by omega)).trans wj;refine⟨jk.of q1, ?_, ?_, ?_, ?_, ?_, ?_⟩
   ·rw[bt _ _ _ _ _ _ q2];rfl
   ·rw[bt _ _ _ _ _ _ q2,<-xr];rfl
   ·rw[bt _ _ _ _ _ _ q3];rfl
   ·rw[bt _ _ _ _ _ _ q3,<-vc.nvars];rfl
   ·rw[bt _ _ _ _ _ _ q3];rfl
   ·rw[bt _ _ _ _ _ _ q3];rfl
  obtain⟨_,j1,j7,c1,c2,c3,c4⟩:=ue.out A (aq _ _);have vf:cg (∀(W:World)(v:aw),aE A.heap.size A W->isVar f.vs.length v=ti->∃(k b E:bj) (x:Vr),v=(k:aw)/\k<f.vs.length/\f.c.varsA=tf ⟨b,E,th⟩/\b<A.heap.size/\ax f.vs v=(x.ptr,x.tgt)/\W.cell? ⟨b,E+k*3,th⟩=tf (tt x.ptr)/\W.cell? ⟨b,E+k*3+1,th⟩=tf (tm x.tgt)):=by
   intro W v hW hv;have wk:aE w.heap.size w W:=by rw[J.out];exact K.out.trans (hW.mono (by omega))
   obtain⟨k,b,E,x,r1,r2,r3,r4,r5,r6,r7⟩:=dM (xT.out.vars) hv;exact⟨k,b,E,x,r1,r2,r3,by omega,r5,by rw[wk.cell (p:=⟨b,_,th⟩) r4];exact r6,by rw[wk.cell (p:=⟨b,_,th⟩) r4];exact r7⟩
  have zj:=zH vd;rw[vd] at k1;have zp:i.args.length<=9223372036854775807:=by unfold du at xo;omega
  clear HE tR hF tS uc vc vd wg ud wj vx vy ya;go_enter func185,ntmps185
  go_upto_region 4 with(first
   |(refine ay rfl 38 _ rfl ⟨fb,we+F*8,th⟩ rfl f.cells _ yd.out cJ rfl (by kernel_rfl) ?_))
  clear hst tU i4 k1
  by_cases tW:(i.args.length:aw)=f.c.par
  ·by_cases up:(f.vs.length:aw)<f.c.par
   ·have G:cg (R=7):=by unfold cg;rw[tM.out,cH (.inr up)]
    rw[<-tW] at up c1;clear tM HT;go_wp2;go_ret;rw[G.out,J.out];exact⟨rfl,K.out⟩
   ·have vh:cg (R=if il g.vs f.vs 0 i.args=tj then 7 else bN (ax g.vs i.d==f.ret) 7):=by
     unfold cg;rw[tM.out,bw (λh=>by rcases h with h|h;exact h tW;exact up h)]
    rw[<-tW] at up c1;have zr:i.args.length<=f.vs.length:=by omega
    clear tM tW
    go_upto_region 7 with(fail)
    go_loopw [44] (λc wr=>∃j:bj,j<=i.args.length/\c= Z U (j:aw)/\(∀k a,k<j->i.args[k]?=tf a->(ax g.vs a==ax f.vs (k:aw))=ti)/\aE A.heap.size A wr) (λc _=>i.args.length-(dp c).toNat)
    case atStart=>exact⟨0,cM _,rfl,λk a hk=>fz hk (by omega),aq _ _⟩
    case round=>
     obtain⟨j,hj,rfl,vm,hb⟩:=hrel;have q:=zH hb;have wl:=zH vm
     by_cases ur:j<i.args.length
     ·obtain⟨y,hy⟩:∃y,i.args[j]?=tf y:=⟨_,ap ur⟩
      obtain⟨ab,yi,yk,zs,ws⟩:=(HA.out.below (by rw[J.out];exact K.out.trans (hb.mono (by omega)))) (by intro e;rw[e] at ur;simp at ur)
      have d1:wr.cell? ⟨ab,yi+j,th⟩=tf (Z U y):=ws j y hy;have xf:isVar g.vs.length y=ti:=xF.out y (ci hy);obtain⟨z,b,E,x,zv,An,vp,yp,vq,_,_⟩:=vf.out wr (j:aw) hb (dW.2 ⟨by omega,by omega⟩);obtain rfl:z=j:=by omega
      have HX:cg (∀p:BW wr,p.w.cell? ⟨b,E+z*3,th⟩=tf (tt x.ptr)/\p.w.cell? ⟨b,E+z*3+1,th⟩=tf (tm x.tgt)):=by
       intro p;obtain⟨k2,b2,yq,x2,q1,q2,q3,q4,q5,q6,q7⟩:=vf.out p.w (z:aw) (q.out.trans (p.h.mono q.out.size)) (dW.2 ⟨by omega,by omega⟩);obtain rfl:z=k2:=by omega
       rw[vp] at q3;obtain⟨rfl,rfl⟩:b=b2/\E=yq:=by simpa using q3
       rw[vq] at q5;obtain⟨e1,e2⟩:x.ptr=x2.ptr/\x.tgt=x2.tgt:=by simpa using q5
       rw[e1,e2];exact⟨q6,q7⟩
      have x0:∀p:BW wr,p.w.cell? ⟨b,E+z*3,th⟩=tf (tt x.ptr):=λp=>(HX.out p).1;have x1:∀p:BW wr,p.w.cell? ⟨b,E+z*3+1,th⟩=tf (tm x.tgt):=λp=>(HX.out p).2;have At:b<wr.heap.size:=cD yp hb.size;obtain⟨⟨tb,ts⟩,tD⟩:∃t,ax g.vs y=t:=⟨_,rfl⟩
      have tP:cg (∀p:BW wr,zP 188 #[tv (jg m g),Z U y] p.w (tv #[tt tb,tm ts])):=λp=>by
       have:=HT.out p.w y (by rw[J.out];exact(K.out.trans (q.out.mono (by omega))).trans (p.h.mono (by have:=q.out.size;omega))) xf;rw[tD] at this;exact this
      unfold jg at tP;obtain⟨d,tE⟩:=zE (((tb,ts):Ty)==(x.ptr,x.tgt));have yr:∀w,(gt 10000 32 (tv #[tt tb,tm ts]) (tv #[tt x.ptr,tm x.tgt])).run am w= .ok d w:=λw=>by rw[dB,tE]
      have xj:cg ((ax g.vs y==ax f.vs (z:aw))=d):=by unfold cg;rw[tD,vq];exact tE
      have HY:=zH hy;have o:cg (∀p:BW wr,_):=λp:BW wr=>ue.out p.w (q.out.trans (p.h.mono q.out.size));have k0:∀p:BW wr,p.w.cell? ⟨N,0,th⟩=tf (tn m.sA m.ss.length m.sC):=λp=>(o.out p).1.1;have k1:∀p:BW wr,p.w.cell? ⟨N,1,th⟩=tf (tn m.fA m.fs.length m.fC):=λp=>(o.out p).1.2.1;have k2:∀p:BW wr,p.w.cell? ⟨N,2,th⟩=tf (tm g.c.nm):=λp=>(o.out p).1.2.2.1;have k3:∀p:BW wr,p.w.cell? ⟨N,3,th⟩=tf (Z U g.c.par):=λp=>(o.out p).1.2.2.2.1;have k4:∀p:BW wr,p.w.cell? ⟨N,4,th⟩=tf (tn g.c.varsA g.c.nvars g.c.varsC):=λp=>(o.out p).1.2.2.2.2.1;have k5:∀p:BW wr,p.w.cell? ⟨N,5,th⟩=tf (tt g.c.rp):=λp=>(o.out p).1.2.2.2.2.2.1;have k6:∀p:BW wr,p.w.cell? ⟨N,6,th⟩=tf (tm g.c.rto):=λp=>(o.out p).1.2.2.2.2.2.2.1;have k7:∀p:BW wr,p.w.cell? ⟨N,7,th⟩=tf (Z U g.c.rcl):=λp=>(o.out p).1.2.2.2.2.2.2.2.1;have k8:∀p:BW wr,p.w.cell? ⟨N,8,th⟩=tf (tn g.c.fromA g.c.nfrom g.c.fromC):=λp=>(o.out p).1.2.2.2.2.2.2.2.2.1;have k9:∀p:BW wr,p.w.cell? ⟨N,9,th⟩=tf (tn g.c.insA g.c.ins.length g.c.insC):=λp=>(o.out p).1.2.2.2.2.2.2.2.2.2;have Ax:∀p:BW wr,p.w.cell? ⟨N+2,2,th⟩=tf (tn (tf ⟨b,E,th⟩) f.vs.length f.c.varsC):=λp=>by rw[<-vp];exact(o.out p).2.2.2.2.1
      have AD:(z:aw)<(i.args.length:aw):=by omega
      have AE:(z:aw)<(f.vs.length:aw):=by omega
      subst yk;clear vm hb hy ws xf vp vq tD tE ur o;cases d with
      |true=>
       go_wp2_with fail
       refine zQ ?_
       repeat (go_big_quiet_step (first
        |(go_at_call 188;exact bg (tP.out _))))
       refine dr ?_;rintro _ ⟨p,rfl⟩;go_wp2;go_roundw
       case rel=>
        refine⟨z+1,by omega,by go_num,λk a hk vr=> ?_,q.out.trans (p.h.mono q.out.size)⟩
        by_cases e:k=z
        ·subst e
         rw[HY.out] at vr;obtain rfl:=cy vr;exact xj.out
        ·exact wl.out k a (by omega) vr
       case measure=>simp[dp];omega
      |false=>
       have G:cg (R=7):=by
        unfold cg;rw[vh.out,cH];cases hc:il g.vs f.vs 0 i.args with
        |false=>rfl
        |true=>
         have:=(jO _ _ _ _).1 hc z y HY.out;rw[cI,xj.out] at this;cases this
       go_wp2_with fail
       refine zQ ?_
       repeat (go_big_quiet_step (first
        |(go_at_call 188;exact bg (tP.out _))))
       refine dr ?_;rintro _ ⟨p,rfl⟩;go_wp2;go_ret;rw[G.out,J.out];exact⟨rfl,(K.out.trans (q.out.mono (by omega))).trans (p.h.mono (by have:=q.out.size;omega))⟩
     ·have yv:j=i.args.length:=by omega
      subst yv;have xl:cg (R=bN (ax g.vs i.d==f.ret) 7):=by
       unfold cg;rw[vh.out,bw];rw[(jO _ _ _ _).2 (λk a hk=>by rw[cI];exact wl.out k a (bo.1 hk).1 hk)];decide
      obtain⟨⟨tb,ts⟩,tD⟩:∃t,ax g.vs i.d=t:=⟨_,rfl⟩
      have tP:cg (∀p:BW wr,zP 188 #[tv (jg m g),Z U i.d] p.w (tv #[tt tb,tm ts])):=λp=>by
       have:=HT.out p.w i.d (by rw[J.out];exact(K.out.trans (q.out.mono (by omega))).trans (p.h.mono (by have:=q.out.size;omega))) xt.out;rw[tD] at this;exact this
      unfold jg at tP;obtain⟨d,tE⟩:=zE (((tb,ts):Ty)==(f.c.rp,f.c.rto));have yr:∀w,(gt 10000 32 (tv #[tt tb,tm ts]) (tv #[tt f.c.rp,tm f.c.rto])).run am w= .ok d w:=λw=>by rw[dB,tE]
      have G:cg (R=bN d 7):=by unfold cg;rw[xl.out,tD,<-tE];rfl
      have o:cg (∀p:BW wr,_):=λp:BW wr=>ue.out p.w (q.out.trans (p.h.mono q.out.size));have k0:∀p:BW wr,p.w.cell? ⟨N,0,th⟩=tf (tn m.sA m.ss.length m.sC):=λp=>(o.out p).1.1;have k1:∀p:BW wr,p.w.cell? ⟨N,1,th⟩=tf (tn m.fA m.fs.length m.fC):=λp=>(o.out p).1.2.1;have k2:∀p:BW wr,p.w.cell? ⟨N,2,th⟩=tf (tm g.c.nm):=λp=>(o.out p).1.2.2.1;have k3:∀p:BW wr,p.w.cell? ⟨N,3,th⟩=tf (Z U g.c.par):=λp=>(o.out p).1.2.2.2.1;have k4:∀p:BW wr,p.w.cell? ⟨N,4,th⟩=tf (tn g.c.varsA g.c.nvars g.c.varsC):=λp=>(o.out p).1.2.2.2.2.1;have k5:∀p:BW wr,p.w.cell? ⟨N,5,th⟩=tf (tt g.c.rp):=λp=>(o.out p).1.2.2.2.2.2.1;have k6:∀p:BW wr,p.w.cell? ⟨N,6,th⟩=tf (tm g.c.rto):=λp=>(o.out p).1.2.2.2.2.2.2.1;have k7:∀p:BW wr,p.w.cell? ⟨N,7,th⟩=tf (Z U g.c.rcl):=λp=>(o.out p).1.2.2.2.2.2.2.2.1;have k8:∀p:BW wr,p.w.cell? ⟨N,8,th⟩=tf (tn g.c.fromA g.c.nfrom g.c.fromC):=λp=>(o.out p).1.2.2.2.2.2.2.2.2.1;have k9:∀p:BW wr,p.w.cell? ⟨N,9,th⟩=tf (tn g.c.insA g.c.ins.length g.c.insC):=λp=>(o.out p).1.2.2.2.2.2.2.2.2.2;have g1:∀p:BW wr,p.w.cell? ⟨N+1,1,th⟩=tf (Z U i.d):=λp=>(o.out p).2.1;have g3:∀p:BW wr,p.w.cell? ⟨N+2,3,th⟩=tf (tt f.c.rp):=λp=>(o.out p).2.2.2.2.2.1;have g4:∀p:BW wr,p.w.cell? ⟨N+2,4,th⟩=tf (tm f.c.rto):=λp=>(o.out p).2.2.2.2.2.2;clear vm hb tD tE o vh xl vf HT ue
      go_wp2_with fail
      refine zQ ?_
      repeat (go_big_quiet_step (first
       |(go_at_call 188;exact bg (tP.out _))
       |(go_at_call 99;exact jr (aB _ _ _))))
      refine dr ?_;rintro _ ⟨p,rfl⟩;go_wp2;go_ret;rw[G.out,J.out];exact⟨rfl,(K.out.trans (q.out.mono (by omega))).trans (p.h.mono (by have:=q.out.size;omega))⟩
  ·have G:cg (R=7):=by unfold cg;rw[tM.out,cH (.inl tW)]
   clear tM HT;go_wp2;go_ret;rw[G.out,J.out];exact⟨rfl,K.out⟩
 ·have G:cg (R=15):=by unfold cg;rw[HE.out,bw tR,hF,ep,m9 (by omega)]
  have ye:¬((F:aw)<(m.fs.length:aw)):=by omega
  clear HE HT tS tR hF;go_enter func185,ntmps185;go_wp2;go_ret;rw[G.out];exact⟨rfl,by first|exact tG.out|(rw[J.out];exact tG.out)⟩
structure dI (w:World)(m:Mo)(g:Fn)(i:Ins):Prop where
 j:nR w m g
 d:qH i.op=ti->isVar g.vs.length i.d=ti
 a:uy i.op=ti->isVar g.vs.length i.a=ti
 b:rT i.op=ti->isVar g.vs.length i.b=ti
 kn:∀v,isVar g.vs.length v=ti->m.known (ax g.vs v)=ti
theorem za {w:World}{z:aw}:ak (w.alloc (tA #[Z U z] 3)) (tf ⟨w.heap.size,0,th⟩) [z]:=ak.one w z rfl
theorem GI {w:World}{y z:aw}:ak (w.alloc (tA #[Z U y,Z U z] 3)) (tf ⟨w.heap.size,0,th⟩) [y,z]:=by
 intro _;refine⟨w.heap.size,0,rfl,by simp,λk u d=> ?_⟩;rw[cI,World.cell?_alloc_new];have:k<2:=(bo.1 d).1;obtain rfl|rfl:k=0\/k=1:=by omega
 ·simp at d;subst d;rfl
 ·simp at d;subst d;rfl
theorem bT {m:Mo}{g:Fn}{i:Ins}{w:World}{k:aw}(t:i.op=k)(h:dI w m g i):∃N W1,w.heap.size=N/\(w.alloc (tA (jg m g) 184)).alloc (tA i.cells 42)=W1/\W1.heap.size=N+2/\N+1<W1.heap.size/\
  (W1.cell? ⟨N+1,0,th⟩=tf (Z U k)/\W1.cell? ⟨N+1,1,th⟩=tf (Z U i.d)/\W1.cell? ⟨N+1,2,th⟩=tf (Z U i.a)/\W1.cell? ⟨N+1,3,th⟩=tf (Z U i.b)/\W1.cell? ⟨N+1,4,th⟩=tf (Z U i.f)/\W1.cell? ⟨N+1,6,th⟩=tf (tm i.sign))/\
  cg (w.heap.size=N)/\cg (W1.heap.size=N+2)/\cg (aE N w W1)/\cg (W1.heap[N]?=tf (tA (jg m g) 184 (0,0)))/\cg (W1.heap[N+1]?=tf (tA i.cells 42 (0,0)))/\
  cg (∀W v,aE w.heap.size w W->isVar g.vs.length v=ti->zP 188 #[tv (jg m g),Z U v] W (vG (ax g.vs v)))/\cg (qH k=ti->isVar g.vs.length i.d=ti)/\cg (uy k=ti->isVar g.vs.length i.a=ti)/\cg (rT k=ti->isVar g.vs.length i.b=ti):=by
 obtain⟨N,o⟩:=zE w.heap.size;obtain⟨W1,q⟩:=zE ((w.alloc (tA (jg m g) 184)).alloc (tA i.cells 42));have u:W1.heap.size=N+2:=by rw[<-q];simp[o]
 have e:=yo q o;refine⟨N,W1,o,q,u,by omega,⟨?_,zR e 1 _,zR e 2 _,zR e 3 _,zR e 4 _,zR e 6 _⟩,o,u,vg q o,vZ q o,e,λW v x y=>gF m g v W (h.j.below x).vars h.j.nv h.j.vl y, ?_, ?_, ?_⟩
 ·rw[bt _ _ _ _ _ _ e,<-t];rfl
 ·rw[<-t];exact h.d
 ·rw[<-t];exact h.a
 ·rw[<-t];exact h.b
theorem Fq (m:Mo)(g:Fn)(i:Ins)(w:World)(f:i.op=1)(h:dI w m g i):
  zP 189 #[tv (jg m g),tv i.cells] w (Z U (au m g.vs i)):=by
 have o:cg (au m g.vs i=dQ g.vs [i.d]):=by
  unfold cg au;rw[f];rfl
 obtain⟨R,t⟩:=zE (au m g.vs i);rw[t] at o⊢;clear t;have u:=zH h;obtain⟨N,W1,hN,tG,tM,tP,⟨i0,i1,i2,i3,i4,i6⟩,v,x,E,G,tR,J,y,K,W⟩:=bT f h;clear h f;have z:cg (aE N w (W1.alloc (tA #[Z U i.d] 3))):=E.out.alloc (by omega) _;have tD:cg (zP 187 #[tv (jg m g),tn (tf ⟨N+2,0,th⟩) 1 1] (W1.alloc (tA #[Z U i.d] 3)) (Z U R)):=by
  have q:=u.out.j.below (by rw[v.out];exact z.out);have:=cB m g (tf ⟨N+2,0,th⟩) [i.d] 1 (W1.alloc (tA #[Z U i.d] 3)) q.vars q.nv q.vl (by unfold du;simp) (by rw[<-x.out];exact za) (by simp;exact y.out rfl);rw[<-o.out] at this;exact this
 clear o y K W J u;go_enter eW,eJ
 go_wp2_with (first
  |(refine cf rfl 184 _ rfl N rfl 184 (jg m g) (0,0) _ G.out cG rfl (by kernel_rfl) ?_)
  |(go_at_call 187;refine tD.out.mono ?_;rintro e w4 ⟨rfl,A⟩;have tE:=zH A;clear A))
 go_ret;refine⟨rfl, ?_⟩;rw[v.out];exact z.out.trans (tE.out.mono (by have:=x.out;simp;omega))
theorem Fs (m:Mo)(g:Fn)(i:Ins)(w:World)(f:i.op=5)(h:dI w m g i):
  zP 189 #[tv (jg m g),tv i.cells] w (Z U (au m g.vs i)):=by
 have o:cg (au m g.vs i=dQ g.vs [i.d]):=by
  unfold cg au;rw[f];rfl
 obtain⟨R,t⟩:=zE (au m g.vs i);rw[t] at o⊢;clear t;have u:=zH h;obtain⟨N,W1,hN,tG,tM,tP,⟨i0,i1,i2,i3,i4,i6⟩,v,x,E,G,tR,J,y,K,W⟩:=bT f h;clear h f;have z:cg (aE N w (W1.alloc (tA #[Z U i.d] 3))):=E.out.alloc (by omega) _;have tD:cg (zP 187 #[tv (jg m g),tn (tf ⟨N+2,0,th⟩) 1 1] (W1.alloc (tA #[Z U i.d] 3)) (Z U R)):=by
  have q:=u.out.j.below (by rw[v.out];exact z.out);have:=cB m g (tf ⟨N+2,0,th⟩) [i.d] 1 (W1.alloc (tA #[Z U i.d] 3)) q.vars q.nv q.vl (by unfold du;simp) (by rw[<-x.out];exact za) (by simp;exact y.out rfl);rw[<-o.out] at this;exact this
 clear o y K W J u;go_enter eW,eJ
 go_wp2_with (first
  |(refine cf rfl 184 _ rfl N rfl 184 (jg m g) (0,0) _ G.out cG rfl (by kernel_rfl) ?_)
  |(go_at_call 187;refine tD.out.mono ?_;rintro e w4 ⟨rfl,A⟩;have tE:=zH A;clear A))
 go_ret;refine⟨rfl, ?_⟩;rw[v.out];exact z.out.trans (tE.out.mono (by have:=x.out;simp;omega))
theorem Fu (m:Mo)(g:Fn)(i:Ins)(w:World)(d:i.op=6)(h:dI w m g i):
  zP 189 #[tv (jg m g),tv i.cells] w (Z U (au m g.vs i)):=by
 have f:cg (au m g.vs i=dQ g.vs [i.a]):=by
  unfold cg au;rw[d];rfl
 obtain⟨R,q⟩:=zE (au m g.vs i);rw[q] at f⊢;clear q;have t:=zH h;obtain⟨N,W1,hN,tE,tG,tM,⟨i0,i1,i2,i3,i4,i6⟩,u,v,A,E,tP,G,J,x,K⟩:=bT d h;clear h d;have y:cg (aE N w (W1.alloc (tA #[Z U i.a] 3))):=A.out.alloc (by omega) _;have W:cg (zP 187 #[tv (jg m g),tn (tf ⟨N+2,0,th⟩) 1 1] (W1.alloc (tA #[Z U i.a] 3)) (Z U R)):=by
  have o:=t.out.j.below (by rw[u.out];exact y.out);have:=cB m g (tf ⟨N+2,0,th⟩) [i.a] 1 (W1.alloc (tA #[Z U i.a] 3)) o.vars o.nv o.vl (by unfold du;simp) (by rw[<-v.out];exact za) (by simp;exact x.out rfl);rw[<-f.out] at this;exact this
 clear f J x K G t;go_enter eW,eJ
 go_wp2_with (first
  |(refine cf rfl 184 _ rfl N rfl 184 (jg m g) (0,0) _ E.out cG rfl (by kernel_rfl) ?_)
  |(go_at_call 187;refine W.out.mono ?_;rintro e w4 ⟨rfl,z⟩;have tD:=zH z;clear z))
 go_ret;refine⟨rfl, ?_⟩;rw[u.out];exact y.out.trans (tD.out.mono (by have:=v.out;simp;omega))
theorem Fv (m:Mo)(g:Fn)(i:Ins)(w:World)(f:i.op=3)(h:dI w m g i):
  zP 189 #[tv (jg m g),tv i.cells] w (Z U (au m g.vs i)):=by
 have o:cg (au m g.vs i=dQ g.vs [i.d,i.a]):=by
  unfold cg au;rw[f];rfl
 obtain⟨R,t⟩:=zE (au m g.vs i);rw[t] at o⊢;clear t;have u:=zH h;obtain⟨N,W1,hN,tG,tM,tP,⟨i0,i1,i2,i3,i4,i6⟩,v,x,G,J,tR,K,y,z,W⟩:=bT f h;clear h f;have A:cg (aE N w (W1.alloc (tA #[Z U i.d,Z U i.a] 3))):=G.out.alloc (by omega) _;have tD:cg (zP 187 #[tv (jg m g),tn (tf ⟨N+2,0,th⟩) 2 2] (W1.alloc (tA #[Z U i.d,Z U i.a] 3)) (Z U R)):=by
  have q:=u.out.j.below (by rw[v.out];exact A.out);have:=cB m g (tf ⟨N+2,0,th⟩) [i.d,i.a] 2 (W1.alloc (tA #[Z U i.d,Z U i.a] 3)) q.vars q.nv q.vl (by unfold du;simp) (by rw[<-x.out];exact GI) (by simp;exact⟨y.out rfl,z.out rfl⟩);rw[<-o.out] at this;exact this
 clear o y z W K u;go_enter eW,eJ
 go_wp2_with (first
  |(refine cf rfl 184 _ rfl N rfl 184 (jg m g) (0,0) _ J.out cG rfl (by kernel_rfl) ?_)
  |(go_at_call 187;refine tD.out.mono ?_;rintro e w4 ⟨rfl,E⟩;have tE:=zH E;clear E))
 go_ret;refine⟨rfl, ?_⟩;rw[v.out];exact A.out.trans (tE.out.mono (by have:=x.out;simp;omega))
theorem Fw (m:Mo)(g:Fn)(i:Ins)(w:World)(f:i.op=2)(h:dI w m g i):
  zP 189 #[tv (jg m g),tv i.cells] w (Z U (au m g.vs i)):=by
 have j:cg (au m g.vs i=bN (ax g.vs i.d).1 7):=by
  unfold cg au;rw[f];rfl
 obtain⟨R,o⟩:=zE (au m g.vs i);rw[o] at j⊢;clear o;have y:=zH h;obtain⟨N,W1,K,W,tD,tE,⟨i0,i1,i2,i3,i4,i6⟩,q,tG,t,z,tM,u,v,A,E⟩:=bT f h;clear h f;have G:cg (zP 188 #[tv (jg m g),Z U i.d] W1 (tv #[tt (ax g.vs i.d).1,tm (ax g.vs i.d).2])):=u.out W1 i.d (by rw[q.out];exact t.out) (v.out rfl);have tP:=jN;clear v A E u y;go_enter eW,eJ
 go_wp2_with (first
  |(refine cf rfl 184 _ rfl N rfl 184 (jg m g) (0,0) _ z.out cG rfl (by kernel_rfl) ?_)
  |(go_at_call 188;refine G.out.mono ?_;rintro e w4 ⟨rfl,x⟩;have J:=zH x;clear x)
  |(go_at_call 99;refine(aB _ _ _).mono ?_;rintro e w9 ⟨rfl,rfl⟩))
 go_ret;rw[j.out,q.out];exact⟨rfl,t.out.trans (J.out.mono (by omega))⟩
theorem Ei (m:Mo)(g:Fn)(i:Ins)(w:World)(d:i.op=13)(h:dI w m g i):
  zP 189 #[tv (jg m g),tv i.cells] w (Z U (au m g.vs i)):=by
 have f:cg (au m g.vs i=bN (ax g.vs i.a).1 7):=by
  unfold cg au;rw[d];rfl
 obtain⟨R,j⟩:=zE (au m g.vs i);rw[j] at f⊢;clear j;have x:=zH h;obtain⟨N,W1,J,K,W,tD,⟨i0,i1,i2,i3,i4,i6⟩,o,tE,q,y,tG,t,z,u,A⟩:=bT d h;clear h d;have E:cg (zP 188 #[tv (jg m g),Z U i.a] W1 (tv #[tt (ax g.vs i.a).1,tm (ax g.vs i.a).2])):=t.out W1 i.a (by rw[o.out];exact q.out) (u.out rfl);have tM:=jN;clear z u A t x;go_enter eW,eJ
 go_wp2_with (first
  |(refine cf rfl 184 _ rfl N rfl 184 (jg m g) (0,0) _ y.out cG rfl (by kernel_rfl) ?_)
  |(go_at_call 188;refine E.out.mono ?_;rintro e w4 ⟨rfl,v⟩;have G:=zH v;clear v)
  |(go_at_call 99;refine(aB _ _ _).mono ?_;rintro e w9 ⟨rfl,rfl⟩))
 go_ret;rw[f.out,o.out];exact⟨rfl,q.out.trans (G.out.mono (by omega))⟩
theorem Fy (m:Mo)(g:Fn)(i:Ins)(w:World)(f:i.op=7)(h:dI w m g i):
  zP 189 #[tv (jg m g),tv i.cells] w (Z U (au m g.vs i)):=by
 have t:cg (au m g.vs i=cu m g.vs i i.d tj):=by
  unfold cg au;rw[f];rfl
 obtain⟨R,u⟩:=zE (au m g.vs i);rw[u] at t⊢;clear u;have o:=zH h;obtain⟨N,W1,hN,tD,tE,tG,⟨i0,i1,i2,i3,i4,i6⟩,v,tM,x,A,E,G,y,q,J⟩:=bT f h;clear h f;have K:cg (zP 227 #[tv (jg m g),tv i.cells,Z U i.d,tt tj] W1 (Z U (cu m g.vs i i.d tj))):=
  kw m g i i.d tj W1 (o.out.j.below (by rw[v.out];exact x.out)) (q.out rfl) (y.out rfl) (o.out.kn _ (q.out rfl))
 clear y q J G o;go_enter eW,eJ
 go_wp2_with (first
  |(refine cf rfl 184 _ rfl N rfl 184 (jg m g) (0,0) _ A.out cG rfl (by kernel_rfl) ?_)
  |(refine cf rfl 42 _ rfl (N+1) rfl 42 i.cells (0,0) _ E.out cA rfl (by kernel_rfl) ?_)
  |(go_at_call 227;refine K.out.mono ?_;rintro e w4 ⟨rfl,z⟩;have W:=zH z;clear z))
 go_ret;rw[t.out,v.out];exact⟨rfl,x.out.trans (W.out.mono (by omega))⟩
theorem Ej (m:Mo)(g:Fn)(i:Ins)(w:World)(f:i.op=10)(h:dI w m g i):
  zP 189 #[tv (jg m g),tv i.cells] w (Z U (au m g.vs i)):=by
 have t:cg (au m g.vs i=cu m g.vs i i.d ti):=by
  unfold cg au;rw[f];rfl
 obtain⟨R,u⟩:=zE (au m g.vs i);rw[u] at t⊢;clear u;have o:=zH h;obtain⟨N,W1,hN,tD,tE,tG,⟨i0,i1,i2,i3,i4,i6⟩,v,tM,x,A,E,G,y,q,J⟩:=bT f h;clear h f;have K:cg (zP 227 #[tv (jg m g),tv i.cells,Z U i.d,tt ti] W1 (Z U (cu m g.vs i i.d ti))):=
  kw m g i i.d ti W1 (o.out.j.below (by rw[v.out];exact x.out)) (q.out rfl) (y.out rfl) (o.out.kn _ (q.out rfl))
 clear y q J G o;go_enter eW,eJ
 go_wp2_with (first
  |(refine cf rfl 184 _ rfl N rfl 184 (jg m g) (0,0) _ A.out cG rfl (by kernel_rfl) ?_)
  |(refine cf rfl 42 _ rfl (N+1) rfl 42 i.cells (0,0) _ E.out cA rfl (by kernel_rfl) ?_)
  |(go_at_call 227;refine K.out.mono ?_;rintro e w4 ⟨rfl,z⟩;have W:=zH z;clear z))
 go_ret;rw[t.out,v.out];exact⟨rfl,x.out.trans (W.out.mono (by omega))⟩
theorem Fz (m:Mo)(g:Fn)(i:Ins)(w:World)(d:i.op=8)(h:dI w m g i):
  zP 189 #[tv (jg m g),tv i.cells] w (Z U (au m g.vs i)):=by
 have q:cg (au m g.vs i=cu m g.vs i i.b tj):=by
  unfold cg au;rw[d];rfl
 obtain⟨R,t⟩:=zE (au m g.vs i);rw[t] at q⊢;clear t;have f:=zH h;obtain⟨N,W1,W,tD,tE,tG,⟨i0,i1,i2,i3,i4,i6⟩,u,tM,v,z,A,E,G,o,x⟩:=bT d h;clear h d;have J:cg (zP 227 #[tv (jg m g),tv i.cells,Z U i.b,tt tj] W1 (Z U (cu m g.vs i i.b tj))):=
  kw m g i i.b tj W1 (f.out.j.below (by rw[u.out];exact v.out)) (o.out rfl) (x.out rfl) (f.out.kn _ (o.out rfl))
 clear G o x E f;go_enter eW,eJ
 go_wp2_with (first
  |(refine cf rfl 184 _ rfl N rfl 184 (jg m g) (0,0) _ z.out cG rfl (by kernel_rfl) ?_)
  |(refine cf rfl 42 _ rfl (N+1) rfl 42 i.cells (0,0) _ A.out cA rfl (by kernel_rfl) ?_)
  |(go_at_call 227;refine J.out.mono ?_;rintro e w4 ⟨rfl,y⟩;have K:=zH y;clear y))
 go_ret;rw[q.out,u.out];exact⟨rfl,v.out.trans (K.out.mono (by omega))⟩
theorem El (m:Mo)(g:Fn)(i:Ins)(w:World)(d:i.op=11)(h:dI w m g i):
  zP 189 #[tv (jg m g),tv i.cells] w (Z U (au m g.vs i)):=by
 have q:cg (au m g.vs i=cu m g.vs i i.b ti):=by
  unfold cg au;rw[d];rfl
 obtain⟨R,t⟩:=zE (au m g.vs i);rw[t] at q⊢;clear t;have f:=zH h;obtain⟨N,W1,W,tD,tE,tG,⟨i0,i1,i2,i3,i4,i6⟩,u,tM,v,z,A,E,G,o,x⟩:=bT d h;clear h d;have J:cg (zP 227 #[tv (jg m g),tv i.cells,Z U i.b,tt ti] W1 (Z U (cu m g.vs i i.b ti))):=
  kw m g i i.b ti W1 (f.out.j.below (by rw[u.out];exact v.out)) (o.out rfl) (x.out rfl) (f.out.kn _ (o.out rfl))
 clear G o x E f;go_enter eW,eJ
 go_wp2_with (first
  |(refine cf rfl 184 _ rfl N rfl 184 (jg m g) (0,0) _ z.out cG rfl (by kernel_rfl) ?_)
  |(refine cf rfl 42 _ rfl (N+1) rfl 42 i.cells (0,0) _ A.out cA rfl (by kernel_rfl) ?_)
  |(go_at_call 227;refine J.out.mono ?_;rintro e w4 ⟨rfl,y⟩;have K:=zH y;clear y))
 go_ret;rw[q.out,u.out];exact⟨rfl,v.out.trans (K.out.mono (by omega))⟩
end Go.Proofs.YtjomgckjhcfbgaaGreat
