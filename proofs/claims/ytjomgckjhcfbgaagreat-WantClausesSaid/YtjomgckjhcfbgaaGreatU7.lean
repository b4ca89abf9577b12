/- Walks. -/
import Derived.Laws.OwnMore
import Derived.Handy
import Derived.Laws.StructEq
import Derived.Deep.RegionHeld3
import Derived.Deep.WholeRow
import Derived.Laws.ResultCell
import Derived.Test.YtjomgckjhcfbgaaGreatU1
set_option maxRecDepth 100000
set_option maxHeartbeats 64000000
set_option linter.all false
namespace Go.Proofs.YtjomgckjhcfbgaaGreat
open Go.RowKit
open Go.Proofs.Tryz renaming prog→am,underlying42→cD,underlying184→cM,underlying38→cQ,underlying32→eM,ntmps189→fy,func189→fR,underlying35→gb,underlying90→oB,ntmps152→pS,ntmps144→qS,func152→qT,func144→rB
open _root_.List renaming getElem?_eq_getElem→ap,getElem?_eq_some_iff→bl,length_append→bo,mem_of_getElem?→cd,take_length→cR,append_nil→ej,nil_append→fN,cons_append→ij,take_add_one→ju,any_eq_true→kh,any_eq_false→lx,length_pos_iff→ms,getElem?_eq_none→mw,getElem?_map→rm
open Go.RowKit.Below renaming refl→aq
open _root_ renaming Int→aw,Nat→bh,List→bj,ByteArray→bm,if_neg→bx,decide_eq_false→cv,Option→cG,if_pos→cI,beq_eq_false_iff_ne→cT,decide_eq_true→cV,Array→eA,absurd→fL,False→me,Bool→mm,of_decide_eq_true→m7
open Go.RowKit renaming Below→aE,Hid→cj,intOf→de
open Go renaming heap_setCell_same→bk,cell_of_row→bw,wpList_load_row→cm,run_storeCells_new→cx,Value→cA,wpQuiet_nil→dj,storeCells→dt,frozen_of_row→ei,bodyPost_ret→er,maxLen→eC,Addr→fS,beq_toListBytes→fY,Calls→ge,TypeId→gt,below_drewN→hU,heap_alloc2_new→jp,run_underlying→j9,info_parts→kB,Program→lr,Oper→mS,run_loadVar_row→oy,wpList→pZ,results→th,wpList_plain→tr,Operand→tE
open _root_.Array renaming getElem?_eq_some_iff→br,getElem?_eq_none→em,all_toList→ly
open _root_.Nat renaming le_refl→cg,lt_of_lt_of_le→cH,zero_add→cL,zero_le→cN,le_succ→i5
open Go.Value renaming slice→ci,oneCell'→ct,ownBlock→et,int→eS,string→tS,slice→tU,pointer→tW,bool→ua,agg→ub,int→Z
open _root_.Option.some renaming inj→cE
open Go.Addr renaming add_lit→cY
open Go.Exit renaming inBlock→dk
open _root_.Int renaming toNat_natCast→eW
open _root_.Bool renaming and_eq_true→fj,eq_iff_iff→tf,true→tP,false→tR
open Go.Op renaming equalIn→gE
open Go.Builtin renaming append_→jt,firstCells→nB,lenOf→pT
open _root_.ByteArray renaming empty→lO
open Go.Result renaming andThen_ok→mu,andThen→mT
open Go.Oper renaming wp→nd
open Go.ByteArray renaming toList_eq→py
open Go.Instr renaming field→pP
open Go.Sem renaming run_pure→sn
open _root_.Option renaming some→tG,none→tM
open Go.Obj renaming cells→uc
open Go.Ending renaming returned→ud
open Go.IntKind renaming i64→U
open Tryz
def qY (op:aw):mm:=decide (op∈[1,2,3,4,5,7,9,10,12,14,15])
def sP (op:aw):mm:=decide (op∈[3,4,6,7,8,9,10,11,13,14,17,18])
def rM (op:aw):mm:=decide (op∈[4,8,11])
theorem Em (op:aw):(op=1\/op=2\/op=3\/op=4\/op=5\/op=6\/op=7\/op=8\/op=9\/op=10\/op=11\/op=12\/op=13\/op=14\/op=15\/op=17\/op=18)\/(op≠1/\op≠2/\op≠3/\op≠4/\op≠5/\op≠6/\op≠7/\op≠8/\op≠9/\op≠10/\op≠11/\op≠12/\op≠13/\op≠14/\op≠15/\op≠17/\op≠18):=by omega
theorem qH (op:aw)(w:World):zS 193 #[Z U op] w (.tuple #[ua (qY op),ua (sP op),ua (rM op)]):=by
 rcases Em op with h|h
 ·rcases h with rfl|rfl|rfl|rfl|rfl|rfl|rfl|rfl|rfl|rfl|rfl|rfl|rfl|rfl|rfl|rfl|rfl
  all_goals
   go_enter func193,ntmps193;go_wp2
   go_ret3
   exact⟨rfl,rfl⟩
 ·obtain⟨d,e,f,g,j,o,q,t,u,v,x,y,z,A,E,G,J⟩:=h
  have R:(op==1)=tR:=by simpa using d
  have e2:(op==2)=tR:=by simpa using e
  have e3:(op==3)=tR:=by simpa using f
  have e4:(op==4)=tR:=by simpa using g
  have e5:(op==5)=tR:=by simpa using j
  have e6:(op==6)=tR:=by simpa using o
  have e7:(op==7)=tR:=by simpa using q
  have e8:(op==8)=tR:=by simpa using t
  have e9:(op==9)=tR:=by simpa using u
  have ue:(op==10)=tR:=by simpa using v
  have up:(op==11)=tR:=by simpa using x
  have ur:(op==12)=tR:=by simpa using y
  have uv:(op==13)=tR:=by simpa using z
  have ux:(op==14)=tR:=by simpa using A
  have vc:(op==15)=tR:=by simpa using E
  have vd:(op==17)=tR:=by simpa using G
  have vf:(op==18)=tR:=by simpa using J
  have K:cj (qY op=tR/\sP op=tR/\rM op=tR):=by
   unfold qY sP rM;refine⟨cv ?_,cv ?_,cv ?_⟩<;>(simp;omega)
  clear d e f g j o q t u v x y z A E G J;go_enter func193,ntmps193;go_wp2
  go_ret3
  obtain⟨a,b,c⟩:=K.out;exact⟨by rw[a,b,c];rfl,rfl⟩
def ak (w:World)(ao:cG fS)(xs:bj aw):Prop:=
 xs≠[]->∃g d,ao=tG ⟨g,d,tM⟩/\g<w.heap.size/\∀i z,xs[i]?=tG z->w.cell? ⟨g,d+i,tM⟩=tG (Z U z)
theorem aL.at_ {w:World}{base n cap:bh}{ao:cG fS}{xs:bj aw}(h:aL w base (tU ao n cap) xs):ak w ao xs:=by
 intro d;obtain⟨g,e,_,f,j⟩:=h.shape (ms.2 d);exact⟨g,0,e,f,λi z o=>by rw[cL];exact j i z o⟩
theorem dH.at_ {w:World}{ao:cG fS}{xs:bj aw}(h:dH w ao xs):ak w ao xs:=by
 intro d;obtain⟨b,f,e,g,j⟩:=h d;exact⟨b,f,e,g,λi z o=>by have:=j i z o 0 _ rfl;simpa using this⟩
theorem ak.below {w w':World}{ao:cG fS}{xs:bj aw}(h:ak w ao xs)(d:aE w.heap.size w w'):ak w' ao xs:=by
 intro j;obtain⟨g,o,e,f,q⟩:=h j;exact⟨g,o,e,cH f d.size,λi z t=>by rw[d.cell (p:=⟨g,_,tM⟩) f];exact q i z t⟩
theorem En (w:World)(c:bh)(ao:cG fS)(xs:bj aw)(z:aw)(G:xs.length<=90000)(h:ak w ao xs):
  zS 126 #[Z U z,tU ao xs.length c] w (ua (decide (z∈xs))):=by
 have H:=zH h;clear h;go_enter func126,ntmps126
 go_wp2_with fail
 go_loop [5] (λk=>∃j:bh,j<=xs.length/\k= Z U (j:aw)/\z∉xs.take j) (λk=>xs.length-(de k).toNat)
 case atStart=>exact⟨0,cN _,rfl,by simp⟩
 case round=>
  obtain⟨j,J,rfl,d⟩:=hrel
  by_cases o:j<xs.length
  ·obtain⟨y,g⟩:∃y,xs[j]?=tG y:=⟨_,ap o⟩
   obtain⟨u,v,rfl,K,q⟩:=H.out (by intro e;rw[e] at o;simp at o);have d1:w.cell? ⟨u,v+j,tM⟩=tG (Z U y):=q j y g;have R:(j:aw)<(xs.length:aw):=by omega
   by_cases f:y=z
   ·have x:(y==z)=tP:=by simp[f]
    have t:cj (decide (z∈xs)=tP):=cV (by rw[<-f];exact cd g);clear g q d f;go_wp2;go_ret;exact⟨by rw[t.out];rfl,rfl⟩
   ·have x:(y==z)=tR:=by simp[f]
    have A:cj (z∉xs.take (j+1)):=by
     unfold cj;rw[ju,g];simp[d];exact λe=>f e.symm
    clear g q d f;go_wp2
    go_round
    case rel=>exact⟨j+1,by omega,by go_num,A.out⟩
    case measure=>simp[de];omega
  ·have E:j=xs.length:=by omega
   subst E;rw[cR] at d;have t:cj (decide (z∈xs)=tR):=cv d;clear d;go_wp2;go_ret;exact⟨by rw[t.out];rfl,rfl⟩
theorem ak.nil_of_none {w:World}{xs:bj aw}(h:ak w tM xs):xs=[]:=by
 by_cases e:xs=[]
 ·exact e
 ·obtain⟨g,f,d,_⟩:=h e
  cases d
theorem qZ {P:lr}(w:World)(base:bh)(t f e:gt)(i:TypeInfo)(size:bh)(d:P.underlying t=tG (.slice e))(hi:P.info? e=tG i)
  (v:cA)(n:bh)(xs:bj cA)(h:w.ownsRow base e size v n xs)(c:bh):(jt #[t,t] f #[v,tU tM 0 c]).run P w= .ok v w:=by
 rcases h.2 with⟨rfl,rfl⟩|⟨g,cap,o,rfl,_,_,j,_⟩
 ·simp[jt,j9 d,sizeOf,typeInfo,hi,pT,nB]
 ·simp[jt,j9 d,sizeOf,typeInfo,hi,pT,nB,j,dt]
theorem aR {w:World}{ops:eA mS}{rest:bj mS}{o:mS}{a:Act}{Q:Exit->Act->World->Prop}(G:o.guard=tM)(s x:tE)
  (J:o.op= .call {callee:= .builtin .append,args:=#[s,x],argTypes:=#[35,35]})(base:bh)(v:cA)(xs:bj aw)(R:a.eval s=v)(t:aL w base v xs)
  (ao:cG fS)(d:bj aw)(c:bh)(hx:a.eval x= tU ao d.length c)(ue:ak w ao d)(vf:xs.length+d.length<=90000)(up:base<=w.heap.size)
  (h:∀f w',aL w' base f (xs++d)->w.grownBy w' v.ownBlock->pZ am ops Q rest (a.put o.dst f) w'):pZ am ops Q (o::rest) a w:=by
 obtain⟨i0,hi,ur,uv,ux⟩:=kB fe;have hh:∀f w',w'.ownsRow base 3 1 f (xs.length+d.length) (xs.map (eS .i64)++d.map (eS .i64))->w.grownBy w' v.ownBlock->pZ am ops Q rest (a.put o.dst f) w':=λf w' y A=>h f w' (by unfold aL;simpa using y) A;cases ao with
 |none=>
  obtain rfl:=ue.nil_of_none;refine tr G λK hK=> ?_;have vc:=qZ (P:=am) w base 35 o.type 3 i0 1 gb hi v _ _ t c;have vd:a.eval x= tU tM 0 c:=hx;unfold nd;simp[execOp,J,resolve,invoke,builtin,R,vd,vc,mT];exact hK _ _ (hh _ _ (by have h:=t;unfold aL at h;simpa using h) (World.grownBy.refl w _))
 |some ad=>
  refine wpList_append_own _ G s x 35 J base 3 i0 (Z U 0) 1 8 gb hi ur uv ux rfl (by decide) v xs.length _ R t ad d.length c (d.map (eS .i64)) hx (by simp) (λj u q=> ?_) (by simp;intro _ _;rfl) (by unfold eC;omega) (by omega) up (λf w' y A _=>hh f w' y A);obtain⟨z,E,rfl⟩:∃z,d[j]?=tG z/\eS .i64 z=u:=by
   rw[rm] at q;cases hy:d[j]? with
   |none=>rw[hy] at q;simp at q
   |some z=>rw[hy] at q;exact⟨z,rfl,by simpa using q⟩
  obtain⟨g,vh,e,_,hc⟩:=ue (by intro e;rw[e] at E;simp at E);obtain rfl:=cE e;rw[cY];exact hc j z E
def az (i:Ins):aw×mm:=if qY i.op=tP then(i.d,tP) else(0,tR)
def readsOf (i:Ins):bj aw:=(if sP i.op=tP then[i.a] else[])++(if rM i.op=tP then[i.b] else[])++(if i.op=15 then i.args else[])
theorem lK (i:Ins)(w:World)(o:i.ok):zP 142 #[ub i.cells] w (.tuple #[Z U (az i).1,ua (az i).2]):=by
 obtain⟨op,d,a,b,f,n,q,t,u,v,x,y,z,args⟩:=i;obtain⟨⟨ao,cap,g⟩,A,n2,E,h⟩:=o;simp only at g h;subst g h;simp only[Ins.cells,az];have j:=zH (qH op);cases G:qY op with
 |true=>
  go_enter func142,ntmps142
  go_wp2_with (go_at_call 193;refine(j.out _).mono ?_;rintro e w' ⟨rfl,rfl⟩)
  go_ret2
  exact⟨rfl,(aq _ _).alloc (cg _) _⟩
 |false=>
  go_enter func142,ntmps142
  go_wp2_with (go_at_call 193;refine(j.out _).mono ?_;rintro e w' ⟨rfl,rfl⟩)
  go_ret2
  exact⟨rfl,(aq _ _).alloc (cg _) _⟩
theorem below_grown {B:bh}{a w w':World}{v:cA}{xs:bj aw}(h:aE B a w)(d:B<=w.heap.size)(e:aL w B v xs)(f:w.grownBy w' v.ownBlock):aE B a w':=
 h.grown f d (λk g=>(e.lt k g).1)
theorem ak.one (w:World)(z:aw){B:bh}(d:B=w.heap.size):ak (w.alloc (uc #[Z U z] 3)) (tG ⟨B,0,tM⟩) [z]:=by
 subst d;intro _;refine⟨w.heap.size,0,rfl,by simp,λi u hi=> ?_⟩;rw[cL,World.cell?_alloc_new];have:i<1:=(bl.1 hi).1;obtain rfl:i=0:=by omega
 simp at hi;subst hi;rfl
theorem DF {op:aw}(h:rM op=tP):sP op=tP:=by
 unfold rM at h;unfold sP;have:=m7 h;refine cV ?_;simp at this⊢;omega
theorem lL (i:Ins)(h:i.args.length<=40):(readsOf i).length<=42:=by
 unfold readsOf;simp only[bo];have:(if sP i.op=tP then[i.a] else[]).length<=1:=by split<;>simp
 have:(if rM i.op=tP then[i.b] else[]).length<=1:=by split<;>simp
 have:(if i.op=15 then i.args else[]).length<=40:=by
  split
  ·exact h
  ·simp
 omega
theorem nu (i:Ins)(w:World)(vh:i.args_in w)(hl:i.args.length<=40):ge am 144 #[ub i.cells] w (fK w (readsOf i)):=by
 obtain⟨op,d,a,b,f,n,uv,vt,vu,ux,vc,ln,cl,args⟩:=i;obtain⟨⟨_,vd,n2,vf,h2⟩,ao,cap,h1,R⟩:=vh;simp only at h1 h2 R hl;subst h1 h2;simp only[Ins.cells,readsOf];have E:=zH (qH op);have vm:=zH R.at_;clear R;obtain⟨N,g⟩:=zE w.heap.size
 by_cases G:op=15
 ·subst G
  have e:(if sP 15=tP then[a] else[])++(if rM 15=tP then[b] else[])++(if (15:aw)=15 then args else[])=args:=by
   rw[bx (by decide),bx (by decide),cI rfl];rfl
  rw[e];go_enter rB,qS
  go_wp2_with (first
   |(go_at_call 193;refine(E.out _).mono ?_;rintro e w' ⟨rfl,rfl⟩)
   |(at_builtin;refine aR rfl (.tmp 28) (.tmp 30) rfl (N+1) (tU tM 0 0) [] rfl (aL.nil _ _) ao args cap rfl (vm.out.below ((aq _ _).alloc (cg _) _)) ?c1 ?c2 ?_))
  case c1=>simp;omega
  case c2=>simp;omega
  intro v' w' o q;obtain⟨x,y,rfl⟩:=o.isSlice;have j:cj (aL w' (N+1) (tU x args.length y) args/\aE N w w'):=⟨by simpa using o,by
   refine below_grown (v:= tU tM 0 0) (xs:=[]) ?_ ?_ (aL.nil _ _) q
   ·rw[<-g];exact(aq _ _).alloc (cg _) _
   ·simp;omega⟩
  clear o q
  try simp only[fN]
  go_wp2;go_ret;exact⟨_,_,rfl,by first|exact j.out.1.mono (i5 N)|(rw[g];exact j.out.1.mono (i5 N)),by first|exact j.out.2|(rw[g];exact j.out.2)⟩
 ·have vx:(op==15)=tR:=by simpa using G
  rw[bx G,ej];clear G;cases ha:sP op with
  |false=>
   have hb:rM op=tR:=by
    cases h:rM op with
    |false=>rfl
    |true=>rw[DF h] at ha;cases ha
   rw[hb,bx (by decide),bx (by decide)];go_enter rB,qS
   go_wp2_with (go_at_call 193;refine(E.out _).mono ?_;rintro e w' ⟨rfl,rfl⟩)
   go_ret;exact⟨tM,0,rfl,aL.nil _ _,(aq _ _).alloc (by omega) _⟩
  |true=>
   cases hb:rM op with
   |false=>
    rw[cI rfl,bx (by decide),ej];go_enter rB,qS
    go_wp2_with (first
     |(go_at_call 193;refine(E.out _).mono ?_;rintro e w' ⟨rfl,rfl⟩)
     |(at_builtin;refine aR rfl (.tmp 14) (.tmp 17) rfl (N+1) (tU tM 0 0) [] rfl (aL.nil _ _) _ [a] 1 rfl (ak.one _ _ (by simp[g])) ?c1 ?c2 ?_))
    case c1=>simp
    case c2=>simp;omega
    intro v' w' o q;obtain⟨x,y,rfl⟩:=o.isSlice;have j:cj (aL w' (N+1) (tU x [a].length y) [a]/\aE N w w'):=⟨by simpa using o,by
     refine below_grown (v:= tU tM 0 0) (xs:=[]) ?_ ?_ (aL.nil _ _) q
     ·rw[<-g];exact((aq _ _).alloc (cg _) _).alloc (by simp) _
     ·simp;omega⟩
    have u:Ext (λ_=>me) ((w.alloc (uc #[Z U op,Z U d,Z U a,Z U b,Z U f,Z U n,tS uv,tU ao args.length cap,tU vd n2 vf,Z U ux,Z U vc,Z U ln,Z U cl] 42)).alloc (uc #[Z U a] 3)) w':=Ext.of_grown q (λk z=>by simp[et] at z);have ue:w'.cell? ⟨N,0,tM⟩=tG (Z U op):=by
     rw[u.cell (a:=⟨N,0,tM⟩) (by simp;omega) (λh=>h),<-g,World.cell?_alloc_lt _ _ _ (by simp),World.cell?_alloc_new];rfl
    clear o q u
    try simp only[fN]
    go_wp2;go_ret;exact⟨_,_,rfl,by first|exact j.out.1.mono (i5 N)|(rw[g];exact j.out.1.mono (i5 N)),by first|exact j.out.2|(rw[g];exact j.out.2)⟩
   |true=>
    rw[cI rfl,cI rfl];go_enter rB,qS
    go_wp2_with (first
     |(go_at_call 193;refine(E.out _).mono ?_;rintro e w' ⟨rfl,rfl⟩)
     |(at_builtin;refine aR rfl (.tmp 14) (.tmp 17) rfl (N+1) (tU tM 0 0) [] rfl (aL.nil _ _) _ [a] 1 rfl (ak.one _ _ (by simp[g])) ?c1 ?c2 ?_))
    case c1=>simp
    case c2=>simp;omega
    intro v1 t up ur;obtain⟨J,K,rfl⟩:=up.isSlice;have u:Ext (λ_=>me) ((w.alloc (uc #[Z U op,Z U d,Z U a,Z U b,Z U f,Z U n,tS uv,tU ao args.length cap,tU vd n2 vf,Z U ux,Z U vc,Z U ln,Z U cl] 42)).alloc (uc #[Z U a] 3)) t:=Ext.of_grown ur (λk z=>by simp[et] at z);have vy:t.cell? ⟨N,3,tM⟩=tG (Z U b):=by
     rw[u.cell (a:=⟨N,3,tM⟩) (by simp;omega) (λh=>h),<-g,World.cell?_alloc_lt _ _ _ (by simp),World.cell?_alloc_new];rfl
    have ue:t.cell? ⟨N,0,tM⟩=tG (Z U op):=by
     rw[u.cell (a:=⟨N,0,tM⟩) (by simp;omega) (λh=>h),<-g,World.cell?_alloc_lt _ _ _ (by simp),World.cell?_alloc_new];rfl
    have A:cj (aL t (N+1) (tU J [a].length K) [a]/\aE N w t):=⟨by simpa using up,by
     refine below_grown (v:= tU tM 0 0) (xs:=[]) ?_ ?_ (aL.nil _ _) ur
     ·rw[<-g];exact((aq _ _).alloc (cg _) _).alloc (by simp) _
     ·simp;omega⟩
    have vp:N<=t.heap.size:=by have:=A.out.2.size;omega
    clear up ur u
    try simp only[fN]
    go_wp2_with (at_builtin;refine aR rfl (.tmp 20) (.tmp 23) rfl (N+1) (tU J 1 K) [a] rfl (ownsRow_below A.out.1 ((aq _ _).alloc (cg _) _)) _ [b] 1 rfl (ak.one _ _ (by simp)) ?c3 ?c4 ?_)
    case c3=>simp
    case c4=>simp;omega
    intro v' w' o q;obtain⟨x,y,rfl⟩:=o.isSlice;have vq:N<t.heap.size:=by
     by_cases e:N<t.heap.size
     ·exact e
     ·exact fL ue (by simp[World.cell?,em (Nat.le_of_not_lt e)])
    have we:w'.cell? ⟨N,0,tM⟩=tG (Z U op):=by
     have vr:Ext (λk=>(ci J 1 K).ownBlock=tG k) (t.alloc (uc #[Z U b] 3)) w':=Ext.of_grown q (λk z=> .inl z);rw[vr.cell (a:=⟨N,0,tM⟩) (by simp;omega) (λh=> ?_),World.cell?_alloc_lt _ _ _ vq]
     ·exact ue
     ·have h3:=(A.out.1.lt N h).1
      omega
    have j:cj (aL w' (N+1) (tU x [a,b].length y) [a,b]/\aE N w w'):=⟨by simpa using o,by
     refine below_grown (v:= tU J 1 K) (xs:=[a]) ?_ ?_ (aL.mono (ownsRow_below A.out.1 ((aq _ _).alloc (cg _) _)) (i5 N)) q
     ·exact A.out.2.alloc vp _
     ·simp;omega⟩
    clear o q
    try simp only[ij,fN]
    go_wp2;go_ret;exact⟨_,_,rfl,by first|exact j.out.1.mono (i5 N)|(rw[g];exact j.out.1.mono (i5 N)),by first|exact j.out.2|(rw[g];exact j.out.2)⟩
def gW {α:Type}(p:α->mm)(l:bj α):aw:=if l.findIdx p<l.length then((l.findIdx p:bh):aw) else-1
def Mo.stIx (m:Mo)(nm:bm):aw:=gW (λs=>s.s.nm==nm) m.ss
def Mo.fnIx (m:Mo)(nm:bm):aw:=gW (λf=>f.c.nm==nm) m.fs
def Mo.known (m:Mo)(t:Ty):mm:=if t.1=tP then decide (0<=m.stIx t.2) else t.2==lO
def ay (d:bj Vr)(v:aw):Ty:=match d[v.toNat]? with
 |some x=>x.ty
 |none=>bM
def isVar (n:bh)(v:aw):mm:=decide (0<=v)&&decide (v<(n:aw))
def aP (n:bh)(l:bj aw):mm:=l.all (isVar n)
def bU (b:mm)(f:aw):aw:=if b=tP then 0 else f
def aM (m:Mo)(d:bj Vr)(v f:aw):Ty×aw:=
 if (ay d v).1=tR then(bM,7)
 else match m.ss[(m.stIx (ay d v).2).toNat]? with
  |none=>(bM,15)
  |some s=>if f<0 then(bM,15) else match s.fs[f.toNat]? with
   |none=>(bM,15)
   |some x=>(x.ty,0)
def dA (m:Mo)(d:bj Vr)(i:Ins)(e:aw)(g:mm):aw:=
 if (aM m d i.a i.f).2≠0 then(aM m d i.a i.f).2
 else bU ((aM m d i.a i.f).1==ay d e&&(aM m d i.a i.f).1.1==g) 7
def iT (d e:bj Vr):bh->bj aw->mm
 |_,[]=>tP
 |k,a::r=>ay d a==ay e (k:aw)&&iT d e (k+1) r
def iL (m:Mo)(vs:bj Vr)(i:Ins):aw:=
 if i.f<0 then 15 else match m.fs[i.f.toNat]? with
  |none=>15
  |some g=>if (i.args.length:aw)≠g.c.par\/(g.vs.length:aw)<g.c.par then 7
   else if iT vs g.vs 0 i.args=tR then 7 else bU (ay vs i.d==g.ret) 7
def eD (d:bj Vr)(l:bj aw):aw:=bU (l.all λv=> !(ay d v).1) 7
def eY (f:aw)(s:bm)(l:bj bm):aw:=if f≠0 then f else bU (l.any λx=>x==s) 3
def gX:bj bm:=[⟨#[43]⟩,⟨#[45]⟩,⟨#[42]⟩,⟨#[47]⟩,⟨#[37]⟩,⟨#[60]⟩,⟨#[60,61]⟩,⟨#[62]⟩,⟨#[62,61]⟩,⟨#[61,61]⟩,⟨#[33,61]⟩]
def jC:bj bm:=[⟨#[61,61]⟩,⟨#[33,61]⟩]
def ax (m:Mo)(e:bj Vr)(i:Ins):aw:=
 if i.op=1\/i.op=5 then eD e [i.d]
 else if i.op=3 then eD e [i.d,i.a]
 else if i.op=4 then eY (eD e [i.d,i.a,i.b]) i.sign gX
 else if i.op=6 then eD e [i.a]
 else if i.op=2 then bU (ay e i.d).1 7
 else if i.op=13 then bU (ay e i.a).1 7
 else if i.op=14 then eY (bU (!(ay e i.d).1&&(ay e i.a).1) 7) i.sign jC
 else if i.op=9 then bU ((ay e i.a).1&&ay e i.a==ay e i.d) 7
 else if i.op=7\/i.op=10 then dA m e i i.d (decide (i.op=10))
 else if i.op=8\/i.op=11 then dA m e i i.b (decide (i.op=11))
 else if i.f<0 then 15 else match m.ss[i.f.toNat]? with
  |none=>15
  |some s=>bU (ay e i.d==(tP,s.s.nm)) 7
def aF (m:Mo)(g:Fn)(i:Ins):aw:=
 if i.op<1\/18<i.op then 3
 else if aP g.vs.length (readsOf i++(if qY i.op then[i.d] else[]))=tR then 15
 else if i.op=15 then iL m g.vs i
 else if i.op=16 then bU (isVar g.c.ins.length i.tI) 15
 else if i.op=17 then(if isVar g.c.ins.length i.tI&&isVar g.c.ins.length i.els then eD g.vs [i.a] else 15)
 else if i.op=18 then bU (ay g.vs i.a==g.ret) 7
 else ax m g.vs i
def aV {α:Type}(f:α->aw):bj α->aw
 |[]=>0
 |x::r=>if f x=0 then aV f r else f x
def codeF (m:Mo)(g:Fn):aw:=
 if 300<g.vs.length\/g.c.ins.length<1\/3000<g.c.ins.length then 2
 else if g.c.par<0\/(g.vs.length:aw)<g.c.par then 15
 else if aV (aF m g) g.c.ins≠0 then aV (aF m g) g.c.ins
 else bU (match g.c.ins.getLast? with
  |some i=>decide (16<=i.op)
  |none=>tR) 15
def dJ (m:Mo):mm:=(m.ss.any λs=>decide (¬(s.fs.map Fd.nm).Nodup))||decide (¬(m.ss.map λs=>s.s.nm).Nodup)||decide (¬(m.fs.map λf=>f.c.nm).Nodup)
def bV (m:Mo):bj Ty:=(m.ss.flatMap λs=>s.fs.map Fd.ty)++(m.fs.flatMap λf=>f.ret::f.vs.map Vr.ty)
def dO:bm:=⟨#[109,97,105,110]⟩
def eU (m:Mo):aw:=
 if 30<m.ss.length\/60<m.fs.length then 2
 else if dJ m=tP then 6
 else if (bV m).all m.known=tR then 5
 else if aV (codeF m) m.fs≠0 then aV (codeF m) m.fs
 else bU (decide (0<=m.fnIx dO)&&(match m.fs[(m.fnIx dO).toNat]? with
  |some g=>decide (g.c.par=0)&& !g.c.rp
  |none=>tR)) 9
theorem aD (b:mm)(f:aw)(w:World):zS 99 #[ua b,Z U f] w (Z U (bU b f)):=by
 cases b with
 |true=>
  go_enter func99,ntmps99;go_wp2;go_ret;exact⟨rfl,rfl⟩
 |false=>
  go_enter func99,ntmps99;go_wp2;go_ret;exact⟨rfl,rfl⟩
def jg (m:Mo)(g:Fn):eA cA:=#[tU m.sA m.ss.length m.sC,tU m.fA m.fs.length m.fC,tS g.c.nm,Z U g.c.par,tU g.c.varsA g.c.nvars g.c.varsC,ua g.c.rp,tS g.c.rto,Z U g.c.rcl,tU g.c.fromA g.c.nfrom g.c.fromC,tU g.c.insA g.c.ins.length g.c.insC]
def wG (t:Ty):cA:= ub #[ua t.1,tS t.2]
theorem ko:∀(b:mm)(s:bm)(w:World),(pP 32 (ub #[ua b,tS s]) 0).run am w= .ok (ua b) w:=λb s w=>by kernel_rfl
theorem eT {n:bh}{v:aw}:isVar n v=tP↔0<=v/\v<(n:aw):=by simp[isVar]
theorem ed {w:World}{A:cG fS}{d:bj Vr}(o:aJ Vr.cells 3 w w.heap.size A d){v:aw}(q:isVar d.length v=tP):
  ∃(k b f:bh) (x:Vr),v=(k:aw)/\k<d.length/\A=tG ⟨b,f,tM⟩/\b<w.heap.size/\ay d v=(x.ptr,x.tgt)/\w.cell? ⟨b,f+k*3,tM⟩=tG (ua x.ptr)/\w.cell? ⟨b,f+k*3+1,tM⟩=tG (tS x.tgt):=by
 obtain⟨h0,y⟩:=eT.1 q;obtain⟨k,rfl⟩:∃k:bh,v=(k:aw):=⟨v.toNat,by omega⟩
 have g:k<d.length:=by omega
 obtain⟨x,h⟩:∃x,d[k]?=tG x:=⟨_,ap g⟩
 obtain⟨b,f,t,u,j⟩:=o (by intro e;rw[e] at g;simp at g);refine⟨k,b,f,x,rfl,g,t,u, ?_,j k x h 0 _ rfl,j k x h 1 _ rfl⟩;unfold ay;rw[eW,h];rfl
theorem iw (m:Mo)(g:Fn)(v:aw)(w:World)(d:aJ Vr.cells 3 w w.heap.size g.c.varsA g.vs)(e:g.c.nvars=g.vs.length)(_:g.vs.length<=eC)(f:isVar g.vs.length v=tP):
  zP 188 #[ub (jg m g),Z U v] w (wG (ay g.vs v)):=by
 obtain⟨k,b,o,x,rfl,q,h,t,j,u,y⟩:=ed d f;have z:(k:aw)<(g.vs.length:aw):=by omega
 rw[j];unfold wG jg;rw[h,e];clear d f j h e;go_enter func188,ntmps188;go_wp2
 go_returns
 exact⟨rfl,((aq _ _).alloc (cg _) _).alloc (by simp) _⟩
theorem iB (m:Mo)(g:Fn)(v:aw)(w:World):zP 186 #[ub (jg m g),Z U v] w (ua (isVar g.c.ins.length v)):=by
 unfold jg
 by_cases h:0<=v
 ·have d:cj (decide (v<(g.c.ins.length:aw))=isVar g.c.ins.length v):=by
   unfold cj isVar;rw[cV h];rfl
  go_enter func186,ntmps186;go_wp2;go_ret;rw[<-d.out];exact⟨rfl,(aq _ _).alloc (cg _) _⟩
 ·have d:cj (tR=isVar g.c.ins.length v):=by
   unfold cj isVar;rw[cv h];rfl
  go_enter func186,ntmps186;go_wp2;go_ret;rw[<-d.out];exact⟨rfl,(aq _ _).alloc (cg _) _⟩
theorem yf (m:Mo)(g:Fn)(B:bh)(v:aw)(w:World)(e:w.heap[B]?=tG (uc (jg m g) 184 (0,0)))(f:g.c.nvars=g.vs.length):
  zS 224 #[Z U v,tW (tG ⟨B,0,tM⟩)] w (ua (!isVar g.vs.length v)):=by
 have q:w.cell? ⟨B,4,tM⟩=tG (tU g.c.varsA g.vs.length g.c.varsC):=by rw[bw _ _ _ _ _ _ e,<-f];rfl
 clear e f
 by_cases h:v<0
 ·have d:cj (tP= !isVar g.vs.length v):=by
   unfold cj isVar;rw[cv (by omega)];rfl
  go_enter func224,ntmps224;go_wp2;go_ret;rw[<-d.out];exact⟨rfl,rfl⟩
 ·have d:cj (decide ((g.vs.length:aw)<=v)= !isVar g.vs.length v):=by
   unfold cj isVar;rw[tf];simp;omega
  go_enter func224,ntmps224;go_wp2;go_ret;rw[<-d.out];exact⟨rfl,rfl⟩
theorem sQ (m:Mo)(g:Fn)(B:bh)(v:aw)(w:World)(d:w.heap[B]?=tG (uc (jg m g) 184 (0,0)))(f:aJ Vr.cells 3 w w.heap.size g.c.varsA g.vs)(h:g.c.nvars=g.vs.length)(j:g.vs.length<=eC)(o:isVar g.vs.length v=tP):
  zP 225 #[Z U v,tW (tG ⟨B,0,tM⟩)] w (ua (ay g.vs v).1):=by
 have q:=zH (iw m g v w f h j o);unfold wG at q;have u:=zH d;have y:=ko;have z:=(br.1 d).1;clear d f o h j;go_enter func225,ntmps225
 go_wp2_with (first
  |(refine cm rfl 184 _ rfl B rfl 184 (jg m g) (0,0) _ u.out cM rfl (by kernel_rfl) ?_)
  |(go_at_call 188;refine q.out.mono ?_;rintro e w2 ⟨rfl,t⟩;have x:=zH t;clear t))
 go_ret;exact⟨rfl,x.out⟩
theorem jd {α:Type}{p:α->mm}{xs:bj α}{j:bh}{y:α}(f:∀z∈xs.take j,p z=tR)(g:xs[j]?=tG y)(o:p y=tP):gW p xs=(j:aw):=by
 obtain⟨d,e⟩:=bl.1 g;have h:xs.findIdx p=j:=(List.findIdx_eq d).2 ⟨by rw[e];exact o,λi hi=>by
  have:=f xs[i] (by rw[List.mem_take_iff_getElem];exact⟨i,by omega,rfl⟩);simpa using this⟩
 unfold gW;rw[h,cI d]
theorem gI {α:Type}{p:α->mm}{xs:bj α}(d:∀z∈xs,p z=tR):gW p xs= -1:=by
 have h:xs.findIdx p=xs.length:=List.findIdx_eq_length.2 (by simpa using d);unfold gW;rw[h,bx (by omega)]
theorem oO {α:Type}{p:α->mm}{xs:bj α}:decide (0<=gW p xs)=xs.any p:=by
 unfold gW
 by_cases h:xs.findIdx p<xs.length
 ·rw[cI h,cV (by omega)]
  obtain⟨x,d,e⟩:=List.findIdx_lt_length.1 h;exact(kh.2 ⟨x,d,e⟩).symm
 ·rw[bx h]
  have f:=(List.findIdx_eq_length (p:=p) (xs:=xs)).1 (by have:=List.findIdx_le_length (p:=p) (xs:=xs);omega);symm;rw[cv (by omega),lx];intro x d;have:=f x d;simpa using this
theorem dR {α:Type}{p:α->mm}{xs:bj α}{j:bh}{y:α}(d:∀z∈xs.take j,p z=tR)(e:xs[j]?=tG y)(f:p y=tR):∀z∈xs.take (j+1),p z=tR:=dL (p:=λz=>p z=tR) d e f
theorem uU (w:World)(ao:cG fS)(xs:bj aw)(c B:bh)(p:aw->mm)(hn:xs.length<=eC)(h:ak w ao xs)
  (E:∀W,aE w.heap.size w W->∀z∈xs,zP 224 #[Z U z,tW (tG ⟨B,0,tM⟩)] W (ua (p z))):
  zP 152 #[tU ao xs.length c,.func (.func 224) #[] #[tW (tG ⟨B,0,tM⟩)]] w (Z U (gW p xs)):=by
 have H:=zH h;have HF:=zH E;unfold eC at hn;clear h E;go_enter qT,pS
 go_wp2_with fail
 go_loopw [8] (λk wr=>∃j:bh,j<=xs.length/\k= Z U (j:aw)/\(∀z∈xs.take j,p z=tR)/\aE w.heap.size w wr) (λk _=>xs.length-(de k).toNat)
 case atStart=>exact⟨0,cN _,rfl,by simp,aq _ _⟩
 case round=>
  obtain⟨j,hj,rfl,o,f⟩:=hrel
  by_cases u:j<xs.length
  ·obtain⟨y,t⟩:∃y,xs[j]?=tG y:=⟨_,ap u⟩
   obtain⟨g1,ue,rfl,ur,G⟩:=H.out.below f (by intro e;rw[e] at u;simp at u);have d1:wr.cell? ⟨g1,ue+j,tM⟩=tG (Z U y):=G j y t;have uv:(j:aw)<(xs.length:aw):=by omega
   have v:=zH (HF.out wr f y (cd t));obtain⟨d,x⟩:=zE (p y);rw[x] at v;have g:=zH f;have J:=zH o;have K:=zH t;have R:=zH x;clear f o t x G;cases d with
   |true=>
    go_wp2_with (go_at_call 224;refine v.out.mono ?_;rintro e w2 ⟨rfl,q⟩;have A:=zH q;clear q)
    go_ret;exact⟨by rw[jd J.out K.out R.out];rfl,g.out.trans (A.out.mono g.out.size)⟩
   |false=>
    go_wp2_with (go_at_call 224;refine v.out.mono ?_;rintro e w2 ⟨rfl,q⟩;have A:=zH q;clear q)
    go_roundw
    case rel=>exact⟨j+1,by omega,by go_num,dR J.out K.out R.out,g.out.trans (A.out.mono g.out.size)⟩
    case measure=>simp[de];omega
  ·have up:j=xs.length:=by omega
   subst up;rw[cR] at o;have HM:=zH (gI o);have g:=zH f;clear o f;go_wp2;go_ret;exact⟨by rw[HM.out];rfl,g.out⟩
theorem yg (w:World)(ao:cG fS)(xs:bj aw)(c B:bh)(p:aw->mm)(hn:xs.length<=eC)(h:ak w ao xs)
  (E:∀W,aE w.heap.size w W->∀z∈xs,zP 225 #[Z U z,tW (tG ⟨B,0,tM⟩)] W (ua (p z))):
  zP 152 #[tU ao xs.length c,.func (.func 225) #[] #[tW (tG ⟨B,0,tM⟩)]] w (Z U (gW p xs)):=by
 have H:=zH h;have HF:=zH E;unfold eC at hn;clear h E;go_enter qT,pS
 go_wp2_with fail
 go_loopw [8] (λk wr=>∃j:bh,j<=xs.length/\k= Z U (j:aw)/\(∀z∈xs.take j,p z=tR)/\aE w.heap.size w wr) (λk _=>xs.length-(de k).toNat)
 case atStart=>exact⟨0,cN _,rfl,by simp,aq _ _⟩
 case round=>
  obtain⟨j,hj,rfl,o,f⟩:=hrel
  by_cases u:j<xs.length
  ·obtain⟨y,t⟩:∃y,xs[j]?=tG y:=⟨_,ap u⟩
   obtain⟨g1,ue,rfl,ur,G⟩:=H.out.below f (by intro e;rw[e] at u;simp at u);have d1:wr.cell? ⟨g1,ue+j,tM⟩=tG (Z U y):=G j y t;have uv:(j:aw)<(xs.length:aw):=by omega
   have v:=zH (HF.out wr f y (cd t));obtain⟨d,x⟩:=zE (p y);rw[x] at v;have g:=zH f;have J:=zH o;have K:=zH t;have R:=zH x;clear f o t x G;cases d with
   |true=>
    go_wp2_with (go_at_call 225;refine v.out.mono ?_;rintro e w2 ⟨rfl,q⟩;have A:=zH q;clear q)
    go_ret;exact⟨by rw[jd J.out K.out R.out];rfl,g.out.trans (A.out.mono g.out.size)⟩
   |false=>
    go_wp2_with (go_at_call 225;refine v.out.mono ?_;rintro e w2 ⟨rfl,q⟩;have A:=zH q;clear q)
    go_roundw
    case rel=>exact⟨j+1,by omega,by go_num,dR J.out K.out R.out,g.out.trans (A.out.mono g.out.size)⟩
    case measure=>simp[de];omega
  ·have up:j=xs.length:=by omega
   subst up;rw[cR] at o;have HM:=zH (gI o);have g:=zH f;clear o f;go_wp2;go_ret;exact⟨by rw[HM.out];rfl,g.out⟩
theorem Ad (xs:bj aw)(p:aw->mm):(!(xs.any p))=xs.all λv=> !p v:=by
 induction xs with
 |nil=>rfl
 |cons x r ih=>simp[Bool.not_or,ih]
theorem Ae {xs:bj aw}{p:aw->mm}:(xs.any λv=> !p v)= !xs.all p:=by
 induction xs with
 |nil=>rfl
 |cons x r ih=>simp[ih,Bool.not_and]
theorem qI (m:Mo)(g:Fn)(ao:cG fS)(xs:bj aw)(c:bh)(w:World)(x:g.c.nvars=g.vs.length)(R:xs.length<=eC)(h:ak w ao xs):
  zP 184 #[ub (jg m g),tU ao xs.length c] w (ua (aP g.vs.length xs)):=by
 obtain⟨N,o⟩:=zE w.heap.size;have q:cj (zP 116 #[tU ao xs.length c,.func (.func 224) #[] #[tW (tG ⟨N,0,tM⟩)]] (w.alloc (uc (jg m g) 184)) (ua (!aP g.vs.length xs))):=by
  have t:=zH (uU (w.alloc (uc (jg m g) 184)) ao xs c N (λv=> !isVar g.vs.length v) R (h.below ((aq _ _).alloc (cg _) _)) (λW hW z _=>by
   have hB:W.heap[N]?=tG (uc (jg m g) 184 (0,0)):=by
    rw[hW.block N (by simp[o]),<-o];exact alloc_at _ _
   refine(yf m g N z W hB x).mono ?_;rintro e w' ⟨rfl,rfl⟩;exact⟨rfl,aq _ _⟩))
  have y:cj (decide (0<=gW (λv=> !isVar g.vs.length v) xs)= !aP g.vs.length xs):=by
   unfold cj aP;rw[oO,Ae]
  obtain⟨W1,f⟩:=zE (w.alloc (uc (jg m g) 184));rw[f] at t⊢;obtain⟨z,A⟩:=zE (gW (λv=> !isVar g.vs.length v) xs);rw[A] at t y;clear f h A;go_enter func116,ntmps116
  go_wp2_with (go_at_call 152;refine t.out.mono ?_;rintro e w2 ⟨rfl,j⟩;have u:=zH j;clear j)
  go_ret;rw[<-y.out];exact⟨rfl,u.out⟩
 clear h x;obtain⟨W1,f⟩:=zE (w.alloc (uc (jg m g) 184));have ue:=zH f;have E:cj (aE N w W1):=by rw[<-f,<-o];exact(aq _ _).alloc (cg _) _
 rw[f] at q;obtain⟨J,G⟩:=zE (jg m g);rw[G] at f⊢;clear G ue;obtain⟨d,K⟩:=zE (aP g.vs.length xs);rw[K] at q⊢;clear K;go_enter func184,ntmps184
 go_wp2_with (go_at_call 116;refine q.out.mono ?_;rintro e w2 ⟨rfl,j⟩;have u:=zH j;clear j)
 go_ret;exact⟨by cases d<;>rfl,by rw[o];exact E.out.trans (u.out.mono (by have:=E.out.size;omega))⟩
theorem dB (m:Mo)(g:Fn)(ao:cG fS)(xs:bj aw)(c:bh)(w:World)(x:aJ Vr.cells 3 w w.heap.size g.c.varsA g.vs)(R:g.c.nvars=g.vs.length)(up:g.vs.length<=eC)(hl:xs.length<=eC)(h:ak w ao xs)(y:∀z∈xs,isVar g.vs.length z=tP):
  zP 187 #[ub (jg m g),tU ao xs.length c] w (Z U (eD g.vs xs)):=by
 obtain⟨N,t⟩:=zE w.heap.size;have A:cj (zP 116 #[tU ao xs.length c,.func (.func 225) #[] #[tW (tG ⟨N,0,tM⟩)]] (w.alloc (uc (jg m g) 184)) (ua (xs.any λv=>(ay g.vs v).1))):=by
  have E:aE w.heap.size w (w.alloc (uc (jg m g) 184)):=(aq _ _).alloc (cg _) _;have G:=zH (yg (w.alloc (uc (jg m g) 184)) ao xs c N (λv=>(ay g.vs v).1) hl (h.below E) (λW hW z u=>by
   have hB:W.heap[N]?=tG (uc (jg m g) 184 (0,0)):=by
    rw[hW.block N (by simp[t]),<-t];exact alloc_at _ _
   exact sQ m g N z W hB ((x.grow E).grow hW) R up (y z u)))
  have f:cj (decide (0<=gW (λv=>(ay g.vs v).1) xs)=(xs.any λv=>(ay g.vs v).1)):=oO;obtain⟨W1,j⟩:=zE (w.alloc (uc (jg m g) 184));rw[j] at G⊢;obtain⟨z,u⟩:=zE (gW (λv=>(ay g.vs v).1) xs);rw[u] at G f;obtain⟨d,o⟩:=zE (xs.any λv=>(ay g.vs v).1);rw[o] at f⊢;clear j h u E o x y;go_enter func116,ntmps116
  go_wp2_with (go_at_call 152;refine G.out.mono ?_;rintro e w2 ⟨rfl,q⟩;have K:=zH q;clear q)
  go_ret;rw[<-f.out];exact⟨rfl,K.out⟩
 clear h R x y;have f:cj (bU (!(xs.any λv=>(ay g.vs v).1)) 7=eD g.vs xs):=by
  unfold cj eD;congr 1;exact Ad xs _
 obtain⟨W1,j⟩:=zE (w.alloc (uc (jg m g) 184));have ue:cj (aE N w W1):=by rw[<-j,<-t];exact(aq _ _).alloc (cg _) _
 rw[j] at A;obtain⟨J,hJ⟩:=zE (jg m g);rw[hJ] at j⊢;clear hJ;obtain⟨d,o⟩:=zE (xs.any λv=>(ay g.vs v).1);rw[o] at A f;clear o;go_enter func187,ntmps187
 go_wp2_with (first
  |(go_at_call 116;refine A.out.mono ?_;rintro e w2 ⟨rfl,q⟩;have K:=zH q;clear q)
  |(go_at_call 99;refine(aD _ _ _).mono ?_;rintro e w3 ⟨rfl,rfl⟩))
 go_ret;exact⟨by rw[<-f.out];cases d<;>rfl,by rw[t];exact ue.out.trans (K.out.mono (by have:=ue.out.size;omega))⟩
def aW (w:World)(ao:cG fS)(xs:bj bm):Prop:=
 xs≠[]->∃g d,ao=tG ⟨g,d,tM⟩/\g<w.heap.size/\∀i z,xs[i]?=tG z->w.cell? ⟨g,d+i,tM⟩=tG (tS z)
theorem aW.below {w w':World}{ao:cG fS}{xs:bj bm}(h:aW w ao xs)(d:aE w.heap.size w w'):aW w' ao xs:=by
 intro j;obtain⟨g,o,e,f,q⟩:=h j;exact⟨g,o,e,cH f d.size,λi z t=>by rw[d.cell (p:=⟨g,_,tM⟩) f];exact q i z t⟩
theorem sS (w:World)(c:bh)(ao:cG fS)(xs:bj bm)(z:bm)(E:xs.length<=eC)(h:aW w ao xs):
  zS 270 #[tU ao xs.length c,tS z] w (Z U (gW (λx=>z==x) xs)):=by
 have H:=zH h;unfold eC at E;clear h;go_enter func270,ntmps270
 go_wp2_with fail
 go_loop [8] (λk=>∃j:bh,j<=xs.length/\k= Z U (j:aw)/\∀x∈xs.take j,(z==x)=tR) (λk=>xs.length-(de k).toNat)
 case atStart=>exact⟨0,cN _,rfl,by simp⟩
 case round=>
  obtain⟨j,hj,rfl,f⟩:=hrel
  by_cases g:j<xs.length
  ·obtain⟨y,o⟩:∃y,xs[j]?=tG y:=⟨_,ap g⟩
   obtain⟨G,J,rfl,ue,t⟩:=H.out (by intro e;rw[e] at g;simp at g);have d1:w.cell? ⟨G,J+j,tM⟩=tG (tS y):=t j y o;have up:(j:aw)<(xs.length:aw):=by omega
   obtain⟨d,q⟩:=zE (z==y);have hd:(z.toList==y.toList)=d:=by rw[<-fY];exact q
   have u:=zH f;have v:=zH o;have A:=zH q;clear o t f q;cases d with
   |true=>
    go_wp2;go_ret;exact⟨by rw[jd u.out v.out A.out];rfl,rfl⟩
   |false=>
    go_wp2
    go_round
    case rel=>exact⟨j+1,by omega,by go_num,dR (p:=λx=>z==x) u.out v.out A.out⟩
    case measure=>simp[de];omega
  ·have K:j=xs.length:=by omega
   subst K;rw[cR] at f;have R:=zH (gI (p:=λx=>z==x) f);clear f;go_wp2;go_ret;exact⟨by rw[R.out];rfl,rfl⟩
theorem oP (f:aw)(s:bm)(xs:bj bm)(ao:cG fS)(c:bh)(w:World)(v:xs.length<=eC)(h:aW w ao xs):
  zS 226 #[Z U f,tS s,tU ao xs.length c] w (Z U (eY f s xs)):=by
 by_cases j:f=0
 ·subst j
  have o:cj (zS 252 #[tU ao xs.length c,tS s] w (ua (xs.any λx=>x==s))):=by
   have q:=zH (sS w c ao xs s v h);have g:cj (decide (0<=gW (λx=>s==x) xs)=(xs.any λx=>x==s)):=by
    unfold cj;rw[oO];congr 1;funext x;exact BEq.comm
   obtain⟨z,t⟩:=zE (gW (λx=>s==x) xs);rw[t] at q g;clear h t;go_enter func252,ntmps252
   go_wp2_with (go_at_call 270;refine q.out.mono ?_;rintro e w2 ⟨rfl,rfl⟩)
   go_ret;rw[<-g.out];exact⟨rfl,rfl⟩
  have g:cj (bU (xs.any λx=>x==s) 3=eY 0 s xs):=rfl;obtain⟨d,u⟩:=zE (xs.any λx=>x==s);rw[u] at o g;clear h u;go_enter func226,ntmps226
  go_wp2_with (first
   |(go_at_call 252;refine o.out.mono ?_;rintro e w2 ⟨rfl,rfl⟩)
   |(go_at_call 99;refine(aD _ _ _).mono ?_;rintro e y ⟨rfl,rfl⟩))
  go_ret;exact⟨by rw[<-g.out];rfl,rfl⟩
 ·have g:cj (eY f s xs=f):=cI j
  have A:(f==0)=tR:=by rw[cT];exact j
  clear j h;go_enter func226,ntmps226;go_wp2;go_ret;exact⟨by rw[g.out];rfl,rfl⟩
theorem Af (f:Fn)(B:bh)(nm:bm)(w:World)(d:w.heap[B]?=tG (uc #[tS nm] 9 (0,0))):
  zP 138 #[ub f.cells,tW (tG ⟨B,0,tM⟩)] w (ua (f.c.nm==nm)):=by
 have q:=zR d 0 (tS nm);have g:=(br.1 d).1;have e:cj ((f.c.nm.toList==nm.toList)=(f.c.nm==nm)):=(fY _ _).symm;simp only[Fn.cells,dx.cells];clear d;go_enter func138,ntmps138;go_wp2;go_ret;rw[<-e.out];exact⟨rfl,(aq _ _).alloc (cg _) _⟩
theorem Cs (w:World)(ao:cG fS)(xs:bj Fn)(c B:bh)(nm:bm)(hn:xs.length<=eC)(h:aJ Fn.cells 8 w w.heap.size ao xs)(A:w.heap[B]?=tG (uc #[tS nm] 9 (0,0))):
  zP 137 #[tU ao xs.length c,.func (.func 138) #[] #[tW (tG ⟨B,0,tM⟩)]] w (Z U (gW (λf=>f.c.nm==nm) xs)):=by
 have H:=zH h;have up:=zH A;unfold eC at hn;have ur:=(br.1 A).1;clear h A;go_enter func137,ntmps137
 go_wp2_with fail
 go_loopw [8] (λk wr=>∃j:bh,j<=xs.length/\k= Z U (j:aw)/\(∀f∈xs.take j,(f.c.nm==nm)=tR)/\aE w.heap.size w wr) (λk _=>xs.length-(de k).toNat)
 case atStart=>exact⟨0,cN _,rfl,by simp,aq _ _⟩
 case round=>
  obtain⟨j,hj,rfl,q,g⟩:=hrel
  by_cases E:j<xs.length
  ·obtain⟨f,v⟩:∃y,xs[j]?=tG y:=⟨_,ap E⟩
   obtain⟨x,z,rfl,ux,G⟩:=(H.out.grow g) (by intro e;rw[e] at E;simp at E)
   have ue:cj (∀k u,f.cells.toList[k]?=tG u->wr.cell? ((⟨x,z+j*8,tM⟩:fS).add k)=tG u):=λk u hu=>by rw[cY];exact G j f v k u hu
   have d0:wr.cell? ⟨x,z+j*8,tM⟩=tG (tS f.c.nm):=G j f v 0 _ rfl;have vc:(j:aw)<(xs.length:aw):=by omega
   have J:=zH (Af f B nm wr ((g.block B ur).trans up.out));obtain⟨d,K⟩:=zE (f.c.nm==nm);rw[K] at J;have o:=zH g;have HZ:=zH q;have HY:=zH v;have HD:=zH K;clear g q v K G;cases d with
   |true=>
    go_wp2_with (first
     |(refine au rfl 38 _ rfl ⟨x,z+j*8,tM⟩ rfl f.cells _ ue.out cQ rfl (by kernel_rfl) ?_)
     |(go_at_call 138;refine J.out.mono ?_;rintro e w2 ⟨rfl,t⟩;have R:=zH t;clear t))
    go_ret;exact⟨by rw[jd (p:=λf:Fn=>f.c.nm==nm) HZ.out HY.out HD.out];rfl,o.out.trans (R.out.mono o.out.size)⟩
   |false=>
    go_wp2_with (first
     |(refine au rfl 38 _ rfl ⟨x,z+j*8,tM⟩ rfl f.cells _ ue.out cQ rfl (by kernel_rfl) ?_)
     |(go_at_call 138;refine J.out.mono ?_;rintro e w2 ⟨rfl,t⟩;have R:=zH t;clear t))
    go_roundw
    case rel=>exact⟨j+1,by omega,by go_num,dR (p:=λf:Fn=>f.c.nm==nm) HZ.out HY.out HD.out,o.out.trans (R.out.mono o.out.size)⟩
    case measure=>simp[de];omega
  ·have uv:j=xs.length:=by omega
   subst uv;rw[cR] at q;have HM:=zH (gI (p:=λf:Fn=>f.c.nm==nm) q);have o:=zH g;clear q g;go_wp2;go_ret;exact⟨by rw[HM.out];rfl,o.out⟩
theorem Ah (m:Mo)(nm:bm)(w:World)(j:m.fs.length<=eC)(h:aJ Fn.cells 8 w w.heap.size m.fA m.fs):
  zP 98 #[ub m.cells,tS nm] w (Z U (m.fnIx nm)):=by
 obtain⟨N,d⟩:=zE w.heap.size;have f:cj (ge am 137 #[tU m.fA m.fs.length m.fC,.func (.func 138) #[] #[tW (tG ⟨N+1,0,tM⟩)]] ((w.alloc (uc m.cells 25)).alloc (uc #[tS nm] 9)) λe w'=>e= ud (Z U (m.fnIx nm))/\aE N w w'):=by
  have g:aE w.heap.size w ((w.alloc (uc m.cells 25)).alloc (uc #[tS nm] 9)):=((aq _ _).alloc (cg _) _).alloc (by simp) _;refine(Cs _ m.fA m.fs m.fC (N+1) nm j (h.grow g) (by subst d;exact jp _ _ _)).mono ?_;rintro e w' ⟨rfl,t⟩;exact⟨rfl,by rw[<-d];exact g.trans (t.mono g.size)⟩
 simp only[Mo.cells] at f⊢;clear h j;obtain⟨z,o⟩:=zE (m.fnIx nm);rw[o] at f⊢;clear o;go_enter func98,ntmps98
 go_wp2_with (go_at_call 137;(first|refine f.out.mono ?_|(rw[d];refine f.out.mono ?_));rintro e w2 ⟨rfl,q⟩;have u:=zH q;clear q)
 go_ret;exact⟨rfl,by rw[d];exact u.out⟩
theorem uV (f:St)(B:bh)(nm:bm)(w:World)(d:w.heap[B]?=tG (uc #[tS nm] 9 (0,0))):
  zP 182 #[ub f.cells,tW (tG ⟨B,0,tM⟩)] w (ua (f.s.nm==nm)):=by
 have q:=zR d 0 (tS nm);have g:=(br.1 d).1;have e:cj ((f.s.nm.toList==nm.toList)=(f.s.nm==nm)):=(fY _ _).symm;simp only[St.cells,Fb.cells];clear d;go_enter func182,ntmps182;go_wp2;go_ret;rw[<-e.out];exact⟨rfl,(aq _ _).alloc (cg _) _⟩
theorem Ct (w:World)(ao:cG fS)(xs:bj St)(c B:bh)(nm:bm)(hn:xs.length<=eC)(h:aJ St.cells 4 w w.heap.size ao xs)(A:w.heap[B]?=tG (uc #[tS nm] 9 (0,0))):
  zP 181 #[tU ao xs.length c,.func (.func 182) #[] #[tW (tG ⟨B,0,tM⟩)]] w (Z U (gW (λf=>f.s.nm==nm) xs)):=by
 have H:=zH h;have up:=zH A;unfold eC at hn;have ur:=(br.1 A).1;clear h A;go_enter func181,ntmps181
 go_wp2_with fail
 go_loopw [8] (λk wr=>∃j:bh,j<=xs.length/\k= Z U (j:aw)/\(∀f∈xs.take j,(f.s.nm==nm)=tR)/\aE w.heap.size w wr) (λk _=>xs.length-(de k).toNat)
 case atStart=>exact⟨0,cN _,rfl,by simp,aq _ _⟩
 case round=>
  obtain⟨j,hj,rfl,q,g⟩:=hrel
  by_cases E:j<xs.length
  ·obtain⟨f,v⟩:∃y,xs[j]?=tG y:=⟨_,ap E⟩
   obtain⟨x,z,rfl,ux,G⟩:=(H.out.grow g) (by intro e;rw[e] at E;simp at E)
   have ue:cj (∀k u,f.cells.toList[k]?=tG u->wr.cell? ((⟨x,z+j*4,tM⟩:fS).add k)=tG u):=λk u hu=>by rw[cY];exact G j f v k u hu
   have d0:wr.cell? ⟨x,z+j*4,tM⟩=tG (tS f.s.nm):=G j f v 0 _ rfl;have vc:(j:aw)<(xs.length:aw):=by omega
   have J:=zH (uV f B nm wr ((g.block B ur).trans up.out));obtain⟨d,K⟩:=zE (f.s.nm==nm);rw[K] at J;have o:=zH g;have HZ:=zH q;have HY:=zH v;have HD:=zH K;clear g q v K G;cases d with
   |true=>
    go_wp2_with (first
     |(refine au rfl 90 _ rfl ⟨x,z+j*4,tM⟩ rfl f.cells _ ue.out oB rfl (by kernel_rfl) ?_)
     |(go_at_call 182;refine J.out.mono ?_;rintro e w2 ⟨rfl,t⟩;have R:=zH t;clear t))
    go_ret;exact⟨by rw[jd (p:=λf:St=>f.s.nm==nm) HZ.out HY.out HD.out];rfl,o.out.trans (R.out.mono o.out.size)⟩
   |false=>
    go_wp2_with (first
     |(refine au rfl 90 _ rfl ⟨x,z+j*4,tM⟩ rfl f.cells _ ue.out oB rfl (by kernel_rfl) ?_)
     |(go_at_call 182;refine J.out.mono ?_;rintro e w2 ⟨rfl,t⟩;have R:=zH t;clear t))
    go_roundw
    case rel=>exact⟨j+1,by omega,by go_num,dR (p:=λf:St=>f.s.nm==nm) HZ.out HY.out HD.out,o.out.trans (R.out.mono o.out.size)⟩
    case measure=>simp[de];omega
  ·have uv:j=xs.length:=by omega
   subst uv;rw[cR] at q;have HM:=zH (gI (p:=λf:St=>f.s.nm==nm) q);have o:=zH g;clear q g;go_wp2;go_ret;exact⟨by rw[HM.out];rfl,o.out⟩
theorem ny (m:Mo)(nm:bm)(w:World)(j:m.ss.length<=eC)(h:aJ St.cells 4 w w.heap.size m.sA m.ss):
  zP 135 #[ub m.cells,tS nm] w (Z U (m.stIx nm)):=by
 obtain⟨N,d⟩:=zE w.heap.size;have f:cj (ge am 181 #[tU m.sA m.ss.length m.sC,.func (.func 182) #[] #[tW (tG ⟨N+1,0,tM⟩)]] ((w.alloc (uc m.cells 25)).alloc (uc #[tS nm] 9)) λe w'=>e= ud (Z U (m.stIx nm))/\aE N w w'):=by
  have g:aE w.heap.size w ((w.alloc (uc m.cells 25)).alloc (uc #[tS nm] 9)):=((aq _ _).alloc (cg _) _).alloc (by simp) _;refine(Ct _ m.sA m.ss m.sC (N+1) nm j (h.grow g) (by subst d;exact jp _ _ _)).mono ?_;rintro e w' ⟨rfl,t⟩;exact⟨rfl,by rw[<-d];exact g.trans (t.mono g.size)⟩
 simp only[Mo.cells] at f⊢;clear h j;obtain⟨z,o⟩:=zE (m.stIx nm);rw[o] at f⊢;clear o;go_enter func135,ntmps135
 go_wp2_with (go_at_call 181;(first|refine f.out.mono ?_|(rw[d];refine f.out.mono ?_));rintro e w2 ⟨rfl,q⟩;have u:=zH q;clear q)
 go_ret;exact⟨rfl,by rw[d];exact u.out⟩
structure oQ (w:World)(m:Mo)(g:Fn):Prop where
 mo:m.inn w
 vars:aJ Vr.cells 3 w w.heap.size g.c.varsA g.vs
 nv:g.c.nvars=g.vs.length
 vl:g.vs.length<=eC
theorem oQ.below {w w':World}{m:Mo}{g:Fn}(h:oQ w m g)(d:aE w.heap.size w w'):oQ w' m g:=⟨h.mo.below d,h.vars.grow d,h.nv,h.vl⟩
theorem Cu {w:World}{m:Mo}{g:Fn}(h:m.inn w)(d:g.inn w):oQ w m g:=⟨h,d.vars,d.nvars,by have:=d.code.nvars;rw[d.nvars] at this;exact this⟩
theorem nQ {α:Type}(p:α->mm)(l:bj α):gW p l= -1\/∃(k:bh) (x:α),gW p l=(k:aw)/\l[k]?=tG x/\p x=tP:=by
 unfold gW
 by_cases h:l.findIdx p<l.length
 ·rw[cI h]
  exact .inr ⟨_,l[l.findIdx p],rfl,ap h,List.findIdx_getElem⟩
 ·rw[bx h];exact .inl rfl
theorem Ai {m:Mo}{t:Ty}(h:m.known t=tP)(d:t.1=tP):∃(k:bh) (s:St),m.stIx t.2=(k:aw)/\m.ss[k]?=tG s:=by
 unfold Mo.known at h;rw[cI d] at h;have h0:=m7 h;rcases nQ (λs:St=>s.s.nm==t.2) m.ss with e|⟨k,s,e,f,_⟩
 ·unfold Mo.stIx at h0;omega
 ·exact⟨k,s,e,f⟩
theorem Aj (m:Mo)(g:Fn)(b:mm)(s:bm)(w:World)(h:m.inn w):
  zP 96 #[ub (jg m g),ub #[ua b,tS s]] w (ua (m.known (b,s))):=by
 have d:cj (∀W,aE w.heap.size w W->zP 135 #[ub m.cells,tS s] W (Z U (m.stIx s))):=
  λW q=>ny m s W h.ns (h.below q).srow
 clear h;simp only[Mo.cells] at d;unfold jg;cases b with
 |false=>
  have f:cj (s.toList.isEmpty=m.known (tR,s)):=by
   unfold cj Mo.known;rw[bx (by simp)]
   show s.toList.isEmpty=(s==lO)
   rw[fY];have e:lO.toList=[]:=by rw[py];rfl
   rw[e];cases s.toList<;>rfl
  clear d;go_enter func96,ntmps96;go_wp2;go_ret;rw[<-f.out];exact⟨rfl,((aq _ _).alloc (cg _) _).alloc (by simp) _⟩
 |true=>
  have f:cj (decide (0<=m.stIx s)=m.known (tP,s)):=rfl;obtain⟨z,j⟩:=zE (m.stIx s);rw[j] at f d;clear j;go_enter func96,ntmps96
  go_wp2_with (go_at_call 135;refine(d.out _ (((aq _ _).alloc (cg _) _).alloc (by simp) _)).mono ?_;rintro e w2 ⟨rfl,o⟩;have t:=zH ((((aq w.heap.size w).alloc (cg _) _).alloc (by simp) _).trans (o.mono (by simp;omega)));clear o)
  go_ret;rw[<-f.out];exact⟨rfl,t.out⟩
theorem aT {fn:Func}{p u:Tmp}{d:gt}(h:fn.results=#[.cell p d,.tmp u])(tmps:eA cA)(w:World)(g:bh)(t:gt)(f:eA cA)(j:bh×bh)(fs:eA Field)
  (o:tmps.getD p undef= tW (tG ⟨g,0,tM⟩))(q:w.heap[g]?=tG (uc f t j))
  (v:am.underlying d=tG (.struct fs))(hi:(am.info? d).map (·.size)=tG f.size):
  (th fn tmps).run am w= .ok (.tuple #[ub f,tmps.getD u undef]) w:=by
 rw[results_cell_tmp h,o];have e:=oy w g t d f j _ q v rfl hi;simp only[asAddr,sn,mu,e]
theorem eQ {W:World}{b:bh}{x y u v:cA}{t:gt}(h:W.heap[b]?=tG (uc #[x,y] t (0,0))):((W.setCell ⟨b,0,tM⟩ u).setCell ⟨b,1,tM⟩ v).heap[b]?=tG (uc #[u,v] t (0,0)):=by
 have d:=bk W b 0 _ _ u h;have e:=bk _ b 1 _ _ v d;simpa using e
theorem Ak (m:Mo)(g:Fn)(v f:aw)(w:World)(h:oQ w m g)(hv:isVar g.vs.length v=tP)(hk:m.known (ay g.vs v)=tP):
  zP 253 #[ub (jg m g),Z U v,Z U f] w (.tuple #[wG (aM m g.vs v f).1,Z U (aM m g.vs v f).2]):=by
 have HT:cj (∀W,aE w.heap.size w W->zP 188 #[ub (jg m g),Z U v] W (wG (ay g.vs v))):=λW o=>iw m g v W (h.below o).vars h.nv h.vl hv;have HS:cj (∀W s,aE w.heap.size w W->zP 135 #[ub m.cells,tS s] W (Z U (m.stIx s))):=
  λW s o=>ny m s W h.mo.ns (h.mo.below o).srow
 simp only[Mo.cells] at HS;have G:cj (aM m g.vs v f=(if (ay g.vs v).1=tR then(bM,7) else match m.ss[(m.stIx (ay g.vs v).2).toNat]? with
  |none=>(bM,15)
  |some s=>if f<0 then(bM,15) else match s.fs[f.toNat]? with
   |none=>(bM,15)
   |some x=>(x.ty,0):Ty×aw)):=rfl
 have HJ:=zH h;have HK:=zH hk;obtain⟨⟨b,s⟩,ht⟩:∃t,ay g.vs v=t:=⟨_,rfl⟩
 rw[ht] at G HT HK;obtain⟨F,hF⟩:=zE (aM m g.vs v f);rw[hF] at G⊢;unfold wG at HT;clear h hv hk ht hF;have hst:∀(w:World)(c:eA cA),c.size=2->(dt ⟨w.heap.size,0,tM⟩ [ua b,tS s] 0).run am (w.alloc (uc c 32))= .ok () (w.alloc (uc #[ua b,tS s] 32)):=λw c hc=>
  cx (P:=am) w 32 c #[ua b,tS s] (by show _=tG 2;kernel_rfl) hc (by simp[ct])
 obtain⟨N,J⟩:=zE w.heap.size;obtain⟨W1,R⟩:=zE ((w.alloc (uc (jg m g) 184)).alloc (uc #[ua tR,tS ⟨#[]⟩] 32));have vd:=vX R J;have wg:W1.heap.size=N+2:=by rw[<-R];simp[J]
 have wj:=vY R J;have wk:=zl R J;have wl:=zH vd;have vq:=zH wj;have ws:=zH wk;have y:=zH J;have ue:=zH wg;clear vd wj wk wg;go_enter func253,ntmps253
 go_upto_region 2 with(first
  |(refine cm rfl 184 _ rfl N rfl 184 (jg m g) (0,0) _ vq.out cM rfl (by kernel_rfl) ?_)
  |(go_at_call 188;refine(HT.out _ (by rw[y.out];exact wl.out)).mono ?_;rintro e w2 ⟨rfl,xf⟩;have vr:=zH xf;clear xf))
 obtain⟨T,hT⟩:=zE w2.heap.size;obtain⟨d,up⟩:=zE (w2.alloc (uc #[ua b,tS s] 32));rw[hT,up];have vf:=zD up vr;have yq:N+2<=T:=by rw[<-hT,<-ue.out];exact vr.out.size
 have yr:d.heap.size=T+1:=by rw[<-up,<-hT];simp
 have xj:d.heap[N]?=tG (uc (jg m g) 184 (0,0)):=(vf.block N (by have:=ue.out;omega)).trans vq.out;have vt:d.heap[N+1]?=tG (uc #[ua tR,tS ⟨#[]⟩] 32 (0,0)):=(vf.block (N+1) (by have:=ue.out;omega)).trans ws.out;have xo:d.heap[T]?=tG (uc #[ua b,tS s] 32 (0,0)):=by rw[<-up,<-hT];exact alloc_at _ _
 have vh:cj (aE N w d):=wl.out.trans (vf.mono (by have:=ue.out;omega));have ur:cj (∀W,aE d.heap.size d W->W.cell? ⟨N,0,tM⟩=tG (tU m.sA m.ss.length m.sC)/\W.cell? ⟨N,1,tM⟩=tG (tU m.fA m.fs.length m.fC)/\W.cell? ⟨T,0,tM⟩=tG (ua b)/\W.cell? ⟨T,1,tM⟩=tG (tS s)/\
   W.cell? ⟨N+1,0,tM⟩=tG (ua tR)/\W.cell? ⟨N+1,1,tM⟩=tG (tS ⟨#[]⟩)/\W.frozen? ⟨N+1,0,tM⟩=tR/\W.frozen? ⟨N+1,1,tM⟩=tR/\N+1<W.heap.size):=by
  intro W o;have q3:=(o.block N (by omega)).trans xj;have q4:=(o.block (N+1) (by omega)).trans vt;have q5:=(o.block T (by omega)).trans xo;refine⟨?_, ?_, ?_, ?_, ?_, ?_, ?_, ?_,(br.1 q4).1⟩
  ·rw[bw _ _ _ _ _ _ q3];rfl
  ·rw[bw _ _ _ _ _ _ q3];rfl
  ·rw[bw _ _ _ _ _ _ q5];rfl
  ·rw[bw _ _ _ _ _ _ q5];rfl
  ·rw[bw _ _ _ _ _ _ q4];rfl
  ·rw[bw _ _ _ _ _ _ q4];rfl
  ·exact ei _ _ _ _ _ q4
  ·exact ei _ _ _ _ _ q4
 have vu:cj (∀W,aE d.heap.size d W->W.heap[N+1]?=tG (uc #[ua tR,tS ⟨#[]⟩] 32 (0,0))):=λW o=>(o.block (N+1) (by omega)).trans vt;obtain⟨k0,k1,k2,k3,k4,k5,k6,k7,yv⟩:=ur.out d (aq _ _);clear hst R up vf xj vt xo vq ws HT hT vr J ue;cases b with
 |false=>
  have z:cj (F=(bM,7)):=by rw[G.out];rfl
  clear G;go_wp2;(try simp only[dk,Exit.then]);refine er (aT rfl _ _ (N+1) 32 _ (0,0) _ rfl (eQ (vu.out d (aq _ _))) eM (by kernel_rfl)) rfl ?_;rw[z.out,y.out];exact⟨rfl,(vh.out.setCell (by show N<=N+1;omega) _).setCell (by show N<=N+1;omega) _⟩
 |true=>
  obtain⟨k,j,vx,u⟩:=Ai HK.out rfl;obtain⟨K,vm,hA,ye,xp⟩:=HJ.out.mo.srow (by intro e;rw[e] at u;simp at u);have yy:=(bl.1 u).1;have yW:(k:aw)<(m.ss.length:aw):=by omega
  have yi:K<N:=by have:=y.out;omega
  have hD:∀W,aE d.heap.size d W->W.cell? ⟨K,vm+k*4+1,tM⟩=tG (tU j.s.fA j.fs.length j.s.fC):=λW o=>by
   rw[(vh.out.trans (o.mono (by omega))).cell (p:=⟨K,_,tM⟩) yi];have:=xp k j u 1 _ rfl;rw[(HJ.out.mo.sin j (cd u)).nf] at this;exact this
  have HD:=zH hD;have hd:=hD d (aq _ _);have xt:cj (∀W,aE d.heap.size d W->zP 135 #[ub #[tU (tG ⟨K,vm,tM⟩) m.ss.length m.sC,tU m.fA m.fs.length m.fC],tS s] W (Z U (k:aw))):=by
   intro W o;have:=HS.out W s (by rw[y.out];exact vh.out.trans (o.mono (by omega)));rw[vx,hA] at this;exact this
  have A:cj (F=(if f<0 then(bM,15) else match j.fs[f.toNat]? with
   |none=>(bM,15)
   |some x=>(x.ty,0):Ty×aw)):=by
   unfold cj;rw[G.out,bx (by decide)]
   show(match m.ss[(m.stIx s).toNat]? with
    |none=>(bM,15)
    |some s=>if f<0 then(bM,15) else match s.fs[f.toNat]? with
     |none=>(bM,15)
     |some x=>(x.ty,0):Ty×aw)=_
   rw[vx,eW,u]
  have yk:cj (j.inn w):=HJ.out.mo.sin j (cd u);have zc:=zH u;rw[hA] at k0 ur;clear G HK vx u hA ye xp hD HJ HS;go_wp2
  go_region_held3 (λw'=>w'.cell? ⟨N,0,tM⟩=tG (tU (tG ⟨K,vm,tM⟩) m.ss.length m.sC)/\w'.cell? ⟨N,1,tM⟩=tG (tU m.fA m.fs.length m.fC)/\w'.cell? ⟨T,0,tM⟩=tG (ua tP)/\w'.cell? ⟨T,1,tM⟩=tG (tS s)/\w'.cell? ⟨K,vm+k*4+1,tM⟩=tG (tU j.s.fA j.fs.length j.s.fC)/\aE d.heap.size d w')
   (first|(exact hS)|(exact⟨k0,k1,k2,k3,hd,hU (aq _ _) 1⟩))
   (first
    |(go_at_call 135;refine(xt.out _ (by go_split_ands;assumption)).mono ?_;rintro e uv ⟨rfl,xF⟩;have E:=(hU (aq d.heap.size d) 1).trans xF;have hS:=(let h:=ur.out _ E;(⟨h.1,h.2.1,h.2.2.1,h.2.2.2.1,HD.out _ E,E⟩:_/\_/\_/\_/\_/\_))))
  obtain⟨_,_,_,_,j4,j5,j6,j7,zj⟩:=ur.out uv E;have xT:=vu.out uv E;have ux:cj (aE N w uv):=vh.out.trans (E.mono (by omega));have vy:=zH xT;clear hS E xF k0 k1 k2 k3 k4 k5 k6 k7 hd ur vu xt HD xT
  by_cases vp:f<0
  ·have z:cj (F=(bM,15)):=by unfold cj;rw[A.out,cI vp]
   clear A;go_wp2;(try simp only[dk,Exit.then]);refine er (aT rfl _ _ (N+1) 32 _ (0,0) _ rfl (eQ vy.out) eM (by kernel_rfl)) rfl ?_;rw[z.out,y.out];exact⟨rfl,(ux.out.setCell (by show N<=N+1;omega) _).setCell (by show N<=N+1;omega) _⟩
  obtain⟨q,rfl⟩:∃q:bh,f=(q:aw):=⟨f.toNat,by omega⟩
  rw[bx vp,eW] at A
  by_cases vc:q<j.fs.length
  ·obtain⟨x,hx⟩:∃x,j.fs[q]?=tG x:=⟨_,ap vc⟩
   have z:cj (F=(x.ty,0)):=by unfold cj;rw[A.out,hx]
   obtain⟨b1,yb,hA1,vd,we⟩:=yk.out.row (by intro e;rw[e] at vc;simp at vc);have yd:b1<N:=by have:=y.out;omega
   have e1:uv.cell? ⟨b1,yb+q*5+1,tM⟩=tG (ua x.ptr):=by rw[ux.out.cell (p:=⟨b1,_,tM⟩) yd];exact we q x hx 1 _ rfl
   have e2:uv.cell? ⟨b1,yb+q*5+2,tM⟩=tG (tS x.tgt):=by rw[ux.out.cell (p:=⟨b1,_,tM⟩) yd];exact we q x hx 2 _ rfl
   have yp:(q:aw)<(j.fs.length:aw):=by omega
   rw[hA1];clear A hx we vd hA1 vp vc;go_wp2;(try simp only[dk,Exit.then]);refine er (aT rfl _ _ (N+1) 32 _ (0,0) _ rfl (eQ vy.out) eM (by kernel_rfl)) rfl ?_;rw[z.out,y.out];exact⟨rfl,(ux.out.setCell (by show N<=N+1;omega) _).setCell (by show N<=N+1;omega) _⟩
  ·have z:cj (F=(bM,15)):=by unfold cj;rw[A.out,mw (by omega)]
   have yp:¬(q:aw)<(j.fs.length:aw):=by omega
   clear A vp vc;go_wp2;(try simp only[dk,Exit.then]);refine er (aT rfl _ _ (N+1) 32 _ (0,0) _ rfl (eQ vy.out) eM (by kernel_rfl)) rfl ?_;rw[z.out,y.out];exact⟨rfl,(ux.out.setCell (by show N<=N+1;omega) _).setCell (by show N<=N+1;omega) _⟩
theorem dP (a b:mm)(s t:bm)(w:World):(gE 10000 32 (ub #[ua a,tS s]) (ub #[ua b,tS t])).run am w= .ok (((a,s):Ty)==(b,t)) w:=by
 have d:am.underlying 32=tG (.struct (am.fieldsOf 32)):=by kernel_rfl
 have f:am.stoodInHeld 32=tR:=by kernel_rfl
 rw[show(10000:bh)=9999+1 from rfl,run_equalIn_agg w 9999 32 _ _ d f];simp only[Program.fieldsOf,eM];have e:(((a,s):Ty)==(b,t))=(a==b&&s.toList==t.toList):=by rw[<-fY];rfl
 rw[e];go_simp
 by_cases g:a=b<;>by_cases h:s.toList=t.toList<;>simp[g,h]
def jK (w:World)(N:bh)(m:Mo)(g:Fn):Prop:=w.cell? ⟨N,0,tM⟩=tG (tU m.sA m.ss.length m.sC)/\w.cell? ⟨N,1,tM⟩=tG (tU m.fA m.fs.length m.fC)/\w.cell? ⟨N,2,tM⟩=tG (tS g.c.nm)/\w.cell? ⟨N,3,tM⟩=tG (Z U g.c.par)/\w.cell? ⟨N,4,tM⟩=tG (tU g.c.varsA g.c.nvars g.c.varsC)/\w.cell? ⟨N,5,tM⟩=tG (ua g.c.rp)/\w.cell? ⟨N,6,tM⟩=tG (tS g.c.rto)/\w.cell? ⟨N,7,tM⟩=tG (Z U g.c.rcl)/\w.cell? ⟨N,8,tM⟩=tG (tU g.c.fromA g.c.nfrom g.c.fromC)/\w.cell? ⟨N,9,tM⟩=tG (tU g.c.insA g.c.ins.length g.c.insC)
theorem jK.of {w:World}{N:bh}{m:Mo}{g:Fn}(h:w.heap[N]?=tG (uc (jg m g) 184 (0,0))):jK w N m g:=by
 refine⟨?_, ?_, ?_, ?_, ?_, ?_, ?_, ?_, ?_, ?_⟩<;>(rw[bw _ _ _ _ _ _ h];rfl)
theorem kM (m:Mo)(g:Fn)(i:Ins)(q:aw)(v:mm)(w:World)(h:oQ w m g)(ha:isVar g.vs.length i.a=tP)(ho:isVar g.vs.length q=tP)(hk:m.known (ay g.vs i.a)=tP):
  zP 227 #[ub (jg m g),ub i.cells,Z U q,ua v] w (Z U (dA m g.vs i q v)):=by
 have A:cj (∀W,aE w.heap.size w W->zP 188 #[ub (jg m g),Z U q] W (wG (ay g.vs q))):=λW x=>iw m g q W (h.below x).vars h.nv h.vl ho;have HF:cj (∀W,aE w.heap.size w W->zP 253 #[ub (jg m g),Z U i.a,Z U i.f] W (.tuple #[wG (aM m g.vs i.a i.f).1,Z U (aM m g.vs i.a i.f).2])):=λW x=>Ak m g i.a i.f W (h.below x) ha hk;clear h ha ho hk;have E:cj (dA m g.vs i q v=if (aM m g.vs i.a i.f).2≠0 then(aM m g.vs i.a i.f).2 else bU ((aM m g.vs i.a i.f).1==ay g.vs q&&(aM m g.vs i.a i.f).1.1==v) 7):=rfl;obtain⟨R,hR⟩:=zE (dA m g.vs i q v);obtain⟨⟨⟨b,s⟩,z⟩,u⟩:∃F,aM m g.vs i.a i.f=F:=⟨_,rfl⟩
 obtain⟨⟨b2,s2⟩,ht⟩:∃t,ay g.vs q=t:=⟨_,rfl⟩
 rw[u,ht,hR] at E;rw[u] at HF;rw[ht] at A;rw[hR];unfold wG at A HF;clear u ht hR;have hst:∀(w:World)(c:eA cA),c.size=2->(dt ⟨w.heap.size,0,tM⟩ [ua b,tS s] 0).run am (w.alloc (uc c 32))= .ok () (w.alloc (uc #[ua b,tS s] 32)):=λw c hc=>
  cx (P:=am) w 32 c #[ua b,tS s] (by show _=tG 2;kernel_rfl) hc (by simp[ct])
 obtain⟨N,y⟩:=zE w.heap.size;obtain⟨W1,G⟩:=zE ((w.alloc (uc (jg m g) 184)).alloc (uc i.cells 42));have vm:=vX G y;have vp:W1.heap.size=N+2:=by rw[<-G];simp[y]
 have vq:=vY G y;have ux:=zl G y;have i2:=zR ux 2 (Z U i.a);have i4:=zR ux 4 (Z U i.f);have vr:=zH vm;have vc:=zH vq;have J:=zH y;have ur:=zH vp;clear vm vq ux vp;go_enter func227,ntmps227
 go_upto_region 2 with(first
  |(refine cm rfl 184 _ rfl N rfl 184 (jg m g) (0,0) _ vc.out cM rfl (by kernel_rfl) ?_)
  |(go_at_call 253;refine(HF.out _ (by rw[J.out];exact vr.out)).mono ?_;rintro e w2 ⟨rfl,vt⟩;have vd:=zH vt;clear vt))
 obtain⟨T,K⟩:=zE w2.heap.size;obtain⟨j,ue⟩:=zE (w2.alloc (uc #[ua b,tS s] 32));rw[K,ue];have vf:=zD ue vd;have vy:N+2<=T:=by rw[<-K,<-ur.out];exact vd.out.size
 have we:j.heap.size=T+1:=by rw[<-ue,<-K];simp
 have vu:j.heap[N]?=tG (uc (jg m g) 184 (0,0)):=(vf.block N (by have:=ur.out;omega)).trans vc.out;have vx:j.heap[T]?=tG (uc #[ua b,tS s] 32 (0,0)):=by rw[<-ue,<-K];exact alloc_at _ _
 have uv:cj (aE N w j):=vr.out.trans (vf.mono (by have:=ur.out;omega));have o:cj (∀W,aE j.heap.size j W->jK W N m g/\W.cell? ⟨T,0,tM⟩=tG (ua b)/\W.cell? ⟨T,1,tM⟩=tG (tS s)):=by
  intro W x;have q5:=(x.block T (by omega)).trans vx;refine⟨jK.of ((x.block N (by omega)).trans vu), ?_, ?_⟩
  ·rw[bw _ _ _ _ _ _ q5];rfl
  ·rw[bw _ _ _ _ _ _ q5];rfl
 clear hst G ue vf vu vx vc K vd y ur i2 i4 HF
 by_cases u:z=0
 ·subst u
  have up:cj (R=bU (((b,s):Ty)==(b2,s2)&&b==v) 7):=by unfold cj;rw[E.out,bx (by simp)]
  obtain⟨d,hd⟩:=zE (((b,s):Ty)==(b2,s2));have wg:∀w,(gE 10000 32 (ub #[ua b,tS s]) (ub #[ua b2,tS s2])).run am w= .ok d w:=λw=>by rw[dP,hd]
  rw[hd] at up;have vh:cj (∀p:BW j,zP 188 #[ub (jg m g),Z U q] p.w (ub #[ua b2,tS s2])):=
   λp=>A.out p.w (by rw[J.out];exact uv.out.trans (p.h.mono (by omega)))
  unfold jg at vh;have k0:∀p:BW j,p.w.cell? ⟨N,0,tM⟩=tG (tU m.sA m.ss.length m.sC):=λp=>(o.out p.w p.h).1.1;have k1:∀p:BW j,p.w.cell? ⟨N,1,tM⟩=tG (tU m.fA m.fs.length m.fC):=λp=>(o.out p.w p.h).1.2.1;have k2:∀p:BW j,p.w.cell? ⟨N,2,tM⟩=tG (tS g.c.nm):=λp=>(o.out p.w p.h).1.2.2.1;have k3:∀p:BW j,p.w.cell? ⟨N,3,tM⟩=tG (Z U g.c.par):=λp=>(o.out p.w p.h).1.2.2.2.1;have k4:∀p:BW j,p.w.cell? ⟨N,4,tM⟩=tG (tU g.c.varsA g.c.nvars g.c.varsC):=λp=>(o.out p.w p.h).1.2.2.2.2.1;have k5:∀p:BW j,p.w.cell? ⟨N,5,tM⟩=tG (ua g.c.rp):=λp=>(o.out p.w p.h).1.2.2.2.2.2.1;have k6:∀p:BW j,p.w.cell? ⟨N,6,tM⟩=tG (tS g.c.rto):=λp=>(o.out p.w p.h).1.2.2.2.2.2.2.1;have k7:∀p:BW j,p.w.cell? ⟨N,7,tM⟩=tG (Z U g.c.rcl):=λp=>(o.out p.w p.h).1.2.2.2.2.2.2.2.1;have k8:∀p:BW j,p.w.cell? ⟨N,8,tM⟩=tG (tU g.c.fromA g.c.nfrom g.c.fromC):=λp=>(o.out p.w p.h).1.2.2.2.2.2.2.2.2.1;have k9:∀p:BW j,p.w.cell? ⟨N,9,tM⟩=tG (tU g.c.insA g.c.ins.length g.c.insC):=λp=>(o.out p.w p.h).1.2.2.2.2.2.2.2.2.2;have t0:∀p:BW j,p.w.cell? ⟨T,0,tM⟩=tG (ua b):=λp=>(o.out p.w p.h).2.1;have t1:∀p:BW j,p.w.cell? ⟨T,1,tM⟩=tG (tS s):=λp=>(o.out p.w p.h).2.2;clear hd E A o;cases d with
  |false=>
   go_wp2;refine zQ ?_
   repeat (go_big_quiet_step (first
    |(go_at_call 188;exact bE (vh.out _))
    |(go_at_call 99;exact eO (aD _ _ _))))
   refine dj ?_;rintro _ ⟨p,rfl⟩;go_wp2;go_ret;rw[up.out,J.out];exact⟨rfl,uv.out.trans (p.h.mono (by omega))⟩
  |true=>
   go_wp2;refine zQ ?_
   repeat (go_big_quiet_step (first
    |(go_at_call 188;exact bE (vh.out _))
    |(go_at_call 99;exact eO (aD _ _ _))))
   refine dj ?_;rintro _ ⟨p,rfl⟩;go_wp2;go_ret;rw[up.out,J.out];exact⟨rfl,uv.out.trans (p.h.mono (by omega))⟩
 ·have up:cj (R=z):=by unfold cj;rw[E.out,cI u]
  have wj:(z==0)=tR:=by rw[cT];exact u
  clear E A o u;go_wp2;go_ret;rw[up.out,J.out];exact⟨rfl,uv.out⟩
theorem ku (f g:bj Vr):∀(l:bj aw)(d:bh),iT f g d l=tP↔∀k a,l[k]?=tG a->(ay f a==ay g ((d+k:bh):aw))=tP
 |[],d=>⟨λ_ k a h=>by simp at h,λ_=>rfl⟩
 |x::r,d=>by
  unfold iT;rw[fj,ku f g r (d+1)];constructor
  ·rintro⟨j,o⟩ k a e
   cases k with
   |zero=>simp at e;subst e;exact j
   |succ k=>
    have:=o k a (by simpa using e);rw[show d+(k+1)=d+1+k by omega];exact this
  ·intro h
   refine⟨h 0 x rfl,λk a e=> ?_⟩;have:=h (k+1) a (by simpa using e);rw[show d+1+k=d+(k+1) by omega];exact this
theorem oU (f:Fn):(f.cells.all λx=>x.oneCell')=tP:=by
 rw[<-ly];simp[Fn.cells,dx.cells,ct]
theorem sU (m:Mo)(g:Fn)(i:Ins)(w:World)(h:oQ w m g)(hi:i.args_in w)(yy:i.args.length<=eC)(hd:isVar g.vs.length i.d=tP)(ha:∀a∈i.args,isVar g.vs.length a=tP):
  zP 185 #[ub (jg m g),ub i.cells] w (Z U (iL m g.vs i)):=by
 have HT:cj (∀W v,aE w.heap.size w W->isVar g.vs.length v=tP->zP 188 #[ub (jg m g),Z U v] W (wG (ay g.vs v))):=λW v hW hv=>iw m g v W (h.below hW).vars h.nv h.vl hv;obtain⟨⟨_,AM,n2,AN,yW⟩,ao,cap,zc,xp⟩:=hi;have HA:cj (ak w ao i.args):=xp.at_;have HJ:=zH h;have zj:=zH hd;have zp:=zH ha;have HE:cj (iL m g.vs i=if i.f<0 then 15 else match m.fs[i.f.toNat]? with
  |none=>15
  |some g'=>if (i.args.length:aw)≠g'.c.par\/(g'.vs.length:aw)<g'.c.par then 7
   else if iT g.vs g'.vs 0 i.args=tR then 7 else bU (ay g.vs i.d==g'.ret) 7):=rfl
 obtain⟨R,hR⟩:=zE (iL m g.vs i);rw[hR] at HE⊢;clear hR h xp hd ha yW;obtain⟨N,hN⟩:=zE w.heap.size;obtain⟨W1,vm⟩:=zE ((w.alloc (uc (jg m g) 184)).alloc (uc i.cells 42));have xt:=vX vm hN;have vp:W1.heap.size=N+2:=by rw[<-vm];simp[hN]
 have vy:=vY vm hN;have we:=zl vm hN;have i4:=zR we 4 (Z U i.f);have k1:=zR vy 1 (tU m.fA m.fs.length m.fC);have ur:=zH xt;have xF:=zH vy;have xT:=zH we;have J:=zH hN;have AS:=zH vp;clear xt vy we
 by_cases vc:i.f<0
 ·have G:cj (R=15):=by unfold cj;rw[HE.out,cI vc]
  clear HE HT;go_enter func185,ntmps185;go_wp2;go_ret;rw[G.out];exact⟨rfl,by first|exact ur.out|(rw[J.out];exact ur.out)⟩
 obtain⟨F,hF⟩:∃F:bh,i.f=(F:aw):=⟨i.f.toNat,by omega⟩
 rw[hF] at i4
 by_cases vd:F<m.fs.length
 ·obtain⟨f,vq⟩:∃f,m.fs[F]?=tG f:=⟨_,ap vd⟩
  have uv:cj (R=if (i.args.length:aw)≠f.c.par\/(f.vs.length:aw)<f.c.par then 7 else if iT g.vs f.vs 0 i.args=tR then 7 else bU (ay g.vs i.d==f.ret) 7):=by
   unfold cj;rw[HE.out,bx vc,hF,eW,vq]
  have wg:=HJ.out.mo.fin f (cd vq);have zs:=zH wg;obtain⟨fb,yb,wj,zv,yd⟩:=HJ.out.mo.frow (by intro e;rw[e] at vd;simp at vd);have An:fb<N:=by omega
  have At:cj (∀k u,f.cells.toList[k]?=tG u->W1.cell? ((⟨fb,yb+F*8,tM⟩:fS).add k)=tG u):=λk u hu=>by
   rw[cY,ur.out.cell (p:=⟨fb,_,tM⟩) An];exact yd F f vq k u hu
  have Ax:(F:aw)<(m.fs.length:aw):=by omega
  obtain⟨A,vf⟩:=zE (W1.alloc (uc f.cells 38));have hst:∀(c:eA cA),c.size=8->(dt ⟨N+2,0,tM⟩ f.cells.toList 0).run am (W1.alloc (uc c 38))= .ok () A:=λc hc=>by
   rw[<-vf,<-vp];exact cx (P:=am) W1 38 c f.cells (by show _=tG 8;kernel_rfl) hc (oU f)
  have vr:=il vf;have ye:A.heap[N+2]?=tG (uc f.cells 38 (0,0)):=by rw[<-vf,<-vp];exact alloc_at _ _
  have AT:A.heap.size=N+3:=by rw[<-vf];simp[vp]
  have K:cj (aE N w A):=ur.out.trans (vr.mono (by omega));have vt:cj (∀W,aE A.heap.size A W->jK W N m g/\W.cell? ⟨N+1,1,tM⟩=tG (Z U i.d)/\W.cell? ⟨N+1,7,tM⟩=tG (tU ao i.args.length cap)/\
    W.cell? ⟨N+2,1,tM⟩=tG (Z U f.c.par)/\W.cell? ⟨N+2,2,tM⟩=tG (tU f.c.varsA f.vs.length f.c.varsC)/\W.cell? ⟨N+2,3,tM⟩=tG (ua f.c.rp)/\W.cell? ⟨N+2,4,tM⟩=tG (tS f.c.rto)):=by
   intro W hW;have q1:=(hW.block N (by omega)).trans ((vr.block N (by omega)).trans xF.out);have q2:=(hW.block (N+1) (by omega)).trans ((vr.block (N+1) (by omega)).trans xT.out);have q3:=(hW.block (N+2) (by omega)).trans ye;refine⟨jK.of q1, ?_, ?_, ?_, ?_, ?_, ?_⟩
   ·rw[bw _ _ _ _ _ _ q2];rfl
   ·rw[bw _ _ _ _ _ _ q2,<-zc];rfl
   ·rw[bw _ _ _ _ _ _ q3];rfl
   ·rw[bw _ _ _ _ _ _ q3,<-wg.nvars];rfl
   ·rw[bw _ _ _ _ _ _ q3];rfl
   ·rw[bw _ _ _ _ _ _ q3];rfl
  obtain⟨_,j1,j7,c1,c2,c3,c4⟩:=vt.out A (aq _ _);have wk:cj (∀(W:World)(v:aw),aE A.heap.size A W->isVar f.vs.length v=tP->∃(k b E:bh) (x:Vr),v=(k:aw)/\k<f.vs.length/\f.c.varsA=tG ⟨b,E,tM⟩/\b<A.heap.size/\ay f.vs v=(x.ptr,x.tgt)/\W.cell? ⟨b,E+k*3,tM⟩=tG (ua x.ptr)/\W.cell? ⟨b,E+k*3+1,tM⟩=tG (tS x.tgt)):=by
   intro W v hW hv;have yi:aE w.heap.size w W:=by rw[J.out];exact K.out.trans (hW.mono (by omega))
   obtain⟨k,b,E,x,r1,r2,r3,r4,r5,r6,r7⟩:=ed (zs.out.vars) hv;exact⟨k,b,E,x,r1,r2,r3,by omega,r5,by rw[yi.cell (p:=⟨b,_,tM⟩) r4];exact r6,by rw[yi.cell (p:=⟨b,_,tM⟩) r4];exact r7⟩
  have AW:=zH wj;rw[wj] at k1;have A0:i.args.length<=9223372036854775807:=by unfold eC at yy;omega
  clear HE vc hF vd vq wg wj yd vr ye xF xT zv;go_enter func185,ntmps185
  go_upto_region 4 with(first
   |(refine au rfl 38 _ rfl ⟨fb,yb+F*8,tM⟩ rfl f.cells _ At.out cQ rfl (by kernel_rfl) ?_))
  clear hst vf i4 k1
  by_cases vh:(i.args.length:aw)=f.c.par
  ·by_cases vu:(f.vs.length:aw)<f.c.par
   ·have G:cj (R=7):=by unfold cj;rw[uv.out,cI (.inr vu)]
    rw[<-vh] at vu c1;clear uv HT;go_wp2;go_ret;rw[G.out,J.out];exact⟨rfl,K.out⟩
   ·have wl:cj (R=if iT g.vs f.vs 0 i.args=tR then 7 else bU (ay g.vs i.d==f.ret) 7):=by
     unfold cj;rw[uv.out,bx (λh=>by rcases h with h|h;exact h vh;exact vu h)]
    rw[<-vh] at vu c1;have A1:i.args.length<=f.vs.length:=by omega
    clear uv vh
    go_upto_region 7 with(fail)
    go_loopw [44] (λc wr=>∃j:bh,j<=i.args.length/\c= Z U (j:aw)/\(∀k a,k<j->i.args[k]?=tG a->(ay g.vs a==ay f.vs (k:aw))=tP)/\aE A.heap.size A wr) (λc _=>i.args.length-(de c).toNat)
    case atStart=>exact⟨0,cN _,rfl,λk a hk=>fL hk (by omega),aq _ _⟩
    case round=>
     obtain⟨j,hj,rfl,ws,hb⟩:=hrel;have q:=zH hb;have yk:=zH ws
     by_cases vx:j<i.args.length
     ·obtain⟨y,hy⟩:∃y,i.args[j]?=tG y:=⟨_,ap vx⟩
      obtain⟨ab,AD,AE,A2,yp⟩:=(HA.out.below (by rw[J.out];exact K.out.trans (hb.mono (by omega)))) (by intro e;rw[e] at vx;simp at vx)
      have d1:wr.cell? ⟨ab,AD+j,tM⟩=tG (Z U y):=yp j y hy;have yq:isVar g.vs.length y=tP:=zp.out y (cd hy);obtain⟨z,b,E,x,A3,A4,xf,AF,xj,_,_⟩:=wk.out wr (j:aw) hb (eT.2 ⟨by omega,by omega⟩);obtain rfl:z=j:=by omega
      have HX:cj (∀p:BW wr,p.w.cell? ⟨b,E+z*3,tM⟩=tG (ua x.ptr)/\p.w.cell? ⟨b,E+z*3+1,tM⟩=tG (tS x.tgt)):=by
       intro p;obtain⟨k2,b2,AH,x2,q1,q2,q3,q4,q5,q6,q7⟩:=wk.out p.w (z:aw) (q.out.trans (p.h.mono q.out.size)) (eT.2 ⟨by omega,by omega⟩);obtain rfl:z=k2:=by omega
       rw[xf] at q3;obtain⟨rfl,rfl⟩:b=b2/\E=AH:=by simpa using q3
       rw[xj] at q5;obtain⟨e1,e2⟩:x.ptr=x2.ptr/\x.tgt=x2.tgt:=by simpa using q5
       rw[e1,e2];exact⟨q6,q7⟩
      have x0:∀p:BW wr,p.w.cell? ⟨b,E+z*3,tM⟩=tG (ua x.ptr):=λp=>(HX.out p).1;have x1:∀p:BW wr,p.w.cell? ⟨b,E+z*3+1,tM⟩=tG (tS x.tgt):=λp=>(HX.out p).2;have A5:b<wr.heap.size:=cH AF hb.size;obtain⟨⟨tb,ts⟩,ue⟩:∃t,ay g.vs y=t:=⟨_,rfl⟩
      have ux:cj (∀p:BW wr,zP 188 #[ub (jg m g),Z U y] p.w (ub #[ua tb,tS ts])):=λp=>by
       have:=HT.out p.w y (by rw[J.out];exact(K.out.trans (q.out.mono (by omega))).trans (p.h.mono (by have:=q.out.size;omega))) yq;rw[ue] at this;exact this
      unfold jg at ux;obtain⟨d,up⟩:=zE (((tb,ts):Ty)==(x.ptr,x.tgt));have AI:∀w,(gE 10000 32 (ub #[ua tb,tS ts]) (ub #[ua x.ptr,tS x.tgt])).run am w= .ok d w:=λw=>by rw[dP,up]
      have yr:cj ((ay g.vs y==ay f.vs (z:aw))=d):=by unfold cj;rw[ue,xj];exact up
      have HY:=zH hy;have o:cj (∀p:BW wr,_):=λp:BW wr=>vt.out p.w (q.out.trans (p.h.mono q.out.size));have k0:∀p:BW wr,p.w.cell? ⟨N,0,tM⟩=tG (tU m.sA m.ss.length m.sC):=λp=>(o.out p).1.1;have k1:∀p:BW wr,p.w.cell? ⟨N,1,tM⟩=tG (tU m.fA m.fs.length m.fC):=λp=>(o.out p).1.2.1;have k2:∀p:BW wr,p.w.cell? ⟨N,2,tM⟩=tG (tS g.c.nm):=λp=>(o.out p).1.2.2.1;have k3:∀p:BW wr,p.w.cell? ⟨N,3,tM⟩=tG (Z U g.c.par):=λp=>(o.out p).1.2.2.2.1;have k4:∀p:BW wr,p.w.cell? ⟨N,4,tM⟩=tG (tU g.c.varsA g.c.nvars g.c.varsC):=λp=>(o.out p).1.2.2.2.2.1;have k5:∀p:BW wr,p.w.cell? ⟨N,5,tM⟩=tG (ua g.c.rp):=λp=>(o.out p).1.2.2.2.2.2.1;have k6:∀p:BW wr,p.w.cell? ⟨N,6,tM⟩=tG (tS g.c.rto):=λp=>(o.out p).1.2.2.2.2.2.2.1;have k7:∀p:BW wr,p.w.cell? ⟨N,7,tM⟩=tG (Z U g.c.rcl):=λp=>(o.out p).1.2.2.2.2.2.2.2.1;have k8:∀p:BW wr,p.w.cell? ⟨N,8,tM⟩=tG (tU g.c.fromA g.c.nfrom g.c.fromC):=λp=>(o.out p).1.2.2.2.2.2.2.2.2.1;have k9:∀p:BW wr,p.w.cell? ⟨N,9,tM⟩=tG (tU g.c.insA g.c.ins.length g.c.insC):=λp=>(o.out p).1.2.2.2.2.2.2.2.2.2;have A6:∀p:BW wr,p.w.cell? ⟨N+2,2,tM⟩=tG (tU (tG ⟨b,E,tM⟩) f.vs.length f.c.varsC):=λp=>by rw[<-xf];exact(o.out p).2.2.2.2.1
      have Bk:(z:aw)<(i.args.length:aw):=by omega
      have Bm:(z:aw)<(f.vs.length:aw):=by omega
      subst AE;clear ws hb hy yp yq xf xj ue up vx o;cases d with
      |true=>
       go_wp2_with fail
       refine zQ ?_
       repeat (go_big_quiet_step (first
        |(go_at_call 188;exact bE (ux.out _))))
       refine dj ?_;rintro _ ⟨p,rfl⟩;go_wp2;go_roundw
       case rel=>
        refine⟨z+1,by omega,by go_num,λk a hk xo=> ?_,q.out.trans (p.h.mono q.out.size)⟩
        by_cases e:k=z
        ·subst e
         rw[HY.out] at xo;obtain rfl:=cE xo;exact yr.out
        ·exact yk.out k a (by omega) xo
       case measure=>simp[de];omega
      |false=>
       have G:cj (R=7):=by
        unfold cj;rw[wl.out,cI];cases hc:iT g.vs f.vs 0 i.args with
        |false=>rfl
        |true=>
         have:=(ku _ _ _ _).1 hc z y HY.out;rw[cL,yr.out] at this;cases this
       go_wp2_with fail
       refine zQ ?_
       repeat (go_big_quiet_step (first
        |(go_at_call 188;exact bE (ux.out _))))
       refine dj ?_;rintro _ ⟨p,rfl⟩;go_wp2;go_ret;rw[G.out,J.out];exact⟨rfl,(K.out.trans (q.out.mono (by omega))).trans (p.h.mono (by have:=q.out.size;omega))⟩
     ·have AK:j=i.args.length:=by omega
      subst AK;have yv:cj (R=bU (ay g.vs i.d==f.ret) 7):=by
       unfold cj;rw[wl.out,bx];rw[(ku _ _ _ _).2 (λk a hk=>by rw[cL];exact yk.out k a (bl.1 hk).1 hk)];decide
      obtain⟨⟨tb,ts⟩,ue⟩:∃t,ay g.vs i.d=t:=⟨_,rfl⟩
      have ux:cj (∀p:BW wr,zP 188 #[ub (jg m g),Z U i.d] p.w (ub #[ua tb,tS ts])):=λp=>by
       have:=HT.out p.w i.d (by rw[J.out];exact(K.out.trans (q.out.mono (by omega))).trans (p.h.mono (by have:=q.out.size;omega))) zj.out;rw[ue] at this;exact this
      unfold jg at ux;obtain⟨d,up⟩:=zE (((tb,ts):Ty)==(f.c.rp,f.c.rto));have AI:∀w,(gE 10000 32 (ub #[ua tb,tS ts]) (ub #[ua f.c.rp,tS f.c.rto])).run am w= .ok d w:=λw=>by rw[dP,up]
      have G:cj (R=bU d 7):=by unfold cj;rw[yv.out,ue,<-up];rfl
      have o:cj (∀p:BW wr,_):=λp:BW wr=>vt.out p.w (q.out.trans (p.h.mono q.out.size));have k0:∀p:BW wr,p.w.cell? ⟨N,0,tM⟩=tG (tU m.sA m.ss.length m.sC):=λp=>(o.out p).1.1;have k1:∀p:BW wr,p.w.cell? ⟨N,1,tM⟩=tG (tU m.fA m.fs.length m.fC):=λp=>(o.out p).1.2.1;have k2:∀p:BW wr,p.w.cell? ⟨N,2,tM⟩=tG (tS g.c.nm):=λp=>(o.out p).1.2.2.1;have k3:∀p:BW wr,p.w.cell? ⟨N,3,tM⟩=tG (Z U g.c.par):=λp=>(o.out p).1.2.2.2.1;have k4:∀p:BW wr,p.w.cell? ⟨N,4,tM⟩=tG (tU g.c.varsA g.c.nvars g.c.varsC):=λp=>(o.out p).1.2.2.2.2.1;have k5:∀p:BW wr,p.w.cell? ⟨N,5,tM⟩=tG (ua g.c.rp):=λp=>(o.out p).1.2.2.2.2.2.1;have k6:∀p:BW wr,p.w.cell? ⟨N,6,tM⟩=tG (tS g.c.rto):=λp=>(o.out p).1.2.2.2.2.2.2.1;have k7:∀p:BW wr,p.w.cell? ⟨N,7,tM⟩=tG (Z U g.c.rcl):=λp=>(o.out p).1.2.2.2.2.2.2.2.1;have k8:∀p:BW wr,p.w.cell? ⟨N,8,tM⟩=tG (tU g.c.fromA g.c.nfrom g.c.fromC):=λp=>(o.out p).1.2.2.2.2.2.2.2.2.1;have k9:∀p:BW wr,p.w.cell? ⟨N,9,tM⟩=tG (tU g.c.insA g.c.ins.length g.c.insC):=λp=>(o.out p).1.2.2.2.2.2.2.2.2.2;have g1:∀p:BW wr,p.w.cell? ⟨N+1,1,tM⟩=tG (Z U i.d):=λp=>(o.out p).2.1;have g3:∀p:BW wr,p.w.cell? ⟨N+2,3,tM⟩=tG (ua f.c.rp):=λp=>(o.out p).2.2.2.2.2.1;have g4:∀p:BW wr,p.w.cell? ⟨N+2,4,tM⟩=tG (tS f.c.rto):=λp=>(o.out p).2.2.2.2.2.2;clear ws hb ue up o wl yv wk HT vt
      go_wp2_with fail
      refine zQ ?_
      repeat (go_big_quiet_step (first
       |(go_at_call 188;exact bE (ux.out _))
       |(go_at_call 99;exact eO (aD _ _ _))))
      refine dj ?_;rintro _ ⟨p,rfl⟩;go_wp2;go_ret;rw[G.out,J.out];exact⟨rfl,(K.out.trans (q.out.mono (by omega))).trans (p.h.mono (by have:=q.out.size;omega))⟩
  ·have G:cj (R=7):=by unfold cj;rw[uv.out,cI (.inl vh)]
   clear uv HT;go_wp2;go_ret;rw[G.out,J.out];exact⟨rfl,K.out⟩
 ·have G:cj (R=15):=by unfold cj;rw[HE.out,bx vc,hF,eW,mw (by omega)]
  have Ax:¬((F:aw)<(m.fs.length:aw)):=by omega
  clear HE HT vd vc hF;go_enter func185,ntmps185;go_wp2;go_ret;rw[G.out];exact⟨rfl,by first|exact ur.out|(rw[J.out];exact ur.out)⟩
structure dX (w:World)(m:Mo)(g:Fn)(i:Ins):Prop where
 j:oQ w m g
 d:qY i.op=tP->isVar g.vs.length i.d=tP
 a:sP i.op=tP->isVar g.vs.length i.a=tP
 b:rM i.op=tP->isVar g.vs.length i.b=tP
 kn:∀v,isVar g.vs.length v=tP->m.known (ay g.vs v)=tP
theorem Al {w:World}{z:aw}:ak (w.alloc (uc #[Z U z] 3)) (tG ⟨w.heap.size,0,tM⟩) [z]:=ak.one w z rfl
theorem IW {w:World}{y z:aw}:ak (w.alloc (uc #[Z U y,Z U z] 3)) (tG ⟨w.heap.size,0,tM⟩) [y,z]:=by
 intro _;refine⟨w.heap.size,0,rfl,by simp,λk u d=> ?_⟩;rw[cL,World.cell?_alloc_new];have:k<2:=(bl.1 d).1;obtain rfl|rfl:k=0\/k=1:=by omega
 ·simp at d;subst d;rfl
 ·simp at d;subst d;rfl
theorem cB {m:Mo}{g:Fn}{i:Ins}{w:World}{k:aw}(t:i.op=k)(h:dX w m g i):∃N W1,w.heap.size=N/\(w.alloc (uc (jg m g) 184)).alloc (uc i.cells 42)=W1/\W1.heap.size=N+2/\N+1<W1.heap.size/\
  (W1.cell? ⟨N+1,0,tM⟩=tG (Z U k)/\W1.cell? ⟨N+1,1,tM⟩=tG (Z U i.d)/\W1.cell? ⟨N+1,2,tM⟩=tG (Z U i.a)/\W1.cell? ⟨N+1,3,tM⟩=tG (Z U i.b)/\W1.cell? ⟨N+1,4,tM⟩=tG (Z U i.f)/\W1.cell? ⟨N+1,6,tM⟩=tG (tS i.sign))/\
  cj (w.heap.size=N)/\cj (W1.heap.size=N+2)/\cj (aE N w W1)/\cj (W1.heap[N]?=tG (uc (jg m g) 184 (0,0)))/\cj (W1.heap[N+1]?=tG (uc i.cells 42 (0,0)))/\
  cj (∀W v,aE w.heap.size w W->isVar g.vs.length v=tP->zP 188 #[ub (jg m g),Z U v] W (wG (ay g.vs v)))/\cj (qY k=tP->isVar g.vs.length i.d=tP)/\cj (sP k=tP->isVar g.vs.length i.a=tP)/\cj (rM k=tP->isVar g.vs.length i.b=tP):=by
 obtain⟨N,o⟩:=zE w.heap.size;obtain⟨W1,q⟩:=zE ((w.alloc (uc (jg m g) 184)).alloc (uc i.cells 42));have u:W1.heap.size=N+2:=by rw[<-q];simp[o]
 have e:=zl q o;refine⟨N,W1,o,q,u,by omega,⟨?_,zR e 1 _,zR e 2 _,zR e 3 _,zR e 4 _,zR e 6 _⟩,o,u,vX q o,vY q o,e,λW v x y=>iw m g v W (h.j.below x).vars h.j.nv h.j.vl y, ?_, ?_, ?_⟩
 ·rw[bw _ _ _ _ _ _ e,<-t];rfl
 ·rw[<-t];exact h.d
 ·rw[<-t];exact h.a
 ·rw[<-t];exact h.b
theorem GL (m:Mo)(g:Fn)(i:Ins)(w:World)(f:i.op=1)(h:dX w m g i):
  zP 189 #[ub (jg m g),ub i.cells] w (Z U (ax m g.vs i)):=by
 have o:cj (ax m g.vs i=eD g.vs [i.d]):=by
  unfold cj ax;rw[f];rfl
 obtain⟨R,t⟩:=zE (ax m g.vs i);rw[t] at o⊢;clear t;have u:=zH h;obtain⟨N,W1,hN,ur,uv,ux,⟨i0,i1,i2,i3,i4,i6⟩,v,x,E,G,vc,J,y,K,HB⟩:=cB f h;clear h f;have z:cj (aE N w (W1.alloc (uc #[Z U i.d] 3))):=E.out.alloc (by omega) _;have ue:cj (zP 187 #[ub (jg m g),tU (tG ⟨N+2,0,tM⟩) 1 1] (W1.alloc (uc #[Z U i.d] 3)) (Z U R)):=by
  have q:=u.out.j.below (by rw[v.out];exact z.out);have:=dB m g (tG ⟨N+2,0,tM⟩) [i.d] 1 (W1.alloc (uc #[Z U i.d] 3)) q.vars q.nv q.vl (by unfold eC;simp) (by rw[<-x.out];exact Al) (by simp;exact y.out rfl);rw[<-o.out] at this;exact this
 clear o y K HB J u;go_enter fR,fy
 go_wp2_with (first
  |(refine cm rfl 184 _ rfl N rfl 184 (jg m g) (0,0) _ G.out cM rfl (by kernel_rfl) ?_)
  |(go_at_call 187;refine ue.out.mono ?_;rintro e w4 ⟨rfl,A⟩;have up:=zH A;clear A))
 go_ret;refine⟨rfl, ?_⟩;rw[v.out];exact z.out.trans (up.out.mono (by have:=x.out;simp;omega))
theorem GM (m:Mo)(g:Fn)(i:Ins)(w:World)(f:i.op=5)(h:dX w m g i):
  zP 189 #[ub (jg m g),ub i.cells] w (Z U (ax m g.vs i)):=by
 have o:cj (ax m g.vs i=eD g.vs [i.d]):=by
  unfold cj ax;rw[f];rfl
 obtain⟨R,t⟩:=zE (ax m g.vs i);rw[t] at o⊢;clear t;have u:=zH h;obtain⟨N,W1,hN,ur,uv,ux,⟨i0,i1,i2,i3,i4,i6⟩,v,x,E,G,vc,J,y,K,HB⟩:=cB f h;clear h f;have z:cj (aE N w (W1.alloc (uc #[Z U i.d] 3))):=E.out.alloc (by omega) _;have ue:cj (zP 187 #[ub (jg m g),tU (tG ⟨N+2,0,tM⟩) 1 1] (W1.alloc (uc #[Z U i.d] 3)) (Z U R)):=by
  have q:=u.out.j.below (by rw[v.out];exact z.out);have:=dB m g (tG ⟨N+2,0,tM⟩) [i.d] 1 (W1.alloc (uc #[Z U i.d] 3)) q.vars q.nv q.vl (by unfold eC;simp) (by rw[<-x.out];exact Al) (by simp;exact y.out rfl);rw[<-o.out] at this;exact this
 clear o y K HB J u;go_enter fR,fy
 go_wp2_with (first
  |(refine cm rfl 184 _ rfl N rfl 184 (jg m g) (0,0) _ G.out cM rfl (by kernel_rfl) ?_)
  |(go_at_call 187;refine ue.out.mono ?_;rintro e w4 ⟨rfl,A⟩;have up:=zH A;clear A))
 go_ret;refine⟨rfl, ?_⟩;rw[v.out];exact z.out.trans (up.out.mono (by have:=x.out;simp;omega))
theorem GN (m:Mo)(g:Fn)(i:Ins)(w:World)(d:i.op=6)(h:dX w m g i):
  zP 189 #[ub (jg m g),ub i.cells] w (Z U (ax m g.vs i)):=by
 have f:cj (ax m g.vs i=eD g.vs [i.a]):=by
  unfold cj ax;rw[d];rfl
 obtain⟨R,q⟩:=zE (ax m g.vs i);rw[q] at f⊢;clear q;have t:=zH h;obtain⟨N,W1,hN,ur,uv,ux,⟨i0,i1,i2,i3,i4,i6⟩,u,v,A,E,vc,G,J,x,K⟩:=cB d h;clear h d;have y:cj (aE N w (W1.alloc (uc #[Z U i.a] 3))):=A.out.alloc (by omega) _;have ue:cj (zP 187 #[ub (jg m g),tU (tG ⟨N+2,0,tM⟩) 1 1] (W1.alloc (uc #[Z U i.a] 3)) (Z U R)):=by
  have o:=t.out.j.below (by rw[u.out];exact y.out);have:=dB m g (tG ⟨N+2,0,tM⟩) [i.a] 1 (W1.alloc (uc #[Z U i.a] 3)) o.vars o.nv o.vl (by unfold eC;simp) (by rw[<-v.out];exact Al) (by simp;exact x.out rfl);rw[<-f.out] at this;exact this
 clear f J x K G t;go_enter fR,fy
 go_wp2_with (first
  |(refine cm rfl 184 _ rfl N rfl 184 (jg m g) (0,0) _ E.out cM rfl (by kernel_rfl) ?_)
  |(go_at_call 187;refine ue.out.mono ?_;rintro e w4 ⟨rfl,z⟩;have up:=zH z;clear z))
 go_ret;refine⟨rfl, ?_⟩;rw[u.out];exact y.out.trans (up.out.mono (by have:=v.out;simp;omega))
theorem GQ (m:Mo)(g:Fn)(i:Ins)(w:World)(f:i.op=3)(h:dX w m g i):
  zP 189 #[ub (jg m g),ub i.cells] w (Z U (ax m g.vs i)):=by
 have o:cj (ax m g.vs i=eD g.vs [i.d,i.a]):=by
  unfold cj ax;rw[f];rfl
 obtain⟨R,t⟩:=zE (ax m g.vs i);rw[t] at o⊢;clear t;have u:=zH h;obtain⟨N,W1,hN,ur,uv,ux,⟨i0,i1,i2,i3,i4,i6⟩,v,x,G,J,vc,K,y,z,HB⟩:=cB f h;clear h f;have A:cj (aE N w (W1.alloc (uc #[Z U i.d,Z U i.a] 3))):=G.out.alloc (by omega) _;have ue:cj (zP 187 #[ub (jg m g),tU (tG ⟨N+2,0,tM⟩) 2 2] (W1.alloc (uc #[Z U i.d,Z U i.a] 3)) (Z U R)):=by
  have q:=u.out.j.below (by rw[v.out];exact A.out);have:=dB m g (tG ⟨N+2,0,tM⟩) [i.d,i.a] 2 (W1.alloc (uc #[Z U i.d,Z U i.a] 3)) q.vars q.nv q.vl (by unfold eC;simp) (by rw[<-x.out];exact IW) (by simp;exact⟨y.out rfl,z.out rfl⟩);rw[<-o.out] at this;exact this
 clear o y z HB K u;go_enter fR,fy
 go_wp2_with (first
  |(refine cm rfl 184 _ rfl N rfl 184 (jg m g) (0,0) _ J.out cM rfl (by kernel_rfl) ?_)
  |(go_at_call 187;refine ue.out.mono ?_;rintro e w4 ⟨rfl,E⟩;have up:=zH E;clear E))
 go_ret;refine⟨rfl, ?_⟩;rw[v.out];exact A.out.trans (up.out.mono (by have:=x.out;simp;omega))
theorem GR (m:Mo)(g:Fn)(i:Ins)(w:World)(f:i.op=2)(h:dX w m g i):
  zP 189 #[ub (jg m g),ub i.cells] w (Z U (ax m g.vs i)):=by
 have j:cj (ax m g.vs i=bU (ay g.vs i.d).1 7):=by
  unfold cj ax;rw[f];rfl
 obtain⟨R,o⟩:=zE (ax m g.vs i);rw[o] at j⊢;clear o;have y:=zH h;obtain⟨N,W1,K,ue,up,ur,⟨i0,i1,i2,i3,i4,i6⟩,q,uv,t,z,ux,u,v,A,E⟩:=cB f h;clear h f;have G:cj (zP 188 #[ub (jg m g),Z U i.d] W1 (ub #[ua (ay g.vs i.d).1,tS (ay g.vs i.d).2])):=u.out W1 i.d (by rw[q.out];exact t.out) (v.out rfl);have vc:=ko;clear v A E u y;go_enter fR,fy
 go_wp2_with (first
  |(refine cm rfl 184 _ rfl N rfl 184 (jg m g) (0,0) _ z.out cM rfl (by kernel_rfl) ?_)
  |(go_at_call 188;refine G.out.mono ?_;rintro e w4 ⟨rfl,x⟩;have J:=zH x;clear x)
  |(go_at_call 99;refine(aD _ _ _).mono ?_;rintro e w9 ⟨rfl,rfl⟩))
 go_ret;rw[j.out,q.out];exact⟨rfl,t.out.trans (J.out.mono (by omega))⟩
theorem FM (m:Mo)(g:Fn)(i:Ins)(w:World)(d:i.op=13)(h:dX w m g i):
  zP 189 #[ub (jg m g),ub i.cells] w (Z U (ax m g.vs i)):=by
 have f:cj (ax m g.vs i=bU (ay g.vs i.a).1 7):=by
  unfold cj ax;rw[d];rfl
 obtain⟨R,j⟩:=zE (ax m g.vs i);rw[j] at f⊢;clear j;have x:=zH h;obtain⟨N,W1,J,K,ue,up,⟨i0,i1,i2,i3,i4,i6⟩,o,ur,q,y,uv,t,z,u,A⟩:=cB d h;clear h d;have E:cj (zP 188 #[ub (jg m g),Z U i.a] W1 (ub #[ua (ay g.vs i.a).1,tS (ay g.vs i.a).2])):=t.out W1 i.a (by rw[o.out];exact q.out) (u.out rfl);have ux:=ko;clear z u A t x;go_enter fR,fy
 go_wp2_with (first
  |(refine cm rfl 184 _ rfl N rfl 184 (jg m g) (0,0) _ y.out cM rfl (by kernel_rfl) ?_)
  |(go_at_call 188;refine E.out.mono ?_;rintro e w4 ⟨rfl,v⟩;have G:=zH v;clear v)
  |(go_at_call 99;refine(aD _ _ _).mono ?_;rintro e w9 ⟨rfl,rfl⟩))
 go_ret;rw[f.out,o.out];exact⟨rfl,q.out.trans (G.out.mono (by omega))⟩
theorem GU (m:Mo)(g:Fn)(i:Ins)(w:World)(f:i.op=7)(h:dX w m g i):
  zP 189 #[ub (jg m g),ub i.cells] w (Z U (ax m g.vs i)):=by
 have t:cj (ax m g.vs i=dA m g.vs i i.d tR):=by
  unfold cj ax;rw[f];rfl
 obtain⟨R,u⟩:=zE (ax m g.vs i);rw[u] at t⊢;clear u;have o:=zH h;obtain⟨N,W1,hN,up,ur,uv,⟨i0,i1,i2,i3,i4,i6⟩,v,ux,x,A,E,G,y,q,J⟩:=cB f h;clear h f;have K:cj (zP 227 #[ub (jg m g),ub i.cells,Z U i.d,ua tR] W1 (Z U (dA m g.vs i i.d tR))):=
  kM m g i i.d tR W1 (o.out.j.below (by rw[v.out];exact x.out)) (q.out rfl) (y.out rfl) (o.out.kn _ (q.out rfl))
 clear y q J G o;go_enter fR,fy
 go_wp2_with (first
  |(refine cm rfl 184 _ rfl N rfl 184 (jg m g) (0,0) _ A.out cM rfl (by kernel_rfl) ?_)
  |(refine cm rfl 42 _ rfl (N+1) rfl 42 i.cells (0,0) _ E.out cD rfl (by kernel_rfl) ?_)
  |(go_at_call 227;refine K.out.mono ?_;rintro e w4 ⟨rfl,z⟩;have ue:=zH z;clear z))
 go_ret;rw[t.out,v.out];exact⟨rfl,x.out.trans (ue.out.mono (by omega))⟩
theorem FN (m:Mo)(g:Fn)(i:Ins)(w:World)(f:i.op=10)(h:dX w m g i):
  zP 189 #[ub (jg m g),ub i.cells] w (Z U (ax m g.vs i)):=by
 have t:cj (ax m g.vs i=dA m g.vs i i.d tP):=by
  unfold cj ax;rw[f];rfl
 obtain⟨R,u⟩:=zE (ax m g.vs i);rw[u] at t⊢;clear u;have o:=zH h;obtain⟨N,W1,hN,up,ur,uv,⟨i0,i1,i2,i3,i4,i6⟩,v,ux,x,A,E,G,y,q,J⟩:=cB f h;clear h f;have K:cj (zP 227 #[ub (jg m g),ub i.cells,Z U i.d,ua tP] W1 (Z U (dA m g.vs i i.d tP))):=
  kM m g i i.d tP W1 (o.out.j.below (by rw[v.out];exact x.out)) (q.out rfl) (y.out rfl) (o.out.kn _ (q.out rfl))
 clear y q J G o;go_enter fR,fy
 go_wp2_with (first
  |(refine cm rfl 184 _ rfl N rfl 184 (jg m g) (0,0) _ A.out cM rfl (by kernel_rfl) ?_)
  |(refine cm rfl 42 _ rfl (N+1) rfl 42 i.cells (0,0) _ E.out cD rfl (by kernel_rfl) ?_)
  |(go_at_call 227;refine K.out.mono ?_;rintro e w4 ⟨rfl,z⟩;have ue:=zH z;clear z))
 go_ret;rw[t.out,v.out];exact⟨rfl,x.out.trans (ue.out.mono (by omega))⟩
theorem GV (m:Mo)(g:Fn)(i:Ins)(w:World)(d:i.op=8)(h:dX w m g i):
  zP 189 #[ub (jg m g),ub i.cells] w (Z U (ax m g.vs i)):=by
 have q:cj (ax m g.vs i=dA m g.vs i i.b tR):=by
  unfold cj ax;rw[d];rfl
 obtain⟨R,t⟩:=zE (ax m g.vs i);rw[t] at q⊢;clear t;have f:=zH h;obtain⟨N,W1,hN,ue,up,ur,⟨i0,i1,i2,i3,i4,i6⟩,u,uv,v,z,A,E,G,o,x⟩:=cB d h;clear h d;have J:cj (zP 227 #[ub (jg m g),ub i.cells,Z U i.b,ua tR] W1 (Z U (dA m g.vs i i.b tR))):=
  kM m g i i.b tR W1 (f.out.j.below (by rw[u.out];exact v.out)) (o.out rfl) (x.out rfl) (f.out.kn _ (o.out rfl))
 clear G o x E f;go_enter fR,fy
 go_wp2_with (first
  |(refine cm rfl 184 _ rfl N rfl 184 (jg m g) (0,0) _ z.out cM rfl (by kernel_rfl) ?_)
  |(refine cm rfl 42 _ rfl (N+1) rfl 42 i.cells (0,0) _ A.out cD rfl (by kernel_rfl) ?_)
  |(go_at_call 227;refine J.out.mono ?_;rintro e w4 ⟨rfl,y⟩;have K:=zH y;clear y))
 go_ret;rw[q.out,u.out];exact⟨rfl,v.out.trans (K.out.mono (by omega))⟩
theorem FO (m:Mo)(g:Fn)(i:Ins)(w:World)(d:i.op=11)(h:dX w m g i):
  zP 189 #[ub (jg m g),ub i.cells] w (Z U (ax m g.vs i)):=by
 have q:cj (ax m g.vs i=dA m g.vs i i.b tP):=by
  unfold cj ax;rw[d];rfl
 obtain⟨R,t⟩:=zE (ax m g.vs i);rw[t] at q⊢;clear t;have f:=zH h;obtain⟨N,W1,hN,ue,up,ur,⟨i0,i1,i2,i3,i4,i6⟩,u,uv,v,z,A,E,G,o,x⟩:=cB d h;clear h d;have J:cj (zP 227 #[ub (jg m g),ub i.cells,Z U i.b,ua tP] W1 (Z U (dA m g.vs i i.b tP))):=
  kM m g i i.b tP W1 (f.out.j.below (by rw[u.out];exact v.out)) (o.out rfl) (x.out rfl) (f.out.kn _ (o.out rfl))
 clear G o x E f;go_enter fR,fy
 go_wp2_with (first
  |(refine cm rfl 184 _ rfl N rfl 184 (jg m g) (0,0) _ z.out cM rfl (by kernel_rfl) ?_)
  |(refine cm rfl 42 _ rfl (N+1) rfl 42 i.cells (0,0) _ A.out cD rfl (by kernel_rfl) ?_)
  |(go_at_call 227;refine J.out.mono ?_;rintro e w4 ⟨rfl,y⟩;have K:=zH y;clear y))
 go_ret;rw[q.out,u.out];exact⟨rfl,v.out.trans (K.out.mono (by omega))⟩
end Go.Proofs.YtjomgckjhcfbgaaGreat
