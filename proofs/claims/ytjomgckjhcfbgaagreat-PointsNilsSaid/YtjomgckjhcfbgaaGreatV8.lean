/- Walks. -/
import Derived.Laws.OwnMore
import Derived.Handy
import Derived.Laws.StructEq
import Derived.Deep.RegionHeld3
import Derived.Deep.WholeRow
import Derived.Laws.ResultCell
import Derived.Test.YtjomgckjhcfbgaaGreatV0
set_option maxRecDepth 100000
set_option maxHeartbeats 64000000
set_option linter.all false
namespace Go.Proofs.YtjomgckjhcfbgaaGreat
open Go.RowKit
open Go.Proofs.Tryz renaming prog→ac,underlying184→cj,underlying42→cT,ntmps189→dc,underlying32→dg,func189→dp,underlying38→eW,underlying35→ft,underlying90→kB,ntmps144→ml,func144→mB
open Go.RowKit.Below renaming refl→an
open _root_ renaming ByteArray→ap,List→bh,Nat→bw,Int→ct,if_neg→cy,Array→cC,beq_eq_false_iff_ne→cL,if_pos→cQ,Option→dr,decide_eq_false→er,False→fW,absurd→gC,Bool→iv,decide_eq_true→kh,of_decide_eq_true→lO
open Go renaming heap_setCell_same→aq,Value→bo,wpList_load_row→cc,run_storeCells_new→cf,cell_of_row→ci,storeCells→cM,bodyPost_ret→cP,maxLen→cX,frozen_of_row→dt,run_underlying→dT,Calls→et,wpQuiet_nil→eC,TypeId→eJ,beq_toListBytes→fR,Oper→fY,heap_alloc2_new→gx,Program→gA,info_parts→iu,run_loadVar_row→j8,results→mS
open _root_.Array renaming getElem?_eq_some_iff→aw,all_toList→gi
open Go.RowKit renaming Below→bj,Hid→cr
open Go.Value renaming slice→bk,oneCell'→bp,int→dv,ownBlock→eL,string→oe,slice→ot,pointer→ox,bool→oy,agg→oA,int→Z
open _root_.Nat renaming le_refl→bl,lt_of_lt_of_le→cg,zero_add→cJ,zero_le→da,le_succ→fX
open _root_.List renaming getElem?_eq_some_iff→ca,getElem?_eq_getElem→ce,length_append→cm,mem_of_getElem?→cA,take_length→dl,nil_append→ev,cons_append→fN,any_eq_true→ie,any_eq_false→j9,append_nil→ki,getElem?_map→kO,getElem?_eq_none→na
open Go.Exit renaming inBlock→cD
open Go.Addr renaming add_lit→cI
open _root_.Option.some renaming inj→cN
open Go.Result renaming andThen→eb,andThen_ok→ly
open _root_.Int renaming toNat_natCast→eN
open Go.Builtin renaming append_→fj,firstCells→iz,lenOf→lz
open _root_.Bool renaming and_eq_true→fk,true→oc,false→od
open Go.Oper renaming wp→ia
open Go.Instr renaming field→jp
open Go.Op renaming equalIn→js
open Go.ByteArray renaming toList_eq→ld
open _root_.ByteArray renaming empty→lk
open _root_.Option renaming some→oa,none→ob
open Go.Obj renaming cells→oB
open Go.Ending renaming returned→oE
open Go.IntKind renaming i64→U
open Tryz
def wO (op:ct):iv:=decide (op∈[1,2,3,4,5,7,9,10,12,14,15])
def xV (op:ct):iv:=decide (op∈[3,4,6,7,8,9,10,11,13,14,17,18])
def wP (op:ct):iv:=decide (op∈[4,8,11])
theorem xA (op:ct):(op=1\/op=2\/op=3\/op=4\/op=5\/op=6\/op=7\/op=8\/op=9\/op=10\/op=11\/op=12\/op=13\/op=14\/op=15\/op=17\/op=18)\/(op≠1/\op≠2/\op≠3/\op≠4/\op≠5/\op≠6/\op≠7/\op≠8/\op≠9/\op≠10/\op≠11/\op≠12/\op≠13/\op≠14/\op≠15/\op≠17/\op≠18):=by omega
theorem lK (op:ct)(w:World):zS 193 #[Z U op] w (.tuple #[oy (wO op),oy (xV op),oy (wP op)]):=by
 rcases xA op with h|h
 ·rcases h with rfl|rfl|rfl|rfl|rfl|rfl|rfl|rfl|rfl|rfl|rfl|rfl|rfl|rfl|rfl|rfl|rfl
  all_goals
   go_enter func193,ntmps193;go_wp2
   go_ret3
   exact⟨rfl,rfl⟩
 ·obtain⟨d,f,g,j,o,q,u,v,y,A,D,G,J,K,N,R,Y⟩:=h
  have e1:(op==1)=od:=by simpa using d
  have e2:(op==2)=od:=by simpa using f
  have e3:(op==3)=od:=by simpa using g
  have e4:(op==4)=od:=by simpa using j
  have e5:(op==5)=od:=by simpa using o
  have e6:(op==6)=od:=by simpa using q
  have e7:(op==7)=od:=by simpa using u
  have e8:(op==8)=od:=by simpa using v
  have e9:(op==9)=od:=by simpa using y
  have oR:(op==10)=od:=by simpa using A
  have oS:(op==11)=od:=by simpa using D
  have oT:(op==12)=od:=by simpa using G
  have oX:(op==13)=od:=by simpa using J
  have oY:(op==14)=od:=by simpa using K
  have pb:(op==15)=od:=by simpa using N
  have pc:(op==17)=od:=by simpa using R
  have pd:(op==18)=od:=by simpa using Y
  have HD:cr (wO op=od/\xV op=od/\wP op=od):=by
   unfold wO xV wP;refine⟨er ?_,er ?_,er ?_⟩<;>(simp;omega)
  clear d f g j o q u v y A D G J K N R Y;go_enter func193,ntmps193;go_wp2
  go_ret3
  obtain⟨a,b,c⟩:=HD.out;exact⟨by rw[a,b,c];rfl,rfl⟩
def aV (w:World)(b:dr Addr)(xs:bh ct):Prop:=
 xs≠[]->∃g a,b=oa ⟨g,a,ob⟩/\g<w.heap.size/\∀i z,xs[i]?=oa z->w.cell? ⟨g,a+i,ob⟩=oa (Z U z)
theorem bq.at_ {w:World}{base n cap:bw}{a:dr Addr}{xs:bh ct}(h:bq w base (ot a n cap) xs):aV w a xs:=by
 intro b;obtain⟨g,e,_,d,f⟩:=h.shape (List.length_pos_iff.2 b);exact⟨g,0,e,d,λi z j=>by rw[cJ];exact f i z j⟩
theorem kG.at_ {w:World}{a:dr Addr}{xs:bh ct}(h:kG w a xs):aV w a xs:=by
 intro d;obtain⟨b,f,e,hb,g⟩:=h d;exact⟨b,f,e,hb,λi z j=>by have:=g i z j 0 _ rfl;simpa using this⟩
theorem aV.below {w w':World}{a:dr Addr}{xs:bh ct}(h:aV w a xs)(hb:bj w.heap.size w w'):aV w' a xs:=by
 intro d;obtain⟨g,f,e,b,j⟩:=h d;exact⟨g,f,e,cg b hb.size,λi z o=>by rw[hb.cell (p:=⟨g,_,ob⟩) b];exact j i z o⟩
theorem aV.nil_of_none {w:World}{xs:bh ct}(h:aV w ob xs):xs=[]:=by
 by_cases e:xs=[]
 ·exact e
 ·obtain⟨g,b,a,_⟩:=h e
  cases a
theorem l6 {P:gA}(w:World)(base:bw)(t d e:eJ)(i:TypeInfo)(size:bw)(a:P.underlying t=oa (.slice e))(b:P.info? e=oa i)
  (v:bo)(n:bw)(xs:bh bo)(f:w.ownsRow base e size v n xs)(c:bw):(fj #[t,t] d #[v,ot ob 0 c]).run P w= .ok v w:=by
 rcases f.2 with⟨rfl,rfl⟩|⟨g,cap,cur,rfl,_,_,h,_⟩
 ·simp[fj,dT a,sizeOf,typeInfo,b,lz,iz]
 ·simp[fj,dT a,sizeOf,typeInfo,b,lz,iz,h,cM]
theorem bD {w:World}{ops:cC fY}{rest:bh fY}{o:fY}{a:Act}{Q:Exit->Act->World->Prop}(J:o.guard=ob)(s x:Operand)
  (N:o.op= .call {callee:= .builtin .append,args:=#[s,x],argTypes:=#[35,35]})(base:bw)(v:bo)(xs:bh ct)(R:a.eval s=v)(q:bq w base v xs)
  (y:dr Addr)(b:bh ct)(c:bw)(Y:a.eval x= ot y b.length c)(oR:aV w y b)(pd:xs.length+b.length<=90000)(oS:base<=w.heap.size)
  (h:∀d w',bq w' base d (xs++b)->w.grownBy w' v.ownBlock->wpList ac ops Q rest (a.put o.dst d) w'):wpList ac ops Q (o::rest) a w:=by
 obtain⟨i0,hi,oT,oX,oY⟩:=iu jL;have hh:∀d w',w'.ownsRow base 3 1 d (xs.length+b.length) (xs.map (dv .i64)++b.map (dv .i64))->w.grownBy w' v.ownBlock->wpList ac ops Q rest (a.put o.dst d) w':=λd w' A D=>h d w' (by unfold bq;simpa using A) D;cases y with
 |none=>
  obtain rfl:=oR.nil_of_none;refine wpList_plain J λK hK=> ?_;have pb:=l6 (P:=ac) w base 35 o.type 3 i0 1 ft hi v _ _ q c;have pc:a.eval x= ot ob 0 c:=Y;unfold ia;simp[execOp,N,resolve,invoke,builtin,R,pc,pb,eb];exact hK _ _ (hh _ _ (by have h:=q;unfold bq at h;simpa using h) (World.grownBy.refl w _))
 |some ad=>
  refine wpList_append_own _ J s x 35 N base 3 i0 (Z U 0) 1 8 ft hi oT oX oY rfl (by decide) v xs.length _ R q ad b.length c (b.map (dv .i64)) Y (by simp) (λj u f=> ?_) (by simp;intro _ _;rfl) (by unfold cX;omega) (by omega) oS (λd w' A D _=>hh d w' A D);obtain⟨z,G,rfl⟩:∃z,b[j]?=oa z/\dv .i64 z=u:=by
   rw[kO] at f;cases hy:b[j]? with
   |none=>rw[hy] at f;simp at f
   |some z=>rw[hy] at f;exact⟨z,rfl,by simpa using f⟩
  obtain⟨g,pf,e,_,hc⟩:=oR (by intro e;rw[e] at G;simp at G);obtain rfl:=cN e;rw[cI];exact hc j z G
def bO (i:Ins):ct×iv:=if wO i.op=oc then(i.d,oc) else(0,od)
def readsOf (i:Ins):bh ct:=(if xV i.op=oc then[i.a] else[])++(if wP i.op=oc then[i.b] else[])++(if i.op=15 then i.args else[])
theorem nu (i:Ins)(w:World)(o:i.ok):zP 142 #[oA i.cells] w (.tuple #[Z U (bO i).1,oy (bO i).2]):=by
 obtain⟨op,d,a,b,f,n,q,u,v,y,A,D,G,args⟩:=i;obtain⟨⟨J,cap,g⟩,K,n2,N,h⟩:=o;simp only at g h;subst g h;simp only[Ins.cells,bO];have j:=zH (lK op);cases R:wO op with
 |true=>
  go_enter func142,ntmps142
  go_wp2_with (go_at_call 193;refine(j.out _).mono ?_;rintro e w' ⟨rfl,rfl⟩)
  go_ret2
  exact⟨rfl,(an _ _).alloc (bl _) _⟩
 |false=>
  go_enter func142,ntmps142
  go_wp2_with (go_at_call 193;refine(j.out _).mono ?_;rintro e w' ⟨rfl,rfl⟩)
  go_ret2
  exact⟨rfl,(an _ _).alloc (bl _) _⟩
theorem below_grown {B:bw}{a w w':World}{v:bo}{xs:bh ct}(h:bj B a w)(b:B<=w.heap.size)(d:bq w B v xs)(f:w.grownBy w' v.ownBlock):bj B a w':=
 h.grown f b (λk g=>(d.lt k g).1)
theorem aV.one (w:World)(z:ct){B:bw}(b:B=w.heap.size):aV (w.alloc (oB #[Z U z] 3)) (oa ⟨B,0,ob⟩) [z]:=by
 subst b;intro _;refine⟨w.heap.size,0,rfl,by simp,λi u a=> ?_⟩;rw[cJ,World.cell?_alloc_new];have:i<1:=(ca.1 a).1;obtain rfl:i=0:=by omega
 simp at a;subst a;rfl
theorem zF {op:ct}(h:wP op=oc):xV op=oc:=by
 unfold wP at h;unfold xV;have:=lO h;refine kh ?_;simp at this⊢;omega
theorem tK (i:Ins)(h:i.args.length<=40):(readsOf i).length<=42:=by
 unfold readsOf;simp only[cm];have:(if xV i.op=oc then[i.a] else[]).length<=1:=by split<;>simp
 have:(if wP i.op=oc then[i.b] else[]).length<=1:=by split<;>simp
 have:(if i.op=15 then i.args else[]).length<=40:=by
  split
  ·exact h
  ·simp
 omega
theorem pJ (i:Ins)(w:World)(ph:i.args_in w)(hl:i.args.length<=40):et ac 144 #[oA i.cells] w (xW w (readsOf i)):=by
 obtain⟨op,d,a,b,f,n,oY,pm,pn,pb,pc,ln,cl,args⟩:=i;obtain⟨⟨_,pd,n2,pf,h2⟩,ao,cap,h1,oR⟩:=ph;simp only at h1 h2 oR hl;subst h1 h2;simp only[Ins.cells,readsOf];have J:=zH (lK op);have pi:=zH oR.at_;clear oR;obtain⟨N,g⟩:=zE w.heap.size
 by_cases K:op=15
 ·subst K
  have e:(if xV 15=oc then[a] else[])++(if wP 15=oc then[b] else[])++(if (15:ct)=15 then args else[])=args:=by
   rw[cy (by decide),cy (by decide),cQ rfl];rfl
  rw[e];go_enter mB,ml
  go_wp2_with (first
   |(go_at_call 193;refine(J.out _).mono ?_;rintro e w' ⟨rfl,rfl⟩)
   |(at_builtin;refine bD rfl (.tmp 28) (.tmp 30) rfl (N+1) (ot ob 0 0) [] rfl (bq.nil _ _) ao args cap rfl (pi.out.below ((an _ _).alloc (bl _) _)) ?c1 ?c2 ?_))
  case c1=>simp;omega
  case c2=>simp;omega
  intro v' w' o q;obtain⟨y,A,rfl⟩:=o.isSlice;have j:cr (bq w' (N+1) (ot y args.length A) args/\bj N w w'):=⟨by simpa using o,by
   refine below_grown (v:= ot ob 0 0) (xs:=[]) ?_ ?_ (bq.nil _ _) q
   ·rw[<-g];exact(an _ _).alloc (bl _) _
   ·simp;omega⟩
  clear o q
  try simp only[ev]
  go_wp2;go_ret;exact⟨_,_,rfl,by first|exact j.out.1.mono (fX N)|(rw[g];exact j.out.1.mono (fX N)),by first|exact j.out.2|(rw[g];exact j.out.2)⟩
 ·have po:(op==15)=od:=by simpa using K
  rw[cy K,ki];clear K;cases ha:xV op with
  |false=>
   have hb:wP op=od:=by
    cases h:wP op with
    |false=>rfl
    |true=>rw[zF h] at ha;cases ha
   rw[hb,cy (by decide),cy (by decide)];go_enter mB,ml
   go_wp2_with (go_at_call 193;refine(J.out _).mono ?_;rintro e w' ⟨rfl,rfl⟩)
   go_ret;exact⟨ob,0,rfl,bq.nil _ _,(an _ _).alloc (by omega) _⟩
  |true=>
   cases hb:wP op with
   |false=>
    rw[cQ rfl,cy (by decide),ki];go_enter mB,ml
    go_wp2_with (first
     |(go_at_call 193;refine(J.out _).mono ?_;rintro e w' ⟨rfl,rfl⟩)
     |(at_builtin;refine bD rfl (.tmp 14) (.tmp 17) rfl (N+1) (ot ob 0 0) [] rfl (bq.nil _ _) _ [a] 1 rfl (aV.one _ _ (by simp[g])) ?c1 ?c2 ?_))
    case c1=>simp
    case c2=>simp;omega
    intro v' w' o q;obtain⟨y,A,rfl⟩:=o.isSlice;have j:cr (bq w' (N+1) (ot y [a].length A) [a]/\bj N w w'):=⟨by simpa using o,by
     refine below_grown (v:= ot ob 0 0) (xs:=[]) ?_ ?_ (bq.nil _ _) q
     ·rw[<-g];exact((an _ _).alloc (bl _) _).alloc (by simp) _
     ·simp;omega⟩
    have u:Ext (λ_=>fW) ((w.alloc (oB #[Z U op,Z U d,Z U a,Z U b,Z U f,Z U n,oe oY,ot ao args.length cap,ot pd n2 pf,Z U pb,Z U pc,Z U ln,Z U cl] 42)).alloc (oB #[Z U a] 3)) w':=Ext.of_grown q (λk D=>by simp[eL] at D);have oS:w'.cell? ⟨N,0,ob⟩=oa (Z U op):=by
     rw[u.cell (a:=⟨N,0,ob⟩) (by simp;omega) (λh=>h),<-g,World.cell?_alloc_lt _ _ _ (by simp),World.cell?_alloc_new];rfl
    clear o q u
    try simp only[ev]
    go_wp2;go_ret;exact⟨_,_,rfl,by first|exact j.out.1.mono (fX N)|(rw[g];exact j.out.1.mono (fX N)),by first|exact j.out.2|(rw[g];exact j.out.2)⟩
   |true=>
    rw[cQ rfl,cQ rfl];go_enter mB,ml
    go_wp2_with (first
     |(go_at_call 193;refine(J.out _).mono ?_;rintro e w' ⟨rfl,rfl⟩)
     |(at_builtin;refine bD rfl (.tmp 14) (.tmp 17) rfl (N+1) (ot ob 0 0) [] rfl (bq.nil _ _) _ [a] 1 rfl (aV.one _ _ (by simp[g])) ?c1 ?c2 ?_))
    case c1=>simp
    case c2=>simp;omega
    intro v1 w1 oT oX;obtain⟨R,Y,rfl⟩:=oT.isSlice;have u:Ext (λ_=>fW) ((w.alloc (oB #[Z U op,Z U d,Z U a,Z U b,Z U f,Z U n,oe oY,ot ao args.length cap,ot pd n2 pf,Z U pb,Z U pc,Z U ln,Z U cl] 42)).alloc (oB #[Z U a] 3)) w1:=Ext.of_grown oX (λk D=>by simp[eL] at D);have pp:w1.cell? ⟨N,3,ob⟩=oa (Z U b):=by
     rw[u.cell (a:=⟨N,3,ob⟩) (by simp;omega) (λh=>h),<-g,World.cell?_alloc_lt _ _ _ (by simp),World.cell?_alloc_new];rfl
    have oS:w1.cell? ⟨N,0,ob⟩=oa (Z U op):=by
     rw[u.cell (a:=⟨N,0,ob⟩) (by simp;omega) (λh=>h),<-g,World.cell?_alloc_lt _ _ _ (by simp),World.cell?_alloc_new];rfl
    have G:cr (bq w1 (N+1) (ot R [a].length Y) [a]/\bj N w w1):=⟨by simpa using oT,by
     refine below_grown (v:= ot ob 0 0) (xs:=[]) ?_ ?_ (bq.nil _ _) oX
     ·rw[<-g];exact((an _ _).alloc (bl _) _).alloc (by simp) _
     ·simp;omega⟩
    have pj:N<=w1.heap.size:=by have:=G.out.2.size;omega
    clear oT oX u
    try simp only[ev]
    go_wp2_with (at_builtin;refine bD rfl (.tmp 20) (.tmp 23) rfl (N+1) (ot R 1 Y) [a] rfl (ownsRow_below G.out.1 ((an _ _).alloc (bl _) _)) _ [b] 1 rfl (aV.one _ _ (by simp)) ?c3 ?c4 ?_)
    case c3=>simp
    case c4=>simp;omega
    intro v' w' o q;obtain⟨y,A,rfl⟩:=o.isSlice;have pk:N<w1.heap.size:=by
     by_cases e:N<w1.heap.size
     ·exact e
     ·exact gC oS (by simp[World.cell?,Array.getElem?_eq_none (Nat.le_of_not_lt e)])
    have pw:w'.cell? ⟨N,0,ob⟩=oa (Z U op):=by
     have pl:Ext (λk=>(bk R 1 Y).ownBlock=oa k) (w1.alloc (oB #[Z U b] 3)) w':=Ext.of_grown q (λk D=> .inl D);rw[pl.cell (a:=⟨N,0,ob⟩) (by simp;omega) (λh=> ?_),World.cell?_alloc_lt _ _ _ pk]
     ·exact oS
     ·have h3:=(G.out.1.lt N h).1
      omega
    have j:cr (bq w' (N+1) (ot y [a,b].length A) [a,b]/\bj N w w'):=⟨by simpa using o,by
     refine below_grown (v:= ot R 1 Y) (xs:=[a]) ?_ ?_ (bq.mono (ownsRow_below G.out.1 ((an _ _).alloc (bl _) _)) (fX N)) q
     ·exact G.out.2.alloc pj _
     ·simp;omega⟩
    clear o q
    try simp only[fN,ev]
    go_wp2;go_ret;exact⟨_,_,rfl,by first|exact j.out.1.mono (fX N)|(rw[g];exact j.out.1.mono (fX N)),by first|exact j.out.2|(rw[g];exact j.out.2)⟩
def fB {α:Type}(p:α->iv)(l:bh α):ct:=if l.findIdx p<l.length then((l.findIdx p:bw):ct) else-1
def Mo.stIx (m:Mo)(nm:ap):ct:=fB (λs=>s.s.nm==nm) m.ss
def Mo.fnIx (m:Mo)(nm:ap):ct:=fB (λf=>f.c.nm==nm) m.fs
def Mo.known (m:Mo)(t:Ty):iv:=if t.1=oc then decide (0<=m.stIx t.2) else t.2==lk
def aA (a:bh Vr)(v:ct):Ty:=match a[v.toNat]? with
 |some x=>x.ty
 |none=>bG
def isVar (n:bw)(v:ct):iv:=decide (0<=v)&&decide (v<(n:ct))
def gB (n:bw)(l:bh ct):iv:=l.all (isVar n)
def dS (b:iv)(f:ct):ct:=if b=oc then 0 else f
def dB (m:Mo)(a:bh Vr)(v f:ct):Ty×ct:=
 if (aA a v).1=od then(bG,7)
 else match m.ss[(m.stIx (aA a v).2).toNat]? with
  |none=>(bG,15)
  |some s=>if f<0 then(bG,15) else match s.fs[f.toNat]? with
   |none=>(bG,15)
   |some x=>(x.ty,0)
def gQ (m:Mo)(b:bh Vr)(i:Ins)(d:ct)(g:iv):ct:=
 if (dB m b i.a i.f).2≠0 then(dB m b i.a i.f).2
 else dS ((dB m b i.a i.f).1==aA b d&&(dB m b i.a i.f).1.1==g) 7
def lL (b d:bh Vr):bw->bh ct->iv
 |_,[]=>oc
 |k,a::r=>aA b a==aA d (k:ct)&&lL b d (k+1) r
def jX (m:Mo)(vs:bh Vr)(i:Ins):ct:=
 if i.f<0 then 15 else match m.fs[i.f.toNat]? with
  |none=>15
  |some g=>if (i.args.length:ct)≠g.c.par\/(g.vs.length:ct)<g.c.par then 7
   else if lL vs g.vs 0 i.args=od then 7 else dS (aA vs i.d==g.ret) 7
def dN (a:bh Vr)(l:bh ct):ct:=dS (l.all λv=> !(aA a v).1) 7
def fV (f:ct)(s:ap)(l:bh ap):ct:=if f≠0 then f else dS (l.any λx=>x==s) 3
def kQ:bh ap:=[⟨#[43]⟩,⟨#[45]⟩,⟨#[42]⟩,⟨#[47]⟩,⟨#[37]⟩,⟨#[60]⟩,⟨#[60,61]⟩,⟨#[62]⟩,⟨#[62,61]⟩,⟨#[61,61]⟩,⟨#[33,61]⟩]
def jG:bh ap:=[⟨#[61,61]⟩,⟨#[33,61]⟩]
def ak (m:Mo)(g:bh Vr)(i:Ins):ct:=
 if i.op=1\/i.op=5 then dN g [i.d]
 else if i.op=3 then dN g [i.d,i.a]
 else if i.op=4 then fV (dN g [i.d,i.a,i.b]) i.sign kQ
 else if i.op=6 then dN g [i.a]
 else if i.op=2 then dS (aA g i.d).1 7
 else if i.op=13 then dS (aA g i.a).1 7
 else if i.op=14 then fV (dS (!(aA g i.d).1&&(aA g i.a).1) 7) i.sign jG
 else if i.op=9 then dS ((aA g i.a).1&&aA g i.a==aA g i.d) 7
 else if i.op=7\/i.op=10 then gQ m g i i.d (decide (i.op=10))
 else if i.op=8\/i.op=11 then gQ m g i i.b (decide (i.op=11))
 else if i.f<0 then 15 else match m.ss[i.f.toNat]? with
  |none=>15
  |some s=>dS (aA g i.d==(oc,s.s.nm)) 7
def bZ (m:Mo)(g:Fn)(i:Ins):ct:=
 if i.op<1\/18<i.op then 3
 else if gB g.vs.length (readsOf i++(if wO i.op then[i.d] else[]))=od then 15
 else if i.op=15 then jX m g.vs i
 else if i.op=16 then dS (isVar g.c.ins.length i.tI) 15
 else if i.op=17 then(if isVar g.c.ins.length i.tI&&isVar g.c.ins.length i.els then dN g.vs [i.a] else 15)
 else if i.op=18 then dS (aA g.vs i.a==g.ret) 7
 else ak m g.vs i
def aW {α:Type}(f:α->ct):bh α->ct
 |[]=>0
 |x::r=>if f x=0 then aW f r else f x
def codeF (m:Mo)(g:Fn):ct:=
 if 300<g.vs.length\/g.c.ins.length<1\/3000<g.c.ins.length then 2
 else if g.c.par<0\/(g.vs.length:ct)<g.c.par then 15
 else if aW (bZ m g) g.c.ins≠0 then aW (bZ m g) g.c.ins
 else dS (match g.c.ins.getLast? with
  |some i=>decide (16<=i.op)
  |none=>od) 15
def iR (m:Mo):iv:=(m.ss.any λs=>decide (¬(s.fs.map Fd.nm).Nodup))||decide (¬(m.ss.map λs=>s.s.nm).Nodup)||decide (¬(m.fs.map λf=>f.c.nm).Nodup)
def dO (m:Mo):bh Ty:=(m.ss.flatMap λs=>s.fs.map Fd.ty)++(m.fs.flatMap λf=>f.ret::f.vs.map Vr.ty)
def eu:ap:=⟨#[109,97,105,110]⟩
def iT (m:Mo):ct:=
 if 30<m.ss.length\/60<m.fs.length then 2
 else if iR m=oc then 6
 else if (dO m).all m.known=od then 5
 else if aW (codeF m) m.fs≠0 then aW (codeF m) m.fs
 else dS (decide (0<=m.fnIx eu)&&(match m.fs[(m.fnIx eu).toNat]? with
  |some g=>decide (g.c.par=0)&& !g.c.rp
  |none=>od)) 9
theorem av (b:iv)(f:ct)(w:World):zS 99 #[oy b,Z U f] w (Z U (dS b f)):=by
 cases b with
 |true=>
  go_enter func99,ntmps99;go_wp2;go_ret;exact⟨rfl,rfl⟩
 |false=>
  go_enter func99,ntmps99;go_wp2;go_ret;exact⟨rfl,rfl⟩
def jg (m:Mo)(g:Fn):cC bo:=#[ot m.sA m.ss.length m.sC,ot m.fA m.fs.length m.fC,oe g.c.nm,Z U g.c.par,ot g.c.varsA g.c.nvars g.c.varsC,oy g.c.rp,oe g.c.rto,Z U g.c.rcl,ot g.c.fromA g.c.nfrom g.c.fromC,ot g.c.insA g.c.ins.length g.c.insC]
def yI (t:Ty):bo:= oA #[oy t.1,oe t.2]
theorem gT:∀(b:iv)(s:ap)(w:World),(jp 32 (oA #[oy b,oe s]) 0).run ac w= .ok (oy b) w:=λb s w=>by kernel_rfl
theorem jf {n:bw}{v:ct}:isVar n v=oc↔0<=v/\v<(n:ct):=by simp[isVar]
theorem yJ {w:World}{A:dr Addr}{a:bh Vr}(j:aC Vr.cells 3 w w.heap.size A a){v:ct}(o:isVar a.length v=oc):
  ∃(k b d:bw) (x:Vr),v=(k:ct)/\k<a.length/\A=oa ⟨b,d,ob⟩/\b<w.heap.size/\aA a v=(x.ptr,x.tgt)/\w.cell? ⟨b,d+k*3,ob⟩=oa (oy x.ptr)/\w.cell? ⟨b,d+k*3+1,ob⟩=oa (oe x.tgt):=by
 obtain⟨h0,u⟩:=jf.1 o;obtain⟨k,rfl⟩:∃k:bw,v=(k:ct):=⟨v.toNat,by omega⟩
 have f:k<a.length:=by omega
 obtain⟨x,g⟩:∃x,a[k]?=oa x:=⟨_,ce f⟩
 obtain⟨b,d,q,hb,h⟩:=j (by intro e;rw[e] at f;simp at f);refine⟨k,b,d,x,rfl,f,q,hb, ?_,h k x g 0 _ rfl,h k x g 1 _ rfl⟩;unfold aA;rw[eN,g];rfl
theorem dU (m:Mo)(g:Fn)(v:ct)(w:World)(a:aC Vr.cells 3 w w.heap.size g.c.varsA g.vs)(d:g.c.nvars=g.vs.length)(_:g.vs.length<=cX)(f:isVar g.vs.length v=oc):
  zP 188 #[oA (jg m g),Z U v] w (yI (aA g.vs v)):=by
 obtain⟨k,b,o,x,rfl,q,h,hb,j,u,y⟩:=yJ a f;have A:(k:ct)<(g.vs.length:ct):=by omega
 rw[j];unfold yI jg;rw[h,d];clear a f j h d;go_enter func188,ntmps188;go_wp2
 go_returns
 exact⟨rfl,((an _ _).alloc (bl _) _).alloc (by simp) _⟩
theorem dV (m:Mo)(g:Fn)(v:ct)(w:World):zP 186 #[oA (jg m g),Z U v] w (oy (isVar g.c.ins.length v)):=by
 unfold jg
 by_cases h:0<=v
 ·have a:cr (decide (v<(g.c.ins.length:ct))=isVar g.c.ins.length v):=by
   unfold cr isVar;rw[kh h];rfl
  go_enter func186,ntmps186;go_wp2;go_ret;rw[<-a.out];exact⟨rfl,(an _ _).alloc (bl _) _⟩
 ·have a:cr (od=isVar g.c.ins.length v):=by
   unfold cr isVar;rw[er h];rfl
  go_enter func186,ntmps186;go_wp2;go_ret;rw[<-a.out];exact⟨rfl,(an _ _).alloc (bl _) _⟩
theorem rM (m:Mo)(g:Fn)(B:bw)(v:ct)(w:World)(b:w.heap[B]?=oa (oB (jg m g) 184 (0,0)))(d:g.c.nvars=g.vs.length):
  zS 224 #[Z U v,ox (oa ⟨B,0,ob⟩)] w (oy (!isVar g.vs.length v)):=by
 have q:w.cell? ⟨B,4,ob⟩=oa (ot g.c.varsA g.vs.length g.c.varsC):=by rw[ci _ _ _ _ _ _ b,<-d];rfl
 clear b d
 by_cases h:v<0
 ·have a:cr (oc= !isVar g.vs.length v):=by
   unfold cr isVar;rw[er (by omega)];rfl
  go_enter func224,ntmps224;go_wp2;go_ret;rw[<-a.out];exact⟨rfl,rfl⟩
 ·have a:cr (decide ((g.vs.length:ct)<=v)= !isVar g.vs.length v):=by
   unfold cr isVar;rw[Bool.eq_iff_iff];simp;omega
  go_enter func224,ntmps224;go_wp2;go_ret;rw[<-a.out];exact⟨rfl,rfl⟩
theorem ny (m:Mo)(g:Fn)(B:bw)(v:ct)(w:World)(a:w.heap[B]?=oa (oB (jg m g) 184 (0,0)))(b:aC Vr.cells 3 w w.heap.size g.c.varsA g.vs)(d:g.c.nvars=g.vs.length)(f:g.vs.length<=cX)(h:isVar g.vs.length v=oc):
  zP 225 #[Z U v,ox (oa ⟨B,0,ob⟩)] w (oy (aA g.vs v).1):=by
 have j:=zH (dU m g v w b d f h);unfold yI at j;have o:=zH a;have u:=gT;have y:=(aw.1 a).1;clear a b h d f;go_enter func225,ntmps225
 go_wp2_with (first
  |(refine cc rfl 184 _ rfl B rfl 184 (jg m g) (0,0) _ o.out cj rfl (by kernel_rfl) ?_)
  |(go_at_call 188;refine j.out.mono ?_;rintro e w2 ⟨rfl,hb⟩;have q:=zH hb;clear hb))
 go_ret;exact⟨rfl,q.out⟩
theorem jY {α:Type}{p:α->iv}{xs:bh α}{j:bw}{y:α}(b:∀z∈xs.take j,p z=od)(d:xs[j]?=oa y)(f:p y=oc):fB p xs=(j:ct):=by
 obtain⟨a,e⟩:=ca.1 d;have h:xs.findIdx p=j:=(List.findIdx_eq a).2 ⟨by rw[e];exact f,λi g=>by
  have:=b xs[i] (by rw[List.mem_take_iff_getElem];exact⟨i,by omega,rfl⟩);simpa using this⟩
 unfold fB;rw[h,cQ a]
theorem gU {α:Type}{p:α->iv}{xs:bh α}(a:∀z∈xs,p z=od):fB p xs= -1:=by
 have h:xs.findIdx p=xs.length:=List.findIdx_eq_length.2 (by simpa using a);unfold fB;rw[h,cy (by omega)]
theorem nz {α:Type}{p:α->iv}{xs:bh α}:decide (0<=fB p xs)=xs.any p:=by
 unfold fB
 by_cases h:xs.findIdx p<xs.length
 ·rw[cQ h,kh (by omega)]
  obtain⟨x,a,b⟩:=List.findIdx_lt_length.1 h;exact(ie.2 ⟨x,a,b⟩).symm
 ·rw[cy h]
  have d:=(List.findIdx_eq_length (p:=p) (xs:=xs)).1 (by have:=List.findIdx_le_length (p:=p) (xs:=xs);omega);symm;rw[er (by omega),j9];intro x a;have:=d x a;simpa using this
theorem fD {α:Type}{p:α->iv}{xs:bh α}{j:bw}{y:α}(a:∀z∈xs.take j,p z=od)(b:xs[j]?=oa y)(d:p y=od):∀z∈xs.take (j+1),p z=od:=jM (p:=λz=>p z=od) a b d
theorem pK (w:World)(A:dr Addr)(xs:bh ct)(c B:bw)(p:ct->iv)(N:xs.length<=cX)(h:aV w A xs)
  (hf:∀W,bj w.heap.size w W->∀z∈xs,zP 224 #[Z U z,ox (oa ⟨B,0,ob⟩)] W (oy (p z))):
  zP 152 #[ot A xs.length c,.func (.func 224) #[] #[ox (oa ⟨B,0,ob⟩)]] w (Z U (fB p xs)):=by
 have H:=zH h;have R:=zH hf;unfold cX at N;clear h hf;go_enter func152,ntmps152
 go_wp2_with fail
 go_loopw [8] (λk wr=>∃j:bw,j<=xs.length/\k= Z U (j:ct)/\(∀z∈xs.take j,p z=od)/\bj w.heap.size w wr) (λk _=>xs.length-(intOf k).toNat)
 case atStart=>exact⟨0,da _,rfl,by simp,an _ _⟩
 case round=>
  obtain⟨j,hj,rfl,b,hb⟩:=hrel
  by_cases o:j<xs.length
  ·obtain⟨y,g⟩:∃y,xs[j]?=oa y:=⟨_,ce o⟩
   obtain⟨Y,oR,rfl,oT,D⟩:=H.out.below hb (by intro e;rw[e] at o;simp at o);have d1:wr.cell? ⟨Y,oR+j,ob⟩=oa (Z U y):=D j y g;have oX:(j:ct)<(xs.length:ct):=by omega
   have q:=zH (R.out wr hb y (cA g));obtain⟨d,u⟩:=zE (p y);rw[u] at q;have a:=zH hb;have G:=zH b;have J:=zH g;have K:=zH u;clear hb b g u D;cases d with
   |true=>
    go_wp2_with (go_at_call 224;refine q.out.mono ?_;rintro e w2 ⟨rfl,f⟩;have v:=zH f;clear f)
    go_ret;exact⟨by rw[jY G.out J.out K.out];rfl,a.out.trans (v.out.mono a.out.size)⟩
   |false=>
    go_wp2_with (go_at_call 224;refine q.out.mono ?_;rintro e w2 ⟨rfl,f⟩;have v:=zH f;clear f)
    go_roundw
    case rel=>exact⟨j+1,by omega,by go_num,fD G.out J.out K.out,a.out.trans (v.out.mono a.out.size)⟩
    case measure=>simp[intOf];omega
  ·have oS:j=xs.length:=by omega
   subst oS;rw[dl] at b;have HM:=zH (gU b);have a:=zH hb;clear b hb;go_wp2;go_ret;exact⟨by rw[HM.out];rfl,a.out⟩
theorem rO (w:World)(A:dr Addr)(xs:bh ct)(c B:bw)(p:ct->iv)(N:xs.length<=cX)(h:aV w A xs)
  (hf:∀W,bj w.heap.size w W->∀z∈xs,zP 225 #[Z U z,ox (oa ⟨B,0,ob⟩)] W (oy (p z))):
  zP 152 #[ot A xs.length c,.func (.func 225) #[] #[ox (oa ⟨B,0,ob⟩)]] w (Z U (fB p xs)):=by
 have H:=zH h;have R:=zH hf;unfold cX at N;clear h hf;go_enter func152,ntmps152
 go_wp2_with fail
 go_loopw [8] (λk wr=>∃j:bw,j<=xs.length/\k= Z U (j:ct)/\(∀z∈xs.take j,p z=od)/\bj w.heap.size w wr) (λk _=>xs.length-(intOf k).toNat)
 case atStart=>exact⟨0,da _,rfl,by simp,an _ _⟩
 case round=>
  obtain⟨j,hj,rfl,b,hb⟩:=hrel
  by_cases o:j<xs.length
  ·obtain⟨y,g⟩:∃y,xs[j]?=oa y:=⟨_,ce o⟩
   obtain⟨Y,oR,rfl,oT,D⟩:=H.out.below hb (by intro e;rw[e] at o;simp at o);have d1:wr.cell? ⟨Y,oR+j,ob⟩=oa (Z U y):=D j y g;have oX:(j:ct)<(xs.length:ct):=by omega
   have q:=zH (R.out wr hb y (cA g));obtain⟨d,u⟩:=zE (p y);rw[u] at q;have a:=zH hb;have G:=zH b;have J:=zH g;have K:=zH u;clear hb b g u D;cases d with
   |true=>
    go_wp2_with (go_at_call 225;refine q.out.mono ?_;rintro e w2 ⟨rfl,f⟩;have v:=zH f;clear f)
    go_ret;exact⟨by rw[jY G.out J.out K.out];rfl,a.out.trans (v.out.mono a.out.size)⟩
   |false=>
    go_wp2_with (go_at_call 225;refine q.out.mono ?_;rintro e w2 ⟨rfl,f⟩;have v:=zH f;clear f)
    go_roundw
    case rel=>exact⟨j+1,by omega,by go_num,fD G.out J.out K.out,a.out.trans (v.out.mono a.out.size)⟩
    case measure=>simp[intOf];omega
  ·have oS:j=xs.length:=by omega
   subst oS;rw[dl] at b;have HM:=zH (gU b);have a:=zH hb;clear b hb;go_wp2;go_ret;exact⟨by rw[HM.out];rfl,a.out⟩
theorem tL (xs:bh ct)(p:ct->iv):(!(xs.any p))=xs.all λv=> !p v:=by
 induction xs with
 |nil=>rfl
 |cons x r ih=>simp[Bool.not_or,ih]
theorem tN {xs:bh ct}{p:ct->iv}:(xs.any λv=> !p v)= !xs.all p:=by
 induction xs with
 |nil=>rfl
 |cons x r ih=>simp[ih,Bool.not_and]
theorem lM (m:Mo)(g:Fn)(f:dr Addr)(xs:bh ct)(c:bw)(w:World)(y:g.c.nvars=g.vs.length)(hl:xs.length<=cX)(h:aV w f xs):
  zP 184 #[oA (jg m g),ot f xs.length c] w (oy (gB g.vs.length xs)):=by
 obtain⟨N,j⟩:=zE w.heap.size;have o:cr (zP 116 #[ot f xs.length c,.func (.func 224) #[] #[ox (oa ⟨N,0,ob⟩)]] (w.alloc (oB (jg m g) 184)) (oy (!gB g.vs.length xs))):=by
  have q:=zH (pK (w.alloc (oB (jg m g) 184)) f xs c N (λv=> !isVar g.vs.length v) hl (h.below ((an _ _).alloc (bl _) _)) (λW hW z _=>by
   have hB:W.heap[N]?=oa (oB (jg m g) 184 (0,0)):=by
    rw[hW.block N (by simp[j]),<-j];exact alloc_at _ _
   refine(rM m g N z W hB y).mono ?_;rintro e w' ⟨rfl,rfl⟩;exact⟨rfl,an _ _⟩))
  have A:cr (decide (0<=fB (λv=> !isVar g.vs.length v) xs)= !gB g.vs.length xs):=by
   unfold cr gB;rw[nz,tN]
  obtain⟨D,a⟩:=zE (w.alloc (oB (jg m g) 184));rw[a] at q⊢;obtain⟨z,G⟩:=zE (fB (λv=> !isVar g.vs.length v) xs);rw[G] at q A;clear a h G;go_enter func116,ntmps116
  go_wp2_with (go_at_call 152;refine q.out.mono ?_;rintro e w2 ⟨rfl,b⟩;have u:=zH b;clear b)
  go_ret;rw[<-A.out];exact⟨rfl,u.out⟩
 clear h y;obtain⟨D,a⟩:=zE (w.alloc (oB (jg m g) 184));have oR:=zH a;have K:cr (bj N w D):=by rw[<-a,<-j];exact(an _ _).alloc (bl _) _
 rw[a] at o;obtain⟨J,R⟩:=zE (jg m g);rw[R] at a⊢;clear R oR;obtain⟨d,Y⟩:=zE (gB g.vs.length xs);rw[Y] at o⊢;clear Y;go_enter func184,ntmps184
 go_wp2_with (go_at_call 116;refine o.out.mono ?_;rintro e w2 ⟨rfl,b⟩;have u:=zH b;clear b)
 go_ret;exact⟨by cases d<;>rfl,by rw[j];exact K.out.trans (u.out.mono (by have:=K.out.size;omega))⟩
theorem bE (m:Mo)(g:Fn)(o:dr Addr)(xs:bh ct)(c:bw)(w:World)(y:aC Vr.cells 3 w w.heap.size g.c.varsA g.vs)(Y:g.c.nvars=g.vs.length)(oS:g.vs.length<=cX)(hl:xs.length<=cX)(h:aV w o xs)(A:∀z∈xs,isVar g.vs.length z=oc):
  zP 187 #[oA (jg m g),ot o xs.length c] w (Z U (dN g.vs xs)):=by
 obtain⟨N,q⟩:=zE w.heap.size;have D:cr (zP 116 #[ot o xs.length c,.func (.func 225) #[] #[ox (oa ⟨N,0,ob⟩)]] (w.alloc (oB (jg m g) 184)) (oy (xs.any λv=>(aA g.vs v).1))):=by
  have G:bj w.heap.size w (w.alloc (oB (jg m g) 184)):=(an _ _).alloc (bl _) _;have K:=zH (rO (w.alloc (oB (jg m g) 184)) o xs c N (λv=>(aA g.vs v).1) hl (h.below G) (λW hW z u=>by
   have hB:W.heap[N]?=oa (oB (jg m g) 184 (0,0)):=by
    rw[hW.block N (by simp[q]),<-q];exact alloc_at _ _
   exact ny m g N z W hB ((y.grow G).grow hW) Y oS (A z u)))
  have a:cr (decide (0<=fB (λv=>(aA g.vs v).1) xs)=(xs.any λv=>(aA g.vs v).1)):=nz;obtain⟨W1,b⟩:=zE (w.alloc (oB (jg m g) 184));rw[b] at K⊢;obtain⟨z,u⟩:=zE (fB (λv=>(aA g.vs v).1) xs);rw[u] at K a;obtain⟨d,f⟩:=zE (xs.any λv=>(aA g.vs v).1);rw[f] at a⊢;clear b h u G f y A;go_enter func116,ntmps116
  go_wp2_with (go_at_call 152;refine K.out.mono ?_;rintro e w2 ⟨rfl,j⟩;have R:=zH j;clear j)
  go_ret;rw[<-a.out];exact⟨rfl,R.out⟩
 clear h Y y A;have a:cr (dS (!(xs.any λv=>(aA g.vs v).1)) 7=dN g.vs xs):=by
  unfold cr dN;congr 1;exact tL xs _
 obtain⟨W1,b⟩:=zE (w.alloc (oB (jg m g) 184));have oR:cr (bj N w W1):=by rw[<-b,<-q];exact(an _ _).alloc (bl _) _
 rw[b] at D;obtain⟨J,hJ⟩:=zE (jg m g);rw[hJ] at b⊢;clear hJ;obtain⟨d,f⟩:=zE (xs.any λv=>(aA g.vs v).1);rw[f] at D a;clear f;go_enter func187,ntmps187
 go_wp2_with (first
  |(go_at_call 116;refine D.out.mono ?_;rintro e w2 ⟨rfl,j⟩;have R:=zH j;clear j)
  |(go_at_call 99;refine(av _ _ _).mono ?_;rintro e w3 ⟨rfl,rfl⟩))
 go_ret;exact⟨by rw[<-a.out];cases d<;>rfl,by rw[q];exact oR.out.trans (R.out.mono (by have:=oR.out.size;omega))⟩
def aF (w:World)(b:dr Addr)(xs:bh ap):Prop:=
 xs≠[]->∃g a,b=oa ⟨g,a,ob⟩/\g<w.heap.size/\∀i z,xs[i]?=oa z->w.cell? ⟨g,a+i,ob⟩=oa (oe z)
theorem aF.below {w w':World}{a:dr Addr}{xs:bh ap}(h:aF w a xs)(hb:bj w.heap.size w w'):aF w' a xs:=by
 intro d;obtain⟨g,f,e,b,j⟩:=h d;exact⟨g,f,e,cg b hb.size,λi z o=>by rw[hb.cell (p:=⟨g,_,ob⟩) b];exact j i z o⟩
theorem nA (w:World)(c:bw)(o:dr Addr)(xs:bh ap)(z:ap)(D:xs.length<=cX)(h:aF w o xs):
  zS 270 #[ot o xs.length c,oe z] w (Z U (fB (λx=>z==x) xs)):=by
 have H:=zH h;unfold cX at D;clear h;go_enter func270,ntmps270
 go_wp2_with fail
 go_loop [8] (λk=>∃j:bw,j<=xs.length/\k= Z U (j:ct)/\∀x∈xs.take j,(z==x)=od) (λk=>xs.length-(intOf k).toNat)
 case atStart=>exact⟨0,da _,rfl,by simp⟩
 case round=>
  obtain⟨j,N,rfl,a⟩:=hrel
  by_cases b:j<xs.length
  ·obtain⟨y,f⟩:∃y,xs[j]?=oa y:=⟨_,ce b⟩
   obtain⟨G,J,rfl,R,q⟩:=H.out (by intro e;rw[e] at b;simp at b);have d1:w.cell? ⟨G,J+j,ob⟩=oa (oe y):=q j y f;have Y:(j:ct)<(xs.length:ct):=by omega
   obtain⟨d,g⟩:=zE (z==y);have hd:(z.toList==y.toList)=d:=by rw[<-fR];exact g
   have u:=zH a;have v:=zH f;have A:=zH g;clear f q a g;cases d with
   |true=>
    go_wp2;go_ret;exact⟨by rw[jY u.out v.out A.out];rfl,rfl⟩
   |false=>
    go_wp2
    go_round
    case rel=>exact⟨j+1,by omega,by go_num,fD (p:=λx=>z==x) u.out v.out A.out⟩
    case measure=>simp[intOf];omega
  ·have K:j=xs.length:=by omega
   subst K;rw[dl] at a;have HM:=zH (gU (p:=λx=>z==x) a);clear a;go_wp2;go_ret;exact⟨by rw[HM.out];rfl,rfl⟩
theorem jZ (f:ct)(s:ap)(xs:bh ap)(b:dr Addr)(c:bw)(w:World)(u:xs.length<=cX)(h:aF w b xs):
  zS 226 #[Z U f,oe s,ot b xs.length c] w (Z U (fV f s xs)):=by
 by_cases hf:f=0
 ·subst hf
  have g:cr (zS 252 #[ot b xs.length c,oe s] w (oy (xs.any λx=>x==s))):=by
   have j:=zH (nA w c b xs s u h);have a:cr (decide (0<=fB (λx=>s==x) xs)=(xs.any λx=>x==s)):=by
    unfold cr;rw[nz];congr 1;funext x;exact BEq.comm
   obtain⟨z,o⟩:=zE (fB (λx=>s==x) xs);rw[o] at j a;clear h o;go_enter func252,ntmps252
   go_wp2_with (go_at_call 270;refine j.out.mono ?_;rintro e w2 ⟨rfl,rfl⟩)
   go_ret;rw[<-a.out];exact⟨rfl,rfl⟩
  have a:cr (dS (xs.any λx=>x==s) 3=fV 0 s xs):=rfl;obtain⟨d,q⟩:=zE (xs.any λx=>x==s);rw[q] at g a;clear h q;go_enter func226,ntmps226
  go_wp2_with (first
   |(go_at_call 252;refine g.out.mono ?_;rintro e w2 ⟨rfl,rfl⟩)
   |(go_at_call 99;refine(av _ _ _).mono ?_;rintro e v ⟨rfl,rfl⟩))
  go_ret;exact⟨by rw[<-a.out];rfl,rfl⟩
 ·have a:cr (fV f s xs=f):=cQ hf
  have hb:(f==0)=od:=by rw[cL];exact hf
  clear hf h;go_enter func226,ntmps226;go_wp2;go_ret;exact⟨by rw[a.out];rfl,rfl⟩
theorem tO (f:Fn)(B:bw)(nm:ap)(w:World)(a:w.heap[B]?=oa (oB #[oe nm] 9 (0,0))):
  zP 138 #[oA f.cells,ox (oa ⟨B,0,ob⟩)] w (oy (f.c.nm==nm)):=by
 have q:=zR a 0 (oe nm);have d:=(aw.1 a).1;have b:cr ((f.c.nm.toList==nm.toList)=(f.c.nm==nm)):=(fR _ _).symm;simp only[Fn.cells,ww.cells];clear a;go_enter func138,ntmps138;go_wp2;go_ret;rw[<-b.out];exact⟨rfl,(an _ _).alloc (bl _) _⟩
theorem vE (w:World)(R:dr Addr)(xs:bh Fn)(c B:bw)(nm:ap)(hn:xs.length<=cX)(h:aC Fn.cells 8 w w.heap.size R xs)(A:w.heap[B]?=oa (oB #[oe nm] 9 (0,0))):
  zP 137 #[ot R xs.length c,.func (.func 138) #[] #[ox (oa ⟨B,0,ob⟩)]] w (Z U (fB (λf=>f.c.nm==nm) xs)):=by
 have H:=zH h;have oR:=zH A;unfold cX at hn;have oS:=(aw.1 A).1;clear h A;go_enter func137,ntmps137
 go_wp2_with fail
 go_loopw [8] (λk wr=>∃j:bw,j<=xs.length/\k= Z U (j:ct)/\(∀f∈xs.take j,(f.c.nm==nm)=od)/\bj w.heap.size w wr) (λk _=>xs.length-(intOf k).toNat)
 case atStart=>exact⟨0,da _,rfl,by simp,an _ _⟩
 case round=>
  obtain⟨j,hj,rfl,b,hb⟩:=hrel
  by_cases D:j<xs.length
  ·obtain⟨f,o⟩:∃y,xs[j]?=oa y:=⟨_,ce D⟩
   obtain⟨q,v,rfl,oX,G⟩:=(H.out.grow hb) (by intro e;rw[e] at D;simp at D)
   have Y:cr (∀k u,f.cells.toList[k]?=oa u->wr.cell? ((⟨q,v+j*8,ob⟩:Addr).add k)=oa u):=λk u hu=>by rw[cI];exact G j f o k u hu
   have d0:wr.cell? ⟨q,v+j*8,ob⟩=oa (oe f.c.nm):=G j f o 0 _ rfl;have oY:(j:ct)<(xs.length:ct):=by omega
   have J:=zH (tO f B nm wr ((hb.block B oS).trans oR.out));obtain⟨d,K⟩:=zE (f.c.nm==nm);rw[K] at J;have a:=zH hb;have HZ:=zH b;have HY:=zH o;have HD:=zH K;clear hb b o K G;cases d with
   |true=>
    go_wp2_with (first
     |(refine az rfl 38 _ rfl ⟨q,v+j*8,ob⟩ rfl f.cells _ Y.out eW rfl (by kernel_rfl) ?_)
     |(go_at_call 138;refine J.out.mono ?_;rintro e w2 ⟨rfl,g⟩;have N:=zH g;clear g))
    go_ret;exact⟨by rw[jY (p:=λf:Fn=>f.c.nm==nm) HZ.out HY.out HD.out];rfl,a.out.trans (N.out.mono a.out.size)⟩
   |false=>
    go_wp2_with (first
     |(refine az rfl 38 _ rfl ⟨q,v+j*8,ob⟩ rfl f.cells _ Y.out eW rfl (by kernel_rfl) ?_)
     |(go_at_call 138;refine J.out.mono ?_;rintro e w2 ⟨rfl,g⟩;have N:=zH g;clear g))
    go_roundw
    case rel=>exact⟨j+1,by omega,by go_num,fD (p:=λf:Fn=>f.c.nm==nm) HZ.out HY.out HD.out,a.out.trans (N.out.mono a.out.size)⟩
    case measure=>simp[intOf];omega
  ·have oT:j=xs.length:=by omega
   subst oT;rw[dl] at b;have HM:=zH (gU (p:=λf:Fn=>f.c.nm==nm) b);have a:=zH hb;clear b hb;go_wp2;go_ret;exact⟨by rw[HM.out];rfl,a.out⟩
theorem tQ (m:Mo)(a:ap)(w:World)(f:m.fs.length<=cX)(h:aC Fn.cells 8 w w.heap.size m.fA m.fs):
  zP 98 #[oA m.cells,oe a] w (Z U (m.fnIx a)):=by
 obtain⟨N,b⟩:=zE w.heap.size;have d:cr (et ac 137 #[ot m.fA m.fs.length m.fC,.func (.func 138) #[] #[ox (oa ⟨N+1,0,ob⟩)]] ((w.alloc (oB m.cells 25)).alloc (oB #[oe a] 9)) λe w'=>e= oE (Z U (m.fnIx a))/\bj N w w'):=by
  have hb:bj w.heap.size w ((w.alloc (oB m.cells 25)).alloc (oB #[oe a] 9)):=((an _ _).alloc (bl _) _).alloc (by simp) _;refine(vE _ m.fA m.fs m.fC (N+1) a f (h.grow hb) (by subst b;exact gx _ _ _)).mono ?_;rintro e w' ⟨rfl,o⟩;exact⟨rfl,by rw[<-b];exact hb.trans (o.mono hb.size)⟩
 simp only[Mo.cells] at d⊢;clear h f;obtain⟨z,g⟩:=zE (m.fnIx a);rw[g] at d⊢;clear g;go_enter func98,ntmps98
 go_wp2_with (go_at_call 137;(first|refine d.out.mono ?_|(rw[b];refine d.out.mono ?_));rintro e w2 ⟨rfl,j⟩;have q:=zH j;clear j)
 go_ret;exact⟨rfl,by rw[b];exact q.out⟩
theorem pM (f:St)(B:bw)(nm:ap)(w:World)(a:w.heap[B]?=oa (oB #[oe nm] 9 (0,0))):
  zP 182 #[oA f.cells,ox (oa ⟨B,0,ob⟩)] w (oy (f.s.nm==nm)):=by
 have q:=zR a 0 (oe nm);have d:=(aw.1 a).1;have b:cr ((f.s.nm.toList==nm.toList)=(f.s.nm==nm)):=(fR _ _).symm;simp only[St.cells,Be.cells];clear a;go_enter func182,ntmps182;go_wp2;go_ret;rw[<-b.out];exact⟨rfl,(an _ _).alloc (bl _) _⟩
theorem vF (w:World)(R:dr Addr)(xs:bh St)(c B:bw)(nm:ap)(hn:xs.length<=cX)(h:aC St.cells 4 w w.heap.size R xs)(A:w.heap[B]?=oa (oB #[oe nm] 9 (0,0))):
  zP 181 #[ot R xs.length c,.func (.func 182) #[] #[ox (oa ⟨B,0,ob⟩)]] w (Z U (fB (λf=>f.s.nm==nm) xs)):=by
 have H:=zH h;have oR:=zH A;unfold cX at hn;have oS:=(aw.1 A).1;clear h A;go_enter func181,ntmps181
 go_wp2_with fail
 go_loopw [8] (λk wr=>∃j:bw,j<=xs.length/\k= Z U (j:ct)/\(∀f∈xs.take j,(f.s.nm==nm)=od)/\bj w.heap.size w wr) (λk _=>xs.length-(intOf k).toNat)
 case atStart=>exact⟨0,da _,rfl,by simp,an _ _⟩
 case round=>
  obtain⟨j,hj,rfl,b,hb⟩:=hrel
  by_cases D:j<xs.length
  ·obtain⟨f,o⟩:∃y,xs[j]?=oa y:=⟨_,ce D⟩
   obtain⟨q,v,rfl,oX,G⟩:=(H.out.grow hb) (by intro e;rw[e] at D;simp at D)
   have Y:cr (∀k u,f.cells.toList[k]?=oa u->wr.cell? ((⟨q,v+j*4,ob⟩:Addr).add k)=oa u):=λk u hu=>by rw[cI];exact G j f o k u hu
   have d0:wr.cell? ⟨q,v+j*4,ob⟩=oa (oe f.s.nm):=G j f o 0 _ rfl;have oY:(j:ct)<(xs.length:ct):=by omega
   have J:=zH (pM f B nm wr ((hb.block B oS).trans oR.out));obtain⟨d,K⟩:=zE (f.s.nm==nm);rw[K] at J;have a:=zH hb;have HZ:=zH b;have HY:=zH o;have HD:=zH K;clear hb b o K G;cases d with
   |true=>
    go_wp2_with (first
     |(refine az rfl 90 _ rfl ⟨q,v+j*4,ob⟩ rfl f.cells _ Y.out kB rfl (by kernel_rfl) ?_)
     |(go_at_call 182;refine J.out.mono ?_;rintro e w2 ⟨rfl,g⟩;have N:=zH g;clear g))
    go_ret;exact⟨by rw[jY (p:=λf:St=>f.s.nm==nm) HZ.out HY.out HD.out];rfl,a.out.trans (N.out.mono a.out.size)⟩
   |false=>
    go_wp2_with (first
     |(refine az rfl 90 _ rfl ⟨q,v+j*4,ob⟩ rfl f.cells _ Y.out kB rfl (by kernel_rfl) ?_)
     |(go_at_call 182;refine J.out.mono ?_;rintro e w2 ⟨rfl,g⟩;have N:=zH g;clear g))
    go_roundw
    case rel=>exact⟨j+1,by omega,by go_num,fD (p:=λf:St=>f.s.nm==nm) HZ.out HY.out HD.out,a.out.trans (N.out.mono a.out.size)⟩
    case measure=>simp[intOf];omega
  ·have oT:j=xs.length:=by omega
   subst oT;rw[dl] at b;have HM:=zH (gU (p:=λf:St=>f.s.nm==nm) b);have a:=zH hb;clear b hb;go_wp2;go_ret;exact⟨by rw[HM.out];rfl,a.out⟩
theorem jv (m:Mo)(a:ap)(w:World)(f:m.ss.length<=cX)(h:aC St.cells 4 w w.heap.size m.sA m.ss):
  zP 135 #[oA m.cells,oe a] w (Z U (m.stIx a)):=by
 obtain⟨N,b⟩:=zE w.heap.size;have d:cr (et ac 181 #[ot m.sA m.ss.length m.sC,.func (.func 182) #[] #[ox (oa ⟨N+1,0,ob⟩)]] ((w.alloc (oB m.cells 25)).alloc (oB #[oe a] 9)) λe w'=>e= oE (Z U (m.stIx a))/\bj N w w'):=by
  have hb:bj w.heap.size w ((w.alloc (oB m.cells 25)).alloc (oB #[oe a] 9)):=((an _ _).alloc (bl _) _).alloc (by simp) _;refine(vF _ m.sA m.ss m.sC (N+1) a f (h.grow hb) (by subst b;exact gx _ _ _)).mono ?_;rintro e w' ⟨rfl,o⟩;exact⟨rfl,by rw[<-b];exact hb.trans (o.mono hb.size)⟩
 simp only[Mo.cells] at d⊢;clear h f;obtain⟨z,g⟩:=zE (m.stIx a);rw[g] at d⊢;clear g;go_enter func135,ntmps135
 go_wp2_with (go_at_call 181;(first|refine d.out.mono ?_|(rw[b];refine d.out.mono ?_));rintro e w2 ⟨rfl,j⟩;have q:=zH j;clear j)
 go_ret;exact⟨rfl,by rw[b];exact q.out⟩
structure yK (w:World)(m:Mo)(g:Fn):Prop where
 mo:m.inn w
 vars:aC Vr.cells 3 w w.heap.size g.c.varsA g.vs
 nv:g.c.nvars=g.vs.length
 vl:g.vs.length<=cX
theorem yK.below {w w':World}{m:Mo}{g:Fn}(h:yK w m g)(hb:bj w.heap.size w w'):yK w' m g:=⟨h.mo.below hb,h.vars.grow hb,h.nv,h.vl⟩
theorem yM {w:World}{m:Mo}{g:Fn}(h:m.inn w)(a:g.inn w):yK w m g:=⟨h,a.vars,a.nvars,by have:=a.code.nvars;rw[a.nvars] at this;exact this⟩
theorem nC {α:Type}(p:α->iv)(l:bh α):fB p l= -1\/∃(k:bw) (x:α),fB p l=(k:ct)/\l[k]?=oa x/\p x=oc:=by
 unfold fB
 by_cases h:l.findIdx p<l.length
 ·rw[cQ h]
  exact .inr ⟨_,l[l.findIdx p],rfl,ce h,List.findIdx_getElem⟩
 ·rw[cy h];exact .inl rfl
theorem yN {m:Mo}{t:Ty}(h:m.known t=oc)(a:t.1=oc):∃(k:bw) (s:St),m.stIx t.2=(k:ct)/\m.ss[k]?=oa s:=by
 unfold Mo.known at h;rw[cQ a] at h;have h0:=lO h;rcases nC (λs:St=>s.s.nm==t.2) m.ss with e|⟨k,s,e,b,_⟩
 ·unfold Mo.stIx at h0;omega
 ·exact⟨k,s,e,b⟩
theorem tT (m:Mo)(g:Fn)(b:iv)(s:ap)(w:World)(h:m.inn w):
  zP 96 #[oA (jg m g),oA #[oy b,oe s]] w (oy (m.known (b,s))):=by
 have a:cr (∀W,bj w.heap.size w W->zP 135 #[oA m.cells,oe s] W (Z U (m.stIx s))):=
  λW j=>jv m s W h.ns (h.below j).srow
 clear h;simp only[Mo.cells] at a;unfold jg;cases b with
 |false=>
  have d:cr (s.toList.isEmpty=m.known (od,s)):=by
   unfold cr Mo.known;rw[cy (by simp)]
   show s.toList.isEmpty=(s==lk)
   rw[fR];have e:lk.toList=[]:=by rw[ld];rfl
   rw[e];cases s.toList<;>rfl
  clear a;go_enter func96,ntmps96;go_wp2;go_ret;rw[<-d.out];exact⟨rfl,((an _ _).alloc (bl _) _).alloc (by simp) _⟩
 |true=>
  have d:cr (decide (0<=m.stIx s)=m.known (oc,s)):=rfl;obtain⟨z,f⟩:=zE (m.stIx s);rw[f] at d a;clear f;go_enter func96,ntmps96
  go_wp2_with (go_at_call 135;refine(a.out _ (((an _ _).alloc (bl _) _).alloc (by simp) _)).mono ?_;rintro e w2 ⟨rfl,hb⟩;have o:=zH ((((an w.heap.size w).alloc (bl _) _).alloc (by simp) _).trans (hb.mono (by simp;omega)));clear hb)
  go_ret;rw[<-d.out];exact⟨rfl,o.out⟩
theorem bJ {fn:Func}{p u:Tmp}{a:eJ}(h:fn.results=#[.cell p a,.tmp u])(tmps:cC bo)(w:World)(g:bw)(t:eJ)(b:cC bo)(d:bw×bw)(f:cC Field)
  (j:tmps.getD p undef= ox (oa ⟨g,0,ob⟩))(o:w.heap[g]?=oa (oB b t d))
  (q:ac.underlying a=oa (.struct f))(v:(ac.info? a).map (·.size)=oa b.size):
  (mS fn tmps).run ac w= .ok (.tuple #[oA b,tmps.getD u undef]) w:=by
 rw[results_cell_tmp h,j];have e:=j8 w g t a b d _ o q rfl v;simp only[asAddr,Sem.run_pure,ly,e]
theorem j3 {W:World}{b:bw}{x y u v:bo}{t:eJ}(h:W.heap[b]?=oa (oB #[x,y] t (0,0))):((W.setCell ⟨b,0,ob⟩ u).setCell ⟨b,1,ob⟩ v).heap[b]?=oa (oB #[u,v] t (0,0)):=by
 have a:=aq W b 0 _ _ u h;have d:=aq _ b 1 _ _ v a;simpa using d
theorem tV (m:Mo)(g:Fn)(v f:ct)(w:World)(h:yK w m g)(hv:isVar g.vs.length v=oc)(hk:m.known (aA g.vs v)=oc):
  zP 253 #[oA (jg m g),Z U v,Z U f] w (.tuple #[yI (dB m g.vs v f).1,Z U (dB m g.vs v f).2]):=by
 have HT:cr (∀W,bj w.heap.size w W->zP 188 #[oA (jg m g),Z U v] W (yI (aA g.vs v))):=λW j=>dU m g v W (h.below j).vars h.nv h.vl hv;have HS:cr (∀W s,bj w.heap.size w W->zP 135 #[oA m.cells,oe s] W (Z U (m.stIx s))):=
  λW s j=>jv m s W h.mo.ns (h.mo.below j).srow
 simp only[Mo.cells] at HS;have G:cr (dB m g.vs v f=(if (aA g.vs v).1=od then(bG,7) else match m.ss[(m.stIx (aA g.vs v).2).toNat]? with
  |none=>(bG,15)
  |some s=>if f<0 then(bG,15) else match s.fs[f.toNat]? with
   |none=>(bG,15)
   |some x=>(x.ty,0):Ty×ct)):=rfl
 have HJ:=zH h;have HK:=zH hk;obtain⟨⟨b,s⟩,ht⟩:∃t,aA g.vs v=t:=⟨_,rfl⟩
 rw[ht] at G HT HK;obtain⟨F,hF⟩:=zE (dB m g.vs v f);rw[hF] at G⊢;unfold yI at HT;clear h hv hk ht hF;have hst:∀(w:World)(c:cC bo),c.size=2->(cM ⟨w.heap.size,0,ob⟩ [oy b,oe s] 0).run ac (w.alloc (oB c 32))= .ok () (w.alloc (oB #[oy b,oe s] 32)):=λw c hc=>
  cf (P:=ac) w 32 c #[oy b,oe s] (by show _=oa 2;kernel_rfl) hc (by simp[bp])
 obtain⟨N,J⟩:=zE w.heap.size;obtain⟨W1,R⟩:=zE ((w.alloc (oB (jg m g) 184)).alloc (oB #[oy od,oe ⟨#[]⟩] 32));have pb:=oL R J;have pp:W1.heap.size=N+2:=by rw[<-R];simp[J]
 have pw:=uG R J;have px:=wy R J;have py:=zH pb;have pi:=zH pw;have pB:=zH px;have u:=zH J;have Y:=zH pp;clear pb pw px pp;go_enter func253,ntmps253
 go_upto_region 2 with(first
  |(refine cc rfl 184 _ rfl N rfl 184 (jg m g) (0,0) _ pi.out cj rfl (by kernel_rfl) ?_)
  |(go_at_call 188;refine(HT.out _ (by rw[u.out];exact py.out)).mono ?_;rintro e w2 ⟨rfl,pD⟩;have pj:=zH pD;clear pD))
 obtain⟨T,hT⟩:=zE w2.heap.size;obtain⟨a,oR⟩:=zE (w2.alloc (oB #[oy b,oe s] 32));rw[hT,oR];have pc:=zD oR pj;have qs:N+2<=T:=by rw[<-hT,<-Y.out];exact pj.out.size
 have qt:a.heap.size=T+1:=by rw[<-oR,<-hT];simp
 have pH:a.heap[N]?=oa (oB (jg m g) 184 (0,0)):=(pc.block N (by have:=Y.out;omega)).trans pi.out;have pk:a.heap[N+1]?=oa (oB #[oy od,oe ⟨#[]⟩] 32 (0,0)):=(pc.block (N+1) (by have:=Y.out;omega)).trans pB.out;have pL:a.heap[T]?=oa (oB #[oy b,oe s] 32 (0,0)):=by rw[<-oR,<-hT];exact alloc_at _ _
 have pd:cr (bj N w a):=py.out.trans (pc.mono (by have:=Y.out;omega));have oS:cr (∀W,bj a.heap.size a W->W.cell? ⟨N,0,ob⟩=oa (ot m.sA m.ss.length m.sC)/\W.cell? ⟨N,1,ob⟩=oa (ot m.fA m.fs.length m.fC)/\W.cell? ⟨T,0,ob⟩=oa (oy b)/\W.cell? ⟨T,1,ob⟩=oa (oe s)/\
   W.cell? ⟨N+1,0,ob⟩=oa (oy od)/\W.cell? ⟨N+1,1,ob⟩=oa (oe ⟨#[]⟩)/\W.frozen? ⟨N+1,0,ob⟩=od/\W.frozen? ⟨N+1,1,ob⟩=od/\N+1<W.heap.size):=by
  intro W j;have q3:=(j.block N (by omega)).trans pH;have q4:=(j.block (N+1) (by omega)).trans pk;have q5:=(j.block T (by omega)).trans pL;refine⟨?_, ?_, ?_, ?_, ?_, ?_, ?_, ?_,(aw.1 q4).1⟩
  ·rw[ci _ _ _ _ _ _ q3];rfl
  ·rw[ci _ _ _ _ _ _ q3];rfl
  ·rw[ci _ _ _ _ _ _ q5];rfl
  ·rw[ci _ _ _ _ _ _ q5];rfl
  ·rw[ci _ _ _ _ _ _ q4];rfl
  ·rw[ci _ _ _ _ _ _ q4];rfl
  ·exact dt _ _ _ _ _ q4
  ·exact dt _ _ _ _ _ q4
 have pl:cr (∀W,bj a.heap.size a W->W.heap[N+1]?=oa (oB #[oy od,oe ⟨#[]⟩] 32 (0,0))):=λW j=>(j.block (N+1) (by omega)).trans pk;obtain⟨k0,k1,k2,k3,k4,k5,k6,k7,qu⟩:=oS.out a (an _ _);clear hst R oR pc pH pk pL pi pB HT hT pj J Y;cases b with
 |false=>
  have y:cr (F=(bG,7)):=by rw[G.out];rfl
  clear G;go_wp2;(try simp only[cD,Exit.then]);refine cP (bJ rfl _ _ (N+1) 32 _ (0,0) _ rfl (j3 (pl.out a (an _ _))) dg (by kernel_rfl)) rfl ?_;rw[y.out,u.out];exact⟨rfl,(pd.out.setCell (by show N<=N+1;omega) _).setCell (by show N<=N+1;omega) _⟩
 |true=>
  obtain⟨k,d,pm,o⟩:=yN HK.out rfl;obtain⟨K,pf,hA,qk,pN⟩:=HJ.out.mo.srow (by intro e;rw[e] at o;simp at o);have qv:=(ca.1 o).1;have qS:(k:ct)<(m.ss.length:ct):=by omega
  have qn:K<N:=by have:=u.out;omega
  have hD:∀W,bj a.heap.size a W->W.cell? ⟨K,pf+k*4+1,ob⟩=oa (ot d.s.fA d.fs.length d.s.fC):=λW j=>by
   rw[(pd.out.trans (j.mono (by omega))).cell (p:=⟨K,_,ob⟩) qn];have:=pN k d o 1 _ rfl;rw[(HJ.out.mo.sin d (cA o)).nf] at this;exact this
  have HD:=zH hD;have hd:=hD a (an _ _);have pP:cr (∀W,bj a.heap.size a W->zP 135 #[oA #[ot (oa ⟨K,pf,ob⟩) m.ss.length m.sC,ot m.fA m.fs.length m.fC],oe s] W (Z U (k:ct))):=by
   intro W j;have:=HS.out W s (by rw[u.out];exact pd.out.trans (j.mono (by omega)));rw[pm,hA] at this;exact this
  have A:cr (F=(if f<0 then(bG,15) else match d.fs[f.toNat]? with
   |none=>(bG,15)
   |some x=>(x.ty,0):Ty×ct)):=by
   unfold cr;rw[G.out,cy (by decide)]
   show(match m.ss[(m.stIx s).toNat]? with
    |none=>(bG,15)
    |some s=>if f<0 then(bG,15) else match s.fs[f.toNat]? with
     |none=>(bG,15)
     |some x=>(x.ty,0):Ty×ct)=_
   rw[pm,eN,o]
  have qq:cr (d.inn w):=HJ.out.mo.sin d (cA o);have qT:=zH o;rw[hA] at k0 oS;clear G HK pm o hA qk pN hD HJ HS;go_wp2
  go_region_held3 (λw'=>w'.cell? ⟨N,0,ob⟩=oa (ot (oa ⟨K,pf,ob⟩) m.ss.length m.sC)/\w'.cell? ⟨N,1,ob⟩=oa (ot m.fA m.fs.length m.fC)/\w'.cell? ⟨T,0,ob⟩=oa (oy oc)/\w'.cell? ⟨T,1,ob⟩=oa (oe s)/\w'.cell? ⟨K,pf+k*4+1,ob⟩=oa (ot d.s.fA d.fs.length d.s.fC)/\bj a.heap.size a w')
   (first|(exact hS)|(exact⟨k0,k1,k2,k3,hd,below_drewN (an _ _) 1⟩))
   (first
    |(go_at_call 135;refine(pP.out _ (by go_split_ands;assumption)).mono ?_;rintro e oT ⟨rfl,pS⟩;have D:=(below_drewN (an a.heap.size a) 1).trans pS;have hS:=(let h:=oS.out _ D;(⟨h.1,h.2.1,h.2.2.1,h.2.2.2.1,HD.out _ D,D⟩:_/\_/\_/\_/\_/\_))))
  obtain⟨_,_,_,_,j4,j5,j6,j7,ra⟩:=oS.out oT D;have pT:=pl.out oT D;have oX:cr (bj N w oT):=pd.out.trans (D.mono (by omega));have pn:=zH pT;clear hS D pS k0 k1 k2 k3 k4 k5 k6 k7 hd oS pl pP HD pT
  by_cases ph:f<0
  ·have y:cr (F=(bG,15)):=by unfold cr;rw[A.out,cQ ph]
   clear A;go_wp2;(try simp only[cD,Exit.then]);refine cP (bJ rfl _ _ (N+1) 32 _ (0,0) _ rfl (j3 pn.out) dg (by kernel_rfl)) rfl ?_;rw[y.out,u.out];exact⟨rfl,(oX.out.setCell (by show N<=N+1;omega) _).setCell (by show N<=N+1;omega) _⟩
  obtain⟨q,rfl⟩:∃q:bw,f=(q:ct):=⟨f.toNat,by omega⟩
  rw[cy ph,eN] at A
  by_cases oY:q<d.fs.length
  ·obtain⟨x,hx⟩:∃x,d.fs[q]?=oa x:=⟨_,ce oY⟩
   have y:cr (F=(x.ty,0)):=by unfold cr;rw[A.out,hx]
   obtain⟨b1,pZ,hA1,pb,po⟩:=qq.out.row (by intro e;rw[e] at oY;simp at oY);have qe:b1<N:=by have:=u.out;omega
   have e1:oT.cell? ⟨b1,pZ+q*5+1,ob⟩=oa (oy x.ptr):=by rw[oX.out.cell (p:=⟨b1,_,ob⟩) qe];exact po q x hx 1 _ rfl
   have e2:oT.cell? ⟨b1,pZ+q*5+2,ob⟩=oa (oe x.tgt):=by rw[oX.out.cell (p:=⟨b1,_,ob⟩) qe];exact po q x hx 2 _ rfl
   have qr:(q:ct)<(d.fs.length:ct):=by omega
   rw[hA1];clear A hx po pb hA1 ph oY;go_wp2;(try simp only[cD,Exit.then]);refine cP (bJ rfl _ _ (N+1) 32 _ (0,0) _ rfl (j3 pn.out) dg (by kernel_rfl)) rfl ?_;rw[y.out,u.out];exact⟨rfl,(oX.out.setCell (by show N<=N+1;omega) _).setCell (by show N<=N+1;omega) _⟩
  ·have y:cr (F=(bG,15)):=by unfold cr;rw[A.out,na (by omega)]
   have qr:¬(q:ct)<(d.fs.length:ct):=by omega
   clear A ph oY;go_wp2;(try simp only[cD,Exit.then]);refine cP (bJ rfl _ _ (N+1) 32 _ (0,0) _ rfl (j3 pn.out) dg (by kernel_rfl)) rfl ?_;rw[y.out,u.out];exact⟨rfl,(oX.out.setCell (by show N<=N+1;omega) _).setCell (by show N<=N+1;omega) _⟩
theorem il (a b:iv)(s t:ap)(w:World):(js 10000 32 (oA #[oy a,oe s]) (oA #[oy b,oe t])).run ac w= .ok (((a,s):Ty)==(b,t)) w:=by
 have d:ac.underlying 32=oa (.struct (ac.fieldsOf 32)):=by kernel_rfl
 have f:ac.stoodInHeld 32=od:=by kernel_rfl
 rw[show(10000:bw)=9999+1 from rfl,run_equalIn_agg w 9999 32 _ _ d f];simp only[Program.fieldsOf,dg];have e:(((a,s):Ty)==(b,t))=(a==b&&s.toList==t.toList):=by rw[<-fR];rfl
 rw[e];go_simp
 by_cases g:a=b<;>by_cases h:s.toList=t.toList<;>simp[g,h]
def fO (w:World)(N:bw)(m:Mo)(g:Fn):Prop:=w.cell? ⟨N,0,ob⟩=oa (ot m.sA m.ss.length m.sC)/\w.cell? ⟨N,1,ob⟩=oa (ot m.fA m.fs.length m.fC)/\w.cell? ⟨N,2,ob⟩=oa (oe g.c.nm)/\w.cell? ⟨N,3,ob⟩=oa (Z U g.c.par)/\w.cell? ⟨N,4,ob⟩=oa (ot g.c.varsA g.c.nvars g.c.varsC)/\w.cell? ⟨N,5,ob⟩=oa (oy g.c.rp)/\w.cell? ⟨N,6,ob⟩=oa (oe g.c.rto)/\w.cell? ⟨N,7,ob⟩=oa (Z U g.c.rcl)/\w.cell? ⟨N,8,ob⟩=oa (ot g.c.fromA g.c.nfrom g.c.fromC)/\w.cell? ⟨N,9,ob⟩=oa (ot g.c.insA g.c.ins.length g.c.insC)
theorem fO.of {w:World}{N:bw}{m:Mo}{g:Fn}(h:w.heap[N]?=oa (oB (jg m g) 184 (0,0))):fO w N m g:=by
 refine⟨?_, ?_, ?_, ?_, ?_, ?_, ?_, ?_, ?_, ?_⟩<;>(rw[ci _ _ _ _ _ _ h];rfl)
theorem iq (m:Mo)(g:Fn)(i:Ins)(q:ct)(v:iv)(w:World)(h:yK w m g)(ha:isVar g.vs.length i.a=oc)(ho:isVar g.vs.length q=oc)(hk:m.known (aA g.vs i.a)=oc):
  zP 227 #[oA (jg m g),oA i.cells,Z U q,oy v] w (Z U (gQ m g.vs i q v)):=by
 have D:cr (∀W,bj w.heap.size w W->zP 188 #[oA (jg m g),Z U q] W (yI (aA g.vs q))):=λW y=>dU m g q W (h.below y).vars h.nv h.vl ho;have HF:cr (∀W,bj w.heap.size w W->zP 253 #[oA (jg m g),Z U i.a,Z U i.f] W (.tuple #[yI (dB m g.vs i.a i.f).1,Z U (dB m g.vs i.a i.f).2])):=λW y=>tV m g i.a i.f W (h.below y) ha hk;clear h ha ho hk;have G:cr (gQ m g.vs i q v=if (dB m g.vs i.a i.f).2≠0 then(dB m g.vs i.a i.f).2 else dS ((dB m g.vs i.a i.f).1==aA g.vs q&&(dB m g.vs i.a i.f).1.1==v) 7):=rfl;obtain⟨R,hR⟩:=zE (gQ m g.vs i q v);obtain⟨⟨⟨b,s⟩,z⟩,u⟩:∃F,dB m g.vs i.a i.f=F:=⟨_,rfl⟩
 obtain⟨⟨b2,s2⟩,ht⟩:∃t,aA g.vs q=t:=⟨_,rfl⟩
 rw[u,ht,hR] at G;rw[u] at HF;rw[ht] at D;rw[hR];unfold yI at D HF;clear u ht hR;have hst:∀(w:World)(c:cC bo),c.size=2->(cM ⟨w.heap.size,0,ob⟩ [oy b,oe s] 0).run ac (w.alloc (oB c 32))= .ok () (w.alloc (oB #[oy b,oe s] 32)):=λw c hc=>
  cf (P:=ac) w 32 c #[oy b,oe s] (by show _=oa 2;kernel_rfl) hc (by simp[bp])
 obtain⟨N,A⟩:=zE w.heap.size;obtain⟨W1,J⟩:=zE ((w.alloc (oB (jg m g) 184)).alloc (oB i.cells 42));have ph:=oL J A;have pi:W1.heap.size=N+2:=by rw[<-J];simp[A]
 have pj:=uG J A;have oY:=wy J A;have i2:=zR oY 2 (Z U i.a);have i4:=zR oY 4 (Z U i.f);have pk:=zH ph;have pb:=zH pj;have K:=zH A;have oT:=zH pi;clear ph pj oY pi;go_enter func227,ntmps227
 go_upto_region 2 with(first
  |(refine cc rfl 184 _ rfl N rfl 184 (jg m g) (0,0) _ pb.out cj rfl (by kernel_rfl) ?_)
  |(go_at_call 253;refine(HF.out _ (by rw[K.out];exact pk.out)).mono ?_;rintro e w2 ⟨rfl,pl⟩;have pc:=zH pl;clear pl))
 obtain⟨T,Y⟩:=zE w2.heap.size;obtain⟨j,oR⟩:=zE (w2.alloc (oB #[oy b,oe s] 32));rw[Y,oR];have pd:=zD oR pc;have po:N+2<=T:=by rw[<-Y,<-oT.out];exact pc.out.size
 have pp:j.heap.size=T+1:=by rw[<-oR,<-Y];simp
 have pm:j.heap[N]?=oa (oB (jg m g) 184 (0,0)):=(pd.block N (by have:=oT.out;omega)).trans pb.out;have pn:j.heap[T]?=oa (oB #[oy b,oe s] 32 (0,0)):=by rw[<-oR,<-Y];exact alloc_at _ _
 have oX:cr (bj N w j):=pk.out.trans (pd.mono (by have:=oT.out;omega));have o:cr (∀W,bj j.heap.size j W->fO W N m g/\W.cell? ⟨T,0,ob⟩=oa (oy b)/\W.cell? ⟨T,1,ob⟩=oa (oe s)):=by
  intro W y;have q5:=(y.block T (by omega)).trans pn;refine⟨fO.of ((y.block N (by omega)).trans pm), ?_, ?_⟩
  ·rw[ci _ _ _ _ _ _ q5];rfl
  ·rw[ci _ _ _ _ _ _ q5];rfl
 clear hst J oR pd pm pn pb Y pc A oT i2 i4 HF
 by_cases u:z=0
 ·subst u
  have oS:cr (R=dS (((b,s):Ty)==(b2,s2)&&b==v) 7):=by unfold cr;rw[G.out,cy (by simp)]
  obtain⟨d,hd⟩:=zE (((b,s):Ty)==(b2,s2));have pw:∀w,(js 10000 32 (oA #[oy b,oe s]) (oA #[oy b2,oe s2])).run ac w= .ok d w:=λw=>by rw[il,hd]
  rw[hd] at oS;have pf:cr (∀p:BW j,zP 188 #[oA (jg m g),Z U q] p.w (oA #[oy b2,oe s2])):=
   λp=>D.out p.w (by rw[K.out];exact oX.out.trans (p.h.mono (by omega)))
  unfold jg at pf;have k0:∀p:BW j,p.w.cell? ⟨N,0,ob⟩=oa (ot m.sA m.ss.length m.sC):=λp=>(o.out p.w p.h).1.1;have k1:∀p:BW j,p.w.cell? ⟨N,1,ob⟩=oa (ot m.fA m.fs.length m.fC):=λp=>(o.out p.w p.h).1.2.1;have k2:∀p:BW j,p.w.cell? ⟨N,2,ob⟩=oa (oe g.c.nm):=λp=>(o.out p.w p.h).1.2.2.1;have k3:∀p:BW j,p.w.cell? ⟨N,3,ob⟩=oa (Z U g.c.par):=λp=>(o.out p.w p.h).1.2.2.2.1;have k4:∀p:BW j,p.w.cell? ⟨N,4,ob⟩=oa (ot g.c.varsA g.c.nvars g.c.varsC):=λp=>(o.out p.w p.h).1.2.2.2.2.1;have k5:∀p:BW j,p.w.cell? ⟨N,5,ob⟩=oa (oy g.c.rp):=λp=>(o.out p.w p.h).1.2.2.2.2.2.1;have k6:∀p:BW j,p.w.cell? ⟨N,6,ob⟩=oa (oe g.c.rto):=λp=>(o.out p.w p.h).1.2.2.2.2.2.2.1;have k7:∀p:BW j,p.w.cell? ⟨N,7,ob⟩=oa (Z U g.c.rcl):=λp=>(o.out p.w p.h).1.2.2.2.2.2.2.2.1;have k8:∀p:BW j,p.w.cell? ⟨N,8,ob⟩=oa (ot g.c.fromA g.c.nfrom g.c.fromC):=λp=>(o.out p.w p.h).1.2.2.2.2.2.2.2.2.1;have k9:∀p:BW j,p.w.cell? ⟨N,9,ob⟩=oa (ot g.c.insA g.c.ins.length g.c.insC):=λp=>(o.out p.w p.h).1.2.2.2.2.2.2.2.2.2;have t0:∀p:BW j,p.w.cell? ⟨T,0,ob⟩=oa (oy b):=λp=>(o.out p.w p.h).2.1;have t1:∀p:BW j,p.w.cell? ⟨T,1,ob⟩=oa (oe s):=λp=>(o.out p.w p.h).2.2;clear hd G D o;cases d with
  |false=>
   go_wp2;refine zQ ?_
   repeat (go_big_quiet_step (first
    |(go_at_call 188;exact bn (pf.out _))
    |(go_at_call 99;exact fP (av _ _ _))))
   refine eC ?_;rintro _ ⟨p,rfl⟩;go_wp2;go_ret;rw[oS.out,K.out];exact⟨rfl,oX.out.trans (p.h.mono (by omega))⟩
  |true=>
   go_wp2;refine zQ ?_
   repeat (go_big_quiet_step (first
    |(go_at_call 188;exact bn (pf.out _))
    |(go_at_call 99;exact fP (av _ _ _))))
   refine eC ?_;rintro _ ⟨p,rfl⟩;go_wp2;go_ret;rw[oS.out,K.out];exact⟨rfl,oX.out.trans (p.h.mono (by omega))⟩
 ·have oS:cr (R=z):=by unfold cr;rw[G.out,cQ u]
  have px:(z==0)=od:=by rw[cL];exact u
  clear G D o u;go_wp2;go_ret;rw[oS.out,K.out];exact⟨rfl,oX.out⟩
theorem kR (f g:bh Vr):∀(l:bh ct)(b:bw),lL f g b l=oc↔∀k a,l[k]?=oa a->(aA f a==aA g ((b+k:bw):ct))=oc
 |[],b=>⟨λ_ k a h=>by simp at h,λ_=>rfl⟩
 |x::r,b=>by
  unfold lL;rw[fk,kR f g r (b+1)];constructor
  ·rintro⟨j,o⟩ k a d
   cases k with
   |zero=>simp at d;subst d;exact j
   |succ k=>
    have:=o k a (by simpa using d);rw[show b+(k+1)=b+1+k by omega];exact this
  ·intro h
   refine⟨h 0 x rfl,λk a d=> ?_⟩;have:=h (k+1) a (by simpa using d);rw[show b+1+k=b+(k+1) by omega];exact this
theorem rP (f:Fn):(f.cells.all λx=>x.oneCell')=oc:=by
 rw[<-gi];simp[Fn.cells,ww.cells,bp]
theorem nD (m:Mo)(g:Fn)(i:Ins)(w:World)(h:yK w m g)(hi:i.args_in w)(qS:i.args.length<=cX)(hd:isVar g.vs.length i.d=oc)(ha:∀a∈i.args,isVar g.vs.length a=oc):
  zP 185 #[oA (jg m g),oA i.cells] w (Z U (jX m g.vs i)):=by
 have HT:cr (∀W v,bj w.heap.size w W->isVar g.vs.length v=oc->zP 188 #[oA (jg m g),Z U v] W (yI (aA g.vs v))):=λW v hW hv=>dU m g v W (h.below hW).vars h.nv h.vl hv;obtain⟨⟨_,rB,n2,rI,qT⟩,ao,cap,ra,pP⟩:=hi;have HA:cr (aV w ao i.args):=pP.at_;have HJ:=zH h;have rb:=zH hd;have rc:=zH ha;have HE:cr (jX m g.vs i=if i.f<0 then 15 else match m.fs[i.f.toNat]? with
  |none=>15
  |some g'=>if (i.args.length:ct)≠g'.c.par\/(g'.vs.length:ct)<g'.c.par then 7
   else if lL g.vs g'.vs 0 i.args=od then 7 else dS (aA g.vs i.d==g'.ret) 7):=rfl
 obtain⟨R,hR⟩:=zE (jX m g.vs i);rw[hR] at HE⊢;clear hR h pP hd ha qT;obtain⟨N,hN⟩:=zE w.heap.size;obtain⟨W1,ph⟩:=zE ((w.alloc (oB (jg m g) 184)).alloc (oB i.cells 42));have pS:=oL ph hN;have pi:W1.heap.size=N+2:=by rw[<-ph];simp[hN]
 have po:=uG ph hN;have pp:=wy ph hN;have i4:=zR pp 4 (Z U i.f);have k1:=zR po 1 (ot m.fA m.fs.length m.fC);have oT:=zH pS;have pT:=zH po;have pZ:=zH pp;have K:=zH hN;have rK:=zH pi;clear pS po pp
 by_cases pb:i.f<0
 ·have J:cr (R=15):=by unfold cr;rw[HE.out,cQ pb]
  clear HE HT;go_enter func185,ntmps185;go_wp2;go_ret;rw[J.out];exact⟨rfl,by first|exact oT.out|(rw[K.out];exact oT.out)⟩
 obtain⟨F,hF⟩:∃F:bw,i.f=(F:ct):=⟨i.f.toNat,by omega⟩
 rw[hF] at i4
 by_cases pc:F<m.fs.length
 ·obtain⟨f,pj⟩:∃f,m.fs[F]?=oa f:=⟨_,ce pc⟩
  have oX:cr (R=if (i.args.length:ct)≠f.c.par\/(f.vs.length:ct)<f.c.par then 7 else if lL g.vs f.vs 0 i.args=od then 7 else dS (aA g.vs i.d==f.ret) 7):=by
   unfold cr;rw[HE.out,cy pb,hF,eN,pj]
  have pw:=HJ.out.mo.fin f (cA pj);have re:=zH pw;obtain⟨fb,qe,px,rh,qk⟩:=HJ.out.mo.frow (by intro e;rw[e] at pc;simp at pc);have rj:fb<N:=by omega
  have rk:cr (∀k u,f.cells.toList[k]?=oa u->W1.cell? ((⟨fb,qe+F*8,ob⟩:Addr).add k)=oa u):=λk u hu=>by
   rw[cI,oT.out.cell (p:=⟨fb,_,ob⟩) rj];exact qk F f pj k u hu
  have rl:(F:ct)<(m.fs.length:ct):=by omega
  obtain⟨D,pd⟩:=zE (W1.alloc (oB f.cells 38));have hst:∀(c:cC bo),c.size=8->(cM ⟨N+2,0,ob⟩ f.cells.toList 0).run ac (W1.alloc (oB c 38))= .ok () D:=λc hc=>by
   rw[<-pd,<-pi];exact cf (P:=ac) W1 38 c f.cells (by show _=oa 8;kernel_rfl) hc (rP f)
  have pk:=jJ pd;have qn:D.heap[N+2]?=oa (oB f.cells 38 (0,0)):=by rw[<-pd,<-pi];exact alloc_at _ _
  have rL:D.heap.size=N+3:=by rw[<-pd];simp[pi]
  have Y:cr (bj N w D):=oT.out.trans (pk.mono (by omega));have pl:cr (∀W,bj D.heap.size D W->fO W N m g/\W.cell? ⟨N+1,1,ob⟩=oa (Z U i.d)/\W.cell? ⟨N+1,7,ob⟩=oa (ot ao i.args.length cap)/\
    W.cell? ⟨N+2,1,ob⟩=oa (Z U f.c.par)/\W.cell? ⟨N+2,2,ob⟩=oa (ot f.c.varsA f.vs.length f.c.varsC)/\W.cell? ⟨N+2,3,ob⟩=oa (oy f.c.rp)/\W.cell? ⟨N+2,4,ob⟩=oa (oe f.c.rto)):=by
   intro W hW;have q1:=(hW.block N (by omega)).trans ((pk.block N (by omega)).trans pT.out);have q2:=(hW.block (N+1) (by omega)).trans ((pk.block (N+1) (by omega)).trans pZ.out);have q3:=(hW.block (N+2) (by omega)).trans qn;refine⟨fO.of q1, ?_, ?_, ?_, ?_, ?_, ?_⟩
   ·rw[ci _ _ _ _ _ _ q2];rfl
   ·rw[ci _ _ _ _ _ _ q2,<-ra];rfl
   ·rw[ci _ _ _ _ _ _ q3];rfl
   ·rw[ci _ _ _ _ _ _ q3,<-pw.nvars];rfl
   ·rw[ci _ _ _ _ _ _ q3];rfl
   ·rw[ci _ _ _ _ _ _ q3];rfl
  obtain⟨_,j1,j7,c1,c2,c3,c4⟩:=pl.out D (an _ _);have py:cr (∀(W:World)(v:ct),bj D.heap.size D W->isVar f.vs.length v=oc->∃(k b G:bw) (x:Vr),v=(k:ct)/\k<f.vs.length/\f.c.varsA=oa ⟨b,G,ob⟩/\b<D.heap.size/\aA f.vs v=(x.ptr,x.tgt)/\W.cell? ⟨b,G+k*3,ob⟩=oa (oy x.ptr)/\W.cell? ⟨b,G+k*3+1,ob⟩=oa (oe x.tgt)):=by
   intro W v hW hv;have qq:bj w.heap.size w W:=by rw[K.out];exact Y.out.trans (hW.mono (by omega))
   obtain⟨k,b,G,x,r1,r2,r3,r4,r5,r6,r7⟩:=yJ (re.out.vars) hv;exact⟨k,b,G,x,r1,r2,r3,by omega,r5,by rw[qq.cell (p:=⟨b,_,ob⟩) r4];exact r6,by rw[qq.cell (p:=⟨b,_,ob⟩) r4];exact r7⟩
  have rN:=zH px;rw[px] at k1;have rS:i.args.length<=9223372036854775807:=by unfold cX at qS;omega
  clear HE pb hF pc pj pw px qk pk qn pT pZ rh;go_enter func185,ntmps185
  go_upto_region 4 with(first
   |(refine az rfl 38 _ rfl ⟨fb,qe+F*8,ob⟩ rfl f.cells _ rk.out eW rfl (by kernel_rfl) ?_))
  clear hst pd i4 k1
  by_cases pf:(i.args.length:ct)=f.c.par
  ·by_cases pm:(f.vs.length:ct)<f.c.par
   ·have J:cr (R=7):=by unfold cr;rw[oX.out,cQ (.inr pm)]
    rw[<-pf] at pm c1;clear oX HT;go_wp2;go_ret;rw[J.out,K.out];exact⟨rfl,Y.out⟩
   ·have pB:cr (R=if lL g.vs f.vs 0 i.args=od then 7 else dS (aA g.vs i.d==f.ret) 7):=by
     unfold cr;rw[oX.out,cy (λh=>by rcases h with h|h;exact h pf;exact pm h)]
    rw[<-pf] at pm c1;have se:i.args.length<=f.vs.length:=by omega
    clear oX pf
    go_upto_region 7 with(fail)
    go_loopw [44] (λc wr=>∃j:bw,j<=i.args.length/\c= Z U (j:ct)/\(∀k a,k<j->i.args[k]?=oa a->(aA g.vs a==aA f.vs (k:ct))=oc)/\bj D.heap.size D wr) (λc _=>i.args.length-(intOf c).toNat)
    case atStart=>exact⟨0,da _,rfl,λk a hk=>gC hk (by omega),an _ _⟩
    case round=>
     obtain⟨j,hj,rfl,pD,hb⟩:=hrel;have q:=zH hb;have qr:=zH pD
     by_cases pn:j<i.args.length
     ·obtain⟨y,hy⟩:∃y,i.args[j]?=oa y:=⟨_,ce pn⟩
      obtain⟨ab,rm,rn,sf,qs⟩:=(HA.out.below (by rw[K.out];exact Y.out.trans (hb.mono (by omega)))) (by intro e;rw[e] at pn;simp at pn)
      have d1:wr.cell? ⟨ab,rm+j,ob⟩=oa (Z U y):=qs j y hy;have qt:isVar g.vs.length y=oc:=rc.out y (cA hy);obtain⟨A,b,G,x,sg,sk,pH,ro,pL,_,_⟩:=py.out wr (j:ct) hb (jf.2 ⟨by omega,by omega⟩);obtain rfl:A=j:=by omega
      have HX:cr (∀p:BW wr,p.w.cell? ⟨b,G+A*3,ob⟩=oa (oy x.ptr)/\p.w.cell? ⟨b,G+A*3+1,ob⟩=oa (oe x.tgt)):=by
       intro p;obtain⟨k2,b2,rr,x2,q1,q2,q3,q4,q5,q6,q7⟩:=py.out p.w (A:ct) (q.out.trans (p.h.mono q.out.size)) (jf.2 ⟨by omega,by omega⟩);obtain rfl:A=k2:=by omega
       rw[pH] at q3;obtain⟨rfl,rfl⟩:b=b2/\G=rr:=by simpa using q3
       rw[pL] at q5;obtain⟨e1,e2⟩:x.ptr=x2.ptr/\x.tgt=x2.tgt:=by simpa using q5
       rw[e1,e2];exact⟨q6,q7⟩
      have x0:∀p:BW wr,p.w.cell? ⟨b,G+A*3,ob⟩=oa (oy x.ptr):=λp=>(HX.out p).1;have x1:∀p:BW wr,p.w.cell? ⟨b,G+A*3+1,ob⟩=oa (oe x.tgt):=λp=>(HX.out p).2;have sn:b<wr.heap.size:=cg ro hb.size;obtain⟨⟨tb,ts⟩,oR⟩:∃t,aA g.vs y=t:=⟨_,rfl⟩
      have oY:cr (∀p:BW wr,zP 188 #[oA (jg m g),Z U y] p.w (oA #[oy tb,oe ts])):=λp=>by
       have:=HT.out p.w y (by rw[K.out];exact(Y.out.trans (q.out.mono (by omega))).trans (p.h.mono (by have:=q.out.size;omega))) qt;rw[oR] at this;exact this
      unfold jg at oY;obtain⟨d,oS⟩:=zE (((tb,ts):Ty)==(x.ptr,x.tgt));have rv:∀w,(js 10000 32 (oA #[oy tb,oe ts]) (oA #[oy x.ptr,oe x.tgt])).run ac w= .ok d w:=λw=>by rw[il,oS]
      have qu:cr ((aA g.vs y==aA f.vs (A:ct))=d):=by unfold cr;rw[oR,pL];exact oS
      have HY:=zH hy;have o:cr (∀p:BW wr,_):=λp:BW wr=>pl.out p.w (q.out.trans (p.h.mono q.out.size));have k0:∀p:BW wr,p.w.cell? ⟨N,0,ob⟩=oa (ot m.sA m.ss.length m.sC):=λp=>(o.out p).1.1;have k1:∀p:BW wr,p.w.cell? ⟨N,1,ob⟩=oa (ot m.fA m.fs.length m.fC):=λp=>(o.out p).1.2.1;have k2:∀p:BW wr,p.w.cell? ⟨N,2,ob⟩=oa (oe g.c.nm):=λp=>(o.out p).1.2.2.1;have k3:∀p:BW wr,p.w.cell? ⟨N,3,ob⟩=oa (Z U g.c.par):=λp=>(o.out p).1.2.2.2.1;have k4:∀p:BW wr,p.w.cell? ⟨N,4,ob⟩=oa (ot g.c.varsA g.c.nvars g.c.varsC):=λp=>(o.out p).1.2.2.2.2.1;have k5:∀p:BW wr,p.w.cell? ⟨N,5,ob⟩=oa (oy g.c.rp):=λp=>(o.out p).1.2.2.2.2.2.1;have k6:∀p:BW wr,p.w.cell? ⟨N,6,ob⟩=oa (oe g.c.rto):=λp=>(o.out p).1.2.2.2.2.2.2.1;have k7:∀p:BW wr,p.w.cell? ⟨N,7,ob⟩=oa (Z U g.c.rcl):=λp=>(o.out p).1.2.2.2.2.2.2.2.1;have k8:∀p:BW wr,p.w.cell? ⟨N,8,ob⟩=oa (ot g.c.fromA g.c.nfrom g.c.fromC):=λp=>(o.out p).1.2.2.2.2.2.2.2.2.1;have k9:∀p:BW wr,p.w.cell? ⟨N,9,ob⟩=oa (ot g.c.insA g.c.ins.length g.c.insC):=λp=>(o.out p).1.2.2.2.2.2.2.2.2.2;have so:∀p:BW wr,p.w.cell? ⟨N+2,2,ob⟩=oa (ot (oa ⟨b,G,ob⟩) f.vs.length f.c.varsC):=λp=>by rw[<-pH];exact(o.out p).2.2.2.2.1
      have sq:(A:ct)<(i.args.length:ct):=by omega
      have sr:(A:ct)<(f.vs.length:ct):=by omega
      subst rn;clear pD hb hy qs qt pH pL oR oS pn o;cases d with
      |true=>
       go_wp2_with fail
       refine zQ ?_
       repeat (go_big_quiet_step (first
        |(go_at_call 188;exact bn (oY.out _))))
       refine eC ?_;rintro _ ⟨p,rfl⟩;go_wp2;go_roundw
       case rel=>
        refine⟨A+1,by omega,by go_num,λk a hk pN=> ?_,q.out.trans (p.h.mono q.out.size)⟩
        by_cases e:k=A
        ·subst e
         rw[HY.out] at pN;obtain rfl:=cN pN;exact qu.out
        ·exact qr.out k a (by omega) pN
       case measure=>simp[intOf];omega
      |false=>
       have J:cr (R=7):=by
        unfold cr;rw[pB.out,cQ];cases hc:lL g.vs f.vs 0 i.args with
        |false=>rfl
        |true=>
         have:=(kR _ _ _ _).1 hc A y HY.out;rw[cJ,qu.out] at this;cases this
       go_wp2_with fail
       refine zQ ?_
       repeat (go_big_quiet_step (first
        |(go_at_call 188;exact bn (oY.out _))))
       refine eC ?_;rintro _ ⟨p,rfl⟩;go_wp2;go_ret;rw[J.out,K.out];exact⟨rfl,(Y.out.trans (q.out.mono (by omega))).trans (p.h.mono (by have:=q.out.size;omega))⟩
     ·have rx:j=i.args.length:=by omega
      subst rx;have qv:cr (R=dS (aA g.vs i.d==f.ret) 7):=by
       unfold cr;rw[pB.out,cy];rw[(kR _ _ _ _).2 (λk a hk=>by rw[cJ];exact qr.out k a (ca.1 hk).1 hk)];decide
      obtain⟨⟨tb,ts⟩,oR⟩:∃t,aA g.vs i.d=t:=⟨_,rfl⟩
      have oY:cr (∀p:BW wr,zP 188 #[oA (jg m g),Z U i.d] p.w (oA #[oy tb,oe ts])):=λp=>by
       have:=HT.out p.w i.d (by rw[K.out];exact(Y.out.trans (q.out.mono (by omega))).trans (p.h.mono (by have:=q.out.size;omega))) rb.out;rw[oR] at this;exact this
      unfold jg at oY;obtain⟨d,oS⟩:=zE (((tb,ts):Ty)==(f.c.rp,f.c.rto));have rv:∀w,(js 10000 32 (oA #[oy tb,oe ts]) (oA #[oy f.c.rp,oe f.c.rto])).run ac w= .ok d w:=λw=>by rw[il,oS]
      have J:cr (R=dS d 7):=by unfold cr;rw[qv.out,oR,<-oS];rfl
      have o:cr (∀p:BW wr,_):=λp:BW wr=>pl.out p.w (q.out.trans (p.h.mono q.out.size));have k0:∀p:BW wr,p.w.cell? ⟨N,0,ob⟩=oa (ot m.sA m.ss.length m.sC):=λp=>(o.out p).1.1;have k1:∀p:BW wr,p.w.cell? ⟨N,1,ob⟩=oa (ot m.fA m.fs.length m.fC):=λp=>(o.out p).1.2.1;have k2:∀p:BW wr,p.w.cell? ⟨N,2,ob⟩=oa (oe g.c.nm):=λp=>(o.out p).1.2.2.1;have k3:∀p:BW wr,p.w.cell? ⟨N,3,ob⟩=oa (Z U g.c.par):=λp=>(o.out p).1.2.2.2.1;have k4:∀p:BW wr,p.w.cell? ⟨N,4,ob⟩=oa (ot g.c.varsA g.c.nvars g.c.varsC):=λp=>(o.out p).1.2.2.2.2.1;have k5:∀p:BW wr,p.w.cell? ⟨N,5,ob⟩=oa (oy g.c.rp):=λp=>(o.out p).1.2.2.2.2.2.1;have k6:∀p:BW wr,p.w.cell? ⟨N,6,ob⟩=oa (oe g.c.rto):=λp=>(o.out p).1.2.2.2.2.2.2.1;have k7:∀p:BW wr,p.w.cell? ⟨N,7,ob⟩=oa (Z U g.c.rcl):=λp=>(o.out p).1.2.2.2.2.2.2.2.1;have k8:∀p:BW wr,p.w.cell? ⟨N,8,ob⟩=oa (ot g.c.fromA g.c.nfrom g.c.fromC):=λp=>(o.out p).1.2.2.2.2.2.2.2.2.1;have k9:∀p:BW wr,p.w.cell? ⟨N,9,ob⟩=oa (ot g.c.insA g.c.ins.length g.c.insC):=λp=>(o.out p).1.2.2.2.2.2.2.2.2.2;have g1:∀p:BW wr,p.w.cell? ⟨N+1,1,ob⟩=oa (Z U i.d):=λp=>(o.out p).2.1;have g3:∀p:BW wr,p.w.cell? ⟨N+2,3,ob⟩=oa (oy f.c.rp):=λp=>(o.out p).2.2.2.2.2.1;have g4:∀p:BW wr,p.w.cell? ⟨N+2,4,ob⟩=oa (oe f.c.rto):=λp=>(o.out p).2.2.2.2.2.2;clear pD hb oR oS o pB qv py HT pl
      go_wp2_with fail
      refine zQ ?_
      repeat (go_big_quiet_step (first
       |(go_at_call 188;exact bn (oY.out _))
       |(go_at_call 99;exact fP (av _ _ _))))
      refine eC ?_;rintro _ ⟨p,rfl⟩;go_wp2;go_ret;rw[J.out,K.out];exact⟨rfl,(Y.out.trans (q.out.mono (by omega))).trans (p.h.mono (by have:=q.out.size;omega))⟩
  ·have J:cr (R=7):=by unfold cr;rw[oX.out,cQ (.inl pf)]
   clear oX HT;go_wp2;go_ret;rw[J.out,K.out];exact⟨rfl,Y.out⟩
 ·have J:cr (R=15):=by unfold cr;rw[HE.out,cy pb,hF,eN,na (by omega)]
  have rl:¬((F:ct)<(m.fs.length:ct)):=by omega
  clear HE HT pc pb hF;go_enter func185,ntmps185;go_wp2;go_ret;rw[J.out];exact⟨rfl,by first|exact oT.out|(rw[K.out];exact oT.out)⟩
structure bM (w:World)(m:Mo)(g:Fn)(i:Ins):Prop where
 j:yK w m g
 d:wO i.op=oc->isVar g.vs.length i.d=oc
 a:xV i.op=oc->isVar g.vs.length i.a=oc
 b:wP i.op=oc->isVar g.vs.length i.b=oc
 kn:∀v,isVar g.vs.length v=oc->m.known (aA g.vs v)=oc
theorem tX {w:World}{z:ct}:aV (w.alloc (oB #[Z U z] 3)) (oa ⟨w.heap.size,0,ob⟩) [z]:=aV.one w z rfl
theorem Bq {w:World}{y z:ct}:aV (w.alloc (oB #[Z U y,Z U z] 3)) (oa ⟨w.heap.size,0,ob⟩) [y,z]:=by
 intro _;refine⟨w.heap.size,0,rfl,by simp,λk u a=> ?_⟩;rw[cJ,World.cell?_alloc_new];have:k<2:=(ca.1 a).1;obtain rfl|rfl:k=0\/k=1:=by omega
 ·simp at a;subst a;rfl
 ·simp at a;subst a;rfl
theorem aZ {m:Mo}{g:Fn}{i:Ins}{w:World}{k:ct}(A:i.op=k)(h:bM w m g i):∃N o,w.heap.size=N/\(w.alloc (oB (jg m g) 184)).alloc (oB i.cells 42)=o/\o.heap.size=N+2/\N+1<o.heap.size/\
  (o.cell? ⟨N+1,0,ob⟩=oa (Z U k)/\o.cell? ⟨N+1,1,ob⟩=oa (Z U i.d)/\o.cell? ⟨N+1,2,ob⟩=oa (Z U i.a)/\o.cell? ⟨N+1,3,ob⟩=oa (Z U i.b)/\o.cell? ⟨N+1,4,ob⟩=oa (Z U i.f)/\o.cell? ⟨N+1,6,ob⟩=oa (oe i.sign))/\
  cr (w.heap.size=N)/\cr (o.heap.size=N+2)/\cr (bj N w o)/\cr (o.heap[N]?=oa (oB (jg m g) 184 (0,0)))/\cr (o.heap[N+1]?=oa (oB i.cells 42 (0,0)))/\
  cr (∀W v,bj w.heap.size w W->isVar g.vs.length v=oc->zP 188 #[oA (jg m g),Z U v] W (yI (aA g.vs v)))/\cr (wO k=oc->isVar g.vs.length i.d=oc)/\cr (xV k=oc->isVar g.vs.length i.a=oc)/\cr (wP k=oc->isVar g.vs.length i.b=oc):=by
 obtain⟨N,u⟩:=zE w.heap.size;obtain⟨o,y⟩:=zE ((w.alloc (oB (jg m g) 184)).alloc (oB i.cells 42));have D:o.heap.size=N+2:=by rw[<-y];simp[u]
 have q:=wy y u;refine⟨N,o,u,y,D,by omega,⟨?_,zR q 1 _,zR q 2 _,zR q 3 _,zR q 4 _,zR q 6 _⟩,u,D,oL y u,uG y u,q,λW v G J=>dU m g v W (h.j.below G).vars h.j.nv h.j.vl J, ?_, ?_, ?_⟩
 ·rw[ci _ _ _ _ _ _ q,<-A];rfl
 ·rw[<-A];exact h.d
 ·rw[<-A];exact h.a
 ·rw[<-A];exact h.b
theorem zG (m:Mo)(g:Fn)(i:Ins)(w:World)(a:i.op=1)(h:bM w m g i):
  zP 189 #[oA (jg m g),oA i.cells] w (Z U (ak m g.vs i)):=by
 have b:cr (ak m g.vs i=dN g.vs [i.d]):=by
  unfold cr ak;rw[a];rfl
 obtain⟨R,q⟩:=zE (ak m g.vs i);rw[q] at b⊢;clear q;have u:=zH h;obtain⟨N,f,hN,oT,oX,oY,⟨i0,i1,i2,i3,i4,i6⟩,v,y,J,K,pb,Y,A,HA,HB⟩:=aZ a h;clear h a;have D:cr (bj N w (f.alloc (oB #[Z U i.d] 3))):=J.out.alloc (by omega) _;have oR:cr (zP 187 #[oA (jg m g),ot (oa ⟨N+2,0,ob⟩) 1 1] (f.alloc (oB #[Z U i.d] 3)) (Z U R)):=by
  have o:=u.out.j.below (by rw[v.out];exact D.out);have:=bE m g (oa ⟨N+2,0,ob⟩) [i.d] 1 (f.alloc (oB #[Z U i.d] 3)) o.vars o.nv o.vl (by unfold cX;simp) (by rw[<-y.out];exact tX) (by simp;exact A.out rfl);rw[<-b.out] at this;exact this
 clear b A HA HB Y u;go_enter dp,dc
 go_wp2_with (first
  |(refine cc rfl 184 _ rfl N rfl 184 (jg m g) (0,0) _ K.out cj rfl (by kernel_rfl) ?_)
  |(go_at_call 187;refine oR.out.mono ?_;rintro e w4 ⟨rfl,G⟩;have oS:=zH G;clear G))
 go_ret;refine⟨rfl, ?_⟩;rw[v.out];exact D.out.trans (oS.out.mono (by have:=y.out;simp;omega))
theorem zI (m:Mo)(g:Fn)(i:Ins)(w:World)(a:i.op=5)(h:bM w m g i):
  zP 189 #[oA (jg m g),oA i.cells] w (Z U (ak m g.vs i)):=by
 have b:cr (ak m g.vs i=dN g.vs [i.d]):=by
  unfold cr ak;rw[a];rfl
 obtain⟨R,q⟩:=zE (ak m g.vs i);rw[q] at b⊢;clear q;have u:=zH h;obtain⟨N,f,hN,oT,oX,oY,⟨i0,i1,i2,i3,i4,i6⟩,v,y,J,K,pb,Y,A,HA,HB⟩:=aZ a h;clear h a;have D:cr (bj N w (f.alloc (oB #[Z U i.d] 3))):=J.out.alloc (by omega) _;have oR:cr (zP 187 #[oA (jg m g),ot (oa ⟨N+2,0,ob⟩) 1 1] (f.alloc (oB #[Z U i.d] 3)) (Z U R)):=by
  have o:=u.out.j.below (by rw[v.out];exact D.out);have:=bE m g (oa ⟨N+2,0,ob⟩) [i.d] 1 (f.alloc (oB #[Z U i.d] 3)) o.vars o.nv o.vl (by unfold cX;simp) (by rw[<-y.out];exact tX) (by simp;exact A.out rfl);rw[<-b.out] at this;exact this
 clear b A HA HB Y u;go_enter dp,dc
 go_wp2_with (first
  |(refine cc rfl 184 _ rfl N rfl 184 (jg m g) (0,0) _ K.out cj rfl (by kernel_rfl) ?_)
  |(go_at_call 187;refine oR.out.mono ?_;rintro e w4 ⟨rfl,G⟩;have oS:=zH G;clear G))
 go_ret;refine⟨rfl, ?_⟩;rw[v.out];exact D.out.trans (oS.out.mono (by have:=y.out;simp;omega))
theorem zJ (m:Mo)(g:Fn)(i:Ins)(w:World)(b:i.op=6)(h:bM w m g i):
  zP 189 #[oA (jg m g),oA i.cells] w (Z U (ak m g.vs i)):=by
 have d:cr (ak m g.vs i=dN g.vs [i.a]):=by
  unfold cr ak;rw[b];rfl
 obtain⟨R,q⟩:=zE (ak m g.vs i);rw[q] at d⊢;clear q;have u:=zH h;obtain⟨N,f,hN,oT,oX,oY,⟨i0,i1,i2,i3,i4,i6⟩,v,y,J,K,pb,Y,HD,A,HB⟩:=aZ b h;clear h b;have D:cr (bj N w (f.alloc (oB #[Z U i.a] 3))):=J.out.alloc (by omega) _;have oR:cr (zP 187 #[oA (jg m g),ot (oa ⟨N+2,0,ob⟩) 1 1] (f.alloc (oB #[Z U i.a] 3)) (Z U R)):=by
  have o:=u.out.j.below (by rw[v.out];exact D.out);have:=bE m g (oa ⟨N+2,0,ob⟩) [i.a] 1 (f.alloc (oB #[Z U i.a] 3)) o.vars o.nv o.vl (by unfold cX;simp) (by rw[<-y.out];exact tX) (by simp;exact A.out rfl);rw[<-d.out] at this;exact this
 clear d HD A HB Y u;go_enter dp,dc
 go_wp2_with (first
  |(refine cc rfl 184 _ rfl N rfl 184 (jg m g) (0,0) _ K.out cj rfl (by kernel_rfl) ?_)
  |(go_at_call 187;refine oR.out.mono ?_;rintro e w4 ⟨rfl,G⟩;have oS:=zH G;clear G))
 go_ret;refine⟨rfl, ?_⟩;rw[v.out];exact D.out.trans (oS.out.mono (by have:=y.out;simp;omega))
theorem zM (m:Mo)(g:Fn)(i:Ins)(w:World)(b:i.op=3)(h:bM w m g i):
  zP 189 #[oA (jg m g),oA i.cells] w (Z U (ak m g.vs i)):=by
 have f:cr (ak m g.vs i=dN g.vs [i.d,i.a]):=by
  unfold cr ak;rw[b];rfl
 obtain⟨R,u⟩:=zE (ak m g.vs i);rw[u] at f⊢;clear u;have v:=zH h;obtain⟨N,o,hN,oX,oY,pb,⟨i0,i1,i2,i3,i4,i6⟩,y,A,Y,oR,pc,HT,D,G,HB⟩:=aZ b h;clear h b;have J:cr (bj N w (o.alloc (oB #[Z U i.d,Z U i.a] 3))):=Y.out.alloc (by omega) _;have oS:cr (zP 187 #[oA (jg m g),ot (oa ⟨N+2,0,ob⟩) 2 2] (o.alloc (oB #[Z U i.d,Z U i.a] 3)) (Z U R)):=by
  have q:=v.out.j.below (by rw[y.out];exact J.out);have:=bE m g (oa ⟨N+2,0,ob⟩) [i.d,i.a] 2 (o.alloc (oB #[Z U i.d,Z U i.a] 3)) q.vars q.nv q.vl (by unfold cX;simp) (by rw[<-A.out];exact Bq) (by simp;exact⟨D.out rfl,G.out rfl⟩);rw[<-f.out] at this;exact this
 clear f D G HB HT v;go_enter dp,dc
 go_wp2_with (first
  |(refine cc rfl 184 _ rfl N rfl 184 (jg m g) (0,0) _ oR.out cj rfl (by kernel_rfl) ?_)
  |(go_at_call 187;refine oS.out.mono ?_;rintro e w4 ⟨rfl,K⟩;have oT:=zH K;clear K))
 go_ret;refine⟨rfl, ?_⟩;rw[y.out];exact J.out.trans (oT.out.mono (by have:=A.out;simp;omega))
theorem zN (m:Mo)(g:Fn)(i:Ins)(w:World)(a:i.op=2)(h:bM w m g i):
  zP 189 #[oA (jg m g),oA i.cells] w (Z U (ak m g.vs i)):=by
 have b:cr (ak m g.vs i=dS (aA g.vs i.d).1 7):=by
  unfold cr ak;rw[a];rfl
 obtain⟨R,f⟩:=zE (ak m g.vs i);rw[f] at b⊢;clear f;have A:=zH h;obtain⟨N,j,hN,oR,oS,oT,⟨i0,i1,i2,i3,i4,i6⟩,o,oX,q,D,oY,u,v,G,J⟩:=aZ a h;clear h a;have K:cr (zP 188 #[oA (jg m g),Z U i.d] j (oA #[oy (aA g.vs i.d).1,oe (aA g.vs i.d).2])):=u.out j i.d (by rw[o.out];exact q.out) (v.out rfl);have pb:=gT;clear v G J u A;go_enter dp,dc
 go_wp2_with (first
  |(refine cc rfl 184 _ rfl N rfl 184 (jg m g) (0,0) _ D.out cj rfl (by kernel_rfl) ?_)
  |(go_at_call 188;refine K.out.mono ?_;rintro e w4 ⟨rfl,y⟩;have Y:=zH y;clear y)
  |(go_at_call 99;refine(av _ _ _).mono ?_;rintro e w9 ⟨rfl,rfl⟩))
 go_ret;rw[b.out,o.out];exact⟨rfl,q.out.trans (Y.out.mono (by omega))⟩
theorem yP (m:Mo)(g:Fn)(i:Ins)(w:World)(b:i.op=13)(h:bM w m g i):
  zP 189 #[oA (jg m g),oA i.cells] w (Z U (ak m g.vs i)):=by
 have d:cr (ak m g.vs i=dS (aA g.vs i.a).1 7):=by
  unfold cr ak;rw[b];rfl
 obtain⟨R,f⟩:=zE (ak m g.vs i);rw[f] at d⊢;clear f;have A:=zH h;obtain⟨N,j,hN,oR,oS,oT,⟨i0,i1,i2,i3,i4,i6⟩,o,oX,q,D,oY,u,G,v,J⟩:=aZ b h;clear h b;have K:cr (zP 188 #[oA (jg m g),Z U i.a] j (oA #[oy (aA g.vs i.a).1,oe (aA g.vs i.a).2])):=u.out j i.a (by rw[o.out];exact q.out) (v.out rfl);have pb:=gT;clear G v J u A;go_enter dp,dc
 go_wp2_with (first
  |(refine cc rfl 184 _ rfl N rfl 184 (jg m g) (0,0) _ D.out cj rfl (by kernel_rfl) ?_)
  |(go_at_call 188;refine K.out.mono ?_;rintro e w4 ⟨rfl,y⟩;have Y:=zH y;clear y)
  |(go_at_call 99;refine(av _ _ _).mono ?_;rintro e w9 ⟨rfl,rfl⟩))
 go_ret;rw[d.out,o.out];exact⟨rfl,q.out.trans (Y.out.mono (by omega))⟩
theorem zU (m:Mo)(g:Fn)(i:Ins)(w:World)(a:i.op=7)(h:bM w m g i):
  zP 189 #[oA (jg m g),oA i.cells] w (Z U (ak m g.vs i)):=by
 have o:cr (ak m g.vs i=gQ m g.vs i i.d od):=by
  unfold cr ak;rw[a];rfl
 obtain⟨R,q⟩:=zE (ak m g.vs i);rw[q] at o⊢;clear q;have b:=zH h;obtain⟨N,u,hN,oT,oX,oY,⟨i0,i1,i2,i3,i4,i6⟩,v,pb,y,G,J,K,A,f,Y⟩:=aZ a h;clear h a;have oR:cr (zP 227 #[oA (jg m g),oA i.cells,Z U i.d,oy od] u (Z U (gQ m g.vs i i.d od))):=
  iq m g i i.d od u (b.out.j.below (by rw[v.out];exact y.out)) (f.out rfl) (A.out rfl) (b.out.kn _ (f.out rfl))
 clear A f Y K b;go_enter dp,dc
 go_wp2_with (first
  |(refine cc rfl 184 _ rfl N rfl 184 (jg m g) (0,0) _ G.out cj rfl (by kernel_rfl) ?_)
  |(refine cc rfl 42 _ rfl (N+1) rfl 42 i.cells (0,0) _ J.out cT rfl (by kernel_rfl) ?_)
  |(go_at_call 227;refine oR.out.mono ?_;rintro e w4 ⟨rfl,D⟩;have oS:=zH D;clear D))
 go_ret;rw[o.out,v.out];exact⟨rfl,y.out.trans (oS.out.mono (by omega))⟩
theorem yQ (m:Mo)(g:Fn)(i:Ins)(w:World)(a:i.op=10)(h:bM w m g i):
  zP 189 #[oA (jg m g),oA i.cells] w (Z U (ak m g.vs i)):=by
 have o:cr (ak m g.vs i=gQ m g.vs i i.d oc):=by
  unfold cr ak;rw[a];rfl
 obtain⟨R,q⟩:=zE (ak m g.vs i);rw[q] at o⊢;clear q;have b:=zH h;obtain⟨N,u,hN,oT,oX,oY,⟨i0,i1,i2,i3,i4,i6⟩,v,pb,y,G,J,K,A,f,Y⟩:=aZ a h;clear h a;have oR:cr (zP 227 #[oA (jg m g),oA i.cells,Z U i.d,oy oc] u (Z U (gQ m g.vs i i.d oc))):=
  iq m g i i.d oc u (b.out.j.below (by rw[v.out];exact y.out)) (f.out rfl) (A.out rfl) (b.out.kn _ (f.out rfl))
 clear A f Y K b;go_enter dp,dc
 go_wp2_with (first
  |(refine cc rfl 184 _ rfl N rfl 184 (jg m g) (0,0) _ G.out cj rfl (by kernel_rfl) ?_)
  |(refine cc rfl 42 _ rfl (N+1) rfl 42 i.cells (0,0) _ J.out cT rfl (by kernel_rfl) ?_)
  |(go_at_call 227;refine oR.out.mono ?_;rintro e w4 ⟨rfl,D⟩;have oS:=zH D;clear D))
 go_ret;rw[o.out,v.out];exact⟨rfl,y.out.trans (oS.out.mono (by omega))⟩
theorem zV (m:Mo)(g:Fn)(i:Ins)(w:World)(a:i.op=8)(h:bM w m g i):
  zP 189 #[oA (jg m g),oA i.cells] w (Z U (ak m g.vs i)):=by
 have o:cr (ak m g.vs i=gQ m g.vs i i.b od):=by
  unfold cr ak;rw[a];rfl
 obtain⟨R,q⟩:=zE (ak m g.vs i);rw[q] at o⊢;clear q;have d:=zH h;obtain⟨N,u,hN,oT,oX,oY,⟨i0,i1,i2,i3,i4,i6⟩,v,pb,y,G,J,K,Y,f,A⟩:=aZ a h;clear h a;have oR:cr (zP 227 #[oA (jg m g),oA i.cells,Z U i.b,oy od] u (Z U (gQ m g.vs i i.b od))):=
  iq m g i i.b od u (d.out.j.below (by rw[v.out];exact y.out)) (f.out rfl) (A.out rfl) (d.out.kn _ (f.out rfl))
 clear Y f A K d;go_enter dp,dc
 go_wp2_with (first
  |(refine cc rfl 184 _ rfl N rfl 184 (jg m g) (0,0) _ G.out cj rfl (by kernel_rfl) ?_)
  |(refine cc rfl 42 _ rfl (N+1) rfl 42 i.cells (0,0) _ J.out cT rfl (by kernel_rfl) ?_)
  |(go_at_call 227;refine oR.out.mono ?_;rintro e w4 ⟨rfl,D⟩;have oS:=zH D;clear D))
 go_ret;rw[o.out,v.out];exact⟨rfl,y.out.trans (oS.out.mono (by omega))⟩
theorem yR (m:Mo)(g:Fn)(i:Ins)(w:World)(a:i.op=11)(h:bM w m g i):
  zP 189 #[oA (jg m g),oA i.cells] w (Z U (ak m g.vs i)):=by
 have o:cr (ak m g.vs i=gQ m g.vs i i.b oc):=by
  unfold cr ak;rw[a];rfl
 obtain⟨R,q⟩:=zE (ak m g.vs i);rw[q] at o⊢;clear q;have d:=zH h;obtain⟨N,u,hN,oT,oX,oY,⟨i0,i1,i2,i3,i4,i6⟩,v,pb,y,G,J,K,Y,f,A⟩:=aZ a h;clear h a;have oR:cr (zP 227 #[oA (jg m g),oA i.cells,Z U i.b,oy oc] u (Z U (gQ m g.vs i i.b oc))):=
  iq m g i i.b oc u (d.out.j.below (by rw[v.out];exact y.out)) (f.out rfl) (A.out rfl) (d.out.kn _ (f.out rfl))
 clear Y f A K d;go_enter dp,dc
 go_wp2_with (first
  |(refine cc rfl 184 _ rfl N rfl 184 (jg m g) (0,0) _ G.out cj rfl (by kernel_rfl) ?_)
  |(refine cc rfl 42 _ rfl (N+1) rfl 42 i.cells (0,0) _ J.out cT rfl (by kernel_rfl) ?_)
  |(go_at_call 227;refine oR.out.mono ?_;rintro e w4 ⟨rfl,D⟩;have oS:=zH D;clear D))
 go_ret;rw[o.out,v.out];exact⟨rfl,y.out.trans (oS.out.mono (by omega))⟩
end Go.Proofs.YtjomgckjhcfbgaaGreat
