/- Walks. -/
import Derived.Maps.AppendAt
import Derived.Deep.QuietTactic
import Derived.BigQuiet
import Derived.Test.YtjomgckjhcfbgaaGreatP0
set_option maxRecDepth 100000
set_option maxHeartbeats 64000000
set_option linter.all false
namespace Go.Proofs.YtjomgckjhcfbgaaGreat
open Go.RowKit
open Go.Proofs.Tryz renaming prog→am,underlying32→dT,underlying263→gC,underlying313→hZ,underlying40→ms,underlying113→oy
open _root_.List renaming getElem?_eq_getElem→ap,length_append→bm,getElem?_eq_some_iff→bo,mem_of_getElem?→ci,take_length→cL,eq_nil_of_length_eq_zero→cV,mem_append→dg,append_assoc→ei,map_append→et,append_nil→eA,flatMap_append→fS,any_eq_true→js,any_eq_false→j8,take_add_one→kA,take_of_length_le→ox
open Go.RowKit.Below renaming refl→aq,heap_alloc→cE,heap_setCell→cT
open _root_ renaming Int→aw,Nat→bj,ByteArray→bl,List→bp,if_neg→bw,decide_eq_false→cm,Option→cC,if_pos→cH,beq_eq_false_iff_ne→cN,decide_eq_true→cR,Array→dl,absurd→fz,False→lj,Bool→ml,of_decide_eq_true→mw,decide_eq_true_eq→oY,iff_of_false→pm
open Go.RowKit renaming Below→aE,Hid→cg,intOf→dp,ownsRow_setCell_below→ki
open Go renaming heap_setCell_same→bk,cell_of_row→bt,run_storeCells_new→cr,Value→cw,storeCells→dd,frozen_of_row→de,bodyPost_ret→dk,wpQuiet_nil→dr,maxLen→du,results_cell_row→er,Addr→fg,Calls→fj,beq_toListBytes→fx,TypeId→fX,heap_alloc2_new→im,run_underlying→i5,heap_alloc2_old→i8,Oper→kj,Program→km,info_parts→m6,wpList→pi,bytes→qt,wpList_plain→sL
open _root_.Nat renaming le_refl→cd,lt_of_lt_of_le→cD,zero_le→cM,le_trans→eN,add_zero→i7,not_lt_zero→nB
open Go.Value renaming oneCell'→cn,string→eM,int→eS,string→tm,slice→tn,pointer→tr,bool→tt,agg→tv,int→Z
open _root_.Option.some renaming inj→cy
open Go.Exit renaming inBlock→cQ
open Go.IntKind renaming i64→dt,i64→U
open _root_.Bool renaming and_eq_true→ej,true→ti,false→tj
open _root_.Option renaming map_eq_some_iff→gE,some→tf,none→th
open Go.Builtin renaming append_→it,firstCells→mB,lenOf→ph
open _root_.Int renaming natCast_add→jt
open Go.Result renaming andThen→lz
open Go.Oper renaming wp→mp
open _root_.ByteArray renaming size_extract→n5
open Go.ByteArray renaming toList_eq→oA
open Go.Ending renaming returned→py,returned→tB
open Go.Obj renaming cells→tA
open Tryz
theorem run_append_nil {P:km}(w:World)(base:bj)(t f e:fX)(i:TypeInfo)(size:bj)(d:P.underlying t=tf (.slice e))(hi:P.info? e=tf i)
  (v:cw)(n:bj)(xs:bp cw)(h:w.ownsRow base e size v n xs)(c:bj):(it #[t,t] f #[v,tn th 0 c]).run P w= .ok v w:=by
 rcases h.2 with⟨rfl,rfl⟩|⟨g,cap,o,rfl,_,_,j,_⟩
 ·simp[it,i5 d,sizeOf,typeInfo,hi,ph,mB]
 ·simp[it,i5 d,sizeOf,typeInfo,hi,ph,mB,j,dd]
theorem jv {P:km}{w:World}{ops:dl kj}{rest:bp kj}{o:kj}{a:Act}{Q:Exit->Act->World->Prop}(E:o.guard=th)(s x:Operand)(t:fX)
  (G:o.op= .call {callee:= .builtin .append,args:=#[s,x],argTypes:=#[t,t]})(base:bj)(e:fX)(i:TypeInfo)(z:cw)(size qt:bj)(A:P.underlying t=tf (.slice e))(hi:P.info? e=tf i)(J:i.zero=tf z)
  (R:i.size=size)(W:i.bytes=qt)(tD:z.cells.size=size)(tE:0<size)
  (v:cw)(n:bj)(xs:bp cw)(hs:a.eval s=v)(y:w.ownsRow base e size v n xs)
  (ao:cC fg)(m c:bj)(f:bp cw)(hx:a.eval x= tn ao m c)(hl:f.length=m*size)(tG:ao=th->m=0)(tM:∀g,ao=tf g->∀j u,f[j]?=tf u->w.cell? (g.add j)=tf u)(h1:∀u∈f,u.oneCell'=ti)
  (tP:n+m<=du)(tR:(n+m)*qt<=140737488355328)(tS:base<=w.heap.size)
  (h:∀d w',w'.ownsRow base e size d (n+m) (xs++f)->w.grownBy w' v.ownBlock->(∀k,d.ownBlock=tf k->v.ownBlock=tf k\/w.heap.size<=k)->pi P ops Q rest (a.put o.dst d) w'):pi P ops Q (o::rest) a w:=by
 refine sL E λK hK=> ?_;have tU:∃d w',(it #[t,t] o.type #[v,tn ao m c]).run P w= .ok d w'/\w'.ownsRow base e size d (n+m) (xs++f)/\w.grownBy w' v.ownBlock/\(∀k,d.ownBlock=tf k->v.ownBlock=tf k\/w.heap.size<=k):=by
  cases ao with
  |none=>
   obtain rfl:=tG rfl;have hn:f=[]:=cV (by omega);subst hn;exact⟨v,w,run_append_nil w base t o.type e i size A hi v n xs y c,by simpa using y,World.grownBy.refl w _,λk q=> .inl q⟩
  |some g=>
   obtain⟨d,w',r1,r2,r3,_,r5⟩:=run_append_own_at w base t o.type e i z size qt A hi J R W tD tE v n xs y g m c f hl (tM g rfl) h1 tP tR tS;refine⟨d,w',r1,r2,r3,λk q=> ?_⟩;rcases r5 with r5|r5
   ·exact .inl (by rw[<-r5];exact q)
   ·right;rw[r5] at q;simp at q;omega
 obtain⟨d,w',r1,r2,r3,r4⟩:=tU;unfold mp;simp[execOp,G,resolve,invoke,builtin,hs,hx,r1,lz];exact hK _ _ (h _ _ r2 r3 r4)
theorem gK (w:World)(e:fX)(size base:bj)(hb:base<=w.heap.size):(w.alloc (tA #[] e)).ownsRow base e size (tn (tf ⟨w.heap.size,0,th⟩) 0 0) 0 []:=
 World.ownsRow_made w #[] 0 hb (by unfold du;omega) (by simp)
theorem ai {w:World}{base:bj}{e:fX}{size n:bj}{v:cw}{xs:bp cw}(h:w.ownsRow base e size v n xs){k:bj}(d:v.ownBlock=tf k):base<=k/\k<w.heap.size:=h.lt k d
theorem ah {w w':World}{base:bj}{e:fX}{size n:bj}{v:cw}{xs:bp cw}{M:bj->Prop}(h:w.ownsRow base e size v n xs)(f:Ext M w w')(j:∀k,v.ownBlock=tf k->¬M k):w'.ownsRow base e size v n xs:=by
 refine⟨h.1, ?_⟩;rcases h.2 with o|⟨g,cap,q,d,t,u,x⟩
 ·exact .inl o
 ·refine .inr ⟨g,cap,q,d,t,f.heap u (j g (by rw[d];rfl)),x⟩
theorem aC {w:World}{base m f:bj}{e:fX}{v:cw}{xs:bp cw}(h:w.ownsRow base e f v m xs):∃ao cap,v= tn ao m cap:=by
 rcases h.2 with⟨d,j⟩|⟨g,cap,o,d,_⟩
 ·exact⟨th,0,by rw[j];exact d⟩
 ·exact⟨_,_,d⟩
theorem jw {P:km}{W:World}{ops:dl kj}{rest:bp kj}{o:kj}{a:Act}{Q:Exit->Act->World->Prop}(q:o.guard=th)(s x:Operand)(t:fX)
  (y:o.op= .call {callee:= .builtin .append,args:=#[s,x],argTypes:=#[t,t]})(base:bj)(e:fX)(i:TypeInfo)(z:cw)(size qt:bj)(A:P.underlying t=tf (.slice e))(hi:P.info? e=tf i)(E:i.zero=tf z)
  (G:i.size=size)(J:i.bytes=qt)(K:z.cells.size=size)(R:0<size)
  (v:cw)(n:bj)(xs:bp cw)(hs:a.eval s=v)(tD:W.ownsRow base e size v n xs)
  (B:bj)(d:dl cw)(hB:B=W.heap.size)(hx:a.eval x= tn (tf ⟨B,0,th⟩) 1 1)(tE:d.size=size)(h1:∀u∈d.toList,u.oneCell'=ti)
  (tG:n+1<=du)(tM:(n+1)*qt<=140737488355328)(tR:base<=W.heap.size)
  (h:∀f w',w'.ownsRow base e size f (n+1) (xs++d.toList)->Ext (λk=>v.ownBlock=tf k) W w'->(∀k,f.ownBlock=tf k->v.ownBlock=tf k\/W.heap.size<=k)->pi P ops Q rest (a.put o.dst f) w'):
  pi P ops Q (o::rest) a (W.alloc (tA d e)):=by
 subst hB;refine jv q s x t y base e i z size qt A hi E G J K R v n xs hs (tD.alloc _) (tf ⟨W.heap.size,0,th⟩) 1 1 d.toList hx (by simp[tE]) (λh=>by cases h)
  (λad tP j u hu=> ?_) h1 tG tM (by rw[World.size_alloc];omega) (λf w' r1 r2 r3=> ?_)
 ·obtain rfl:(⟨W.heap.size,0,th⟩:fg)=ad:=by simpa using tP
  have:=lF W d.toList e j u hu;simpa using this
 ·refine h f w' r1 ?_ (λk g=> ?_)
  ·refine⟨r2.os,r2.tape,r2.output,by have:=r2.size;rw[World.size_alloc] at this;omega,λk g hn=> ?_⟩
   rw[r2.block k (by rw[World.size_alloc];omega) (λe=>hn e.symm)];exact cE W _ k g
  ·rcases r3 k g with h|h
   ·exact .inl h
   ·right;rw[World.size_alloc] at h;omega
theorem aG {P:km}{w:World}{o:kj}{a:Act}{Q:Exit->Act->World->Prop}{K:Act->World->Prop}(s x:Operand)(t:fX)
  (E:o.op= .call {callee:= .builtin .append,args:=#[s,x],argTypes:=#[t,t]})(base:bj)(e:fX)(i:TypeInfo)(z:cw)(size qt:bj)(A:P.underlying t=tf (.slice e))(hi:P.info? e=tf i)(G:i.zero=tf z)
  (J:i.size=size)(R:i.bytes=qt)(W:z.cells.size=size)(tD:0<size)
  (v:cw)(n:bj)(xs:bp cw)(hs:a.eval s=v)(y:w.ownsRow base e size v n xs)
  (ao:cC fg)(m c:bj)(f:bp cw)(hx:a.eval x= tn ao m c)(hl:f.length=m*size)(tE:ao=th->m=0)(tG:∀g,ao=tf g->∀j u,f[j]?=tf u->w.cell? (g.add j)=tf u)(h1:∀u∈f,u.oneCell'=ti)
  (tM:n+m<=du)(tP:(n+m)*qt<=140737488355328)(tR:base<=w.heap.size)
  (h:∀d w',w'.ownsRow base e size d (n+m) (xs++f)->w.grownBy w' v.ownBlock->(∀k,d.ownBlock=tf k->v.ownBlock=tf k\/w.heap.size<=k)->K (a.put o.dst d) w'):mp P o a w K Q:=by
 have tS:∃d w',(it #[t,t] o.type #[v,tn ao m c]).run P w= .ok d w'/\w'.ownsRow base e size d (n+m) (xs++f)/\w.grownBy w' v.ownBlock/\(∀k,d.ownBlock=tf k->v.ownBlock=tf k\/w.heap.size<=k):=by
  cases ao with
  |none=>
   obtain rfl:=tE rfl;have hn:f=[]:=cV (by omega);subst hn;exact⟨v,w,run_append_nil w base t o.type e i size A hi v n xs y c,by simpa using y,World.grownBy.refl w _,λk q=> .inl q⟩
  |some g=>
   obtain⟨d,w',r1,r2,r3,_,r5⟩:=run_append_own_at w base t o.type e i z size qt A hi G J R W tD v n xs y g m c f hl (tG g rfl) h1 tM tP tR;refine⟨d,w',r1,r2,r3,λk q=> ?_⟩;rcases r5 with r5|r5
   ·exact .inl (by rw[<-r5];exact q)
   ·right;rw[r5] at q;simp at q;omega
 obtain⟨d,w',r1,r2,r3,r4⟩:=tS;unfold mp;simp[execOp,E,resolve,invoke,builtin,hs,hx,r1,lz];exact h _ _ r2 r3 r4
def eH (c:aw):ml:=decide (65<=c)&&decide (c<=90)||decide (97<=c)&&decide (c<=122)||decide (c=95)
def iZ (c:aw):ml:=decide (48<=c)&&decide (c<=57)
def eu (s:bl)(i:bj):aw:=if h:i<s.size then((s[i]'h).toNat:aw) else 0
theorem fO {b:ml}{p:Prop}{x:ml}(d:x=ti↔p)(h:b=ti↔p):py (tt b)= tB (tt x):=by
 rw[Bool.eq_iff_iff.2 (h.trans d.symm)]
theorem Ay (c:aw):eH c=ti↔(65<=c/\c<=90\/97<=c/\c<=122)\/c=95:=by unfold eH;simp
theorem vv (c:aw):iZ c=ti↔48<=c/\c<=57:=by unfold iZ;simp
theorem fP (c:aw)(w:World):zS 203 #[.int .u8 c] w (tt (eH c)):=by
 have d:=zH (Ay c);go_enter func203,ntmps203
 by_cases j:65<=c
 ·by_cases o:c<=90
  ·go_wp2
   go_ret;exact⟨fO d.out (iff_of_true rfl (by omega)),rfl⟩
  ·by_cases g:97<=c
   ·by_cases q:c<=122
    ·go_wp2
     go_ret;exact⟨fO d.out (iff_of_true rfl (by omega)),rfl⟩
    ·have e:(c==95)=tj:=by rw[cN];omega
     go_wp2;go_ret;exact⟨fO d.out (pm (λh=>by cases h) (by omega)),rfl⟩
   ·by_cases f:c=95
    ·subst f
     go_wp2;go_ret;exact⟨fO d.out (iff_of_true rfl (by simp)),rfl⟩
    ·have e:(c==95)=tj:=by rw[cN];exact f
     go_wp2;go_ret;exact⟨fO d.out (pm (λh=>by cases h) (by omega)),rfl⟩
 ·have g:¬97<=c:=by omega
  have e:(c==95)=tj:=by rw[cN];omega
  go_wp2;go_ret;exact⟨fO d.out (pm (λh=>by cases h) (by omega)),rfl⟩
theorem jy (c:aw)(w:World):zS 204 #[.int .u8 c] w (tt (iZ c)):=by
 have d:=zH (vv c);go_enter func204,ntmps204
 by_cases e:48<=c
 ·by_cases f:c<=57
  ·go_wp2
   go_ret;exact⟨fO d.out (iff_of_true rfl (by omega)),rfl⟩
  ·go_wp2
   go_ret;exact⟨fO d.out (pm (λh=>by cases h) (by omega)),rfl⟩
 ·go_wp2
  go_ret;exact⟨fO d.out (pm (λh=>by cases h) (by omega)),rfl⟩
def iB:bp bl:=[⟨#[105,110,116]⟩,⟨#[115,116,114,117,99,116]⟩,⟨#[105,102]⟩,⟨#[101,108,115,101]⟩,⟨#[119,104,105,108,101]⟩,⟨#[98,114,101,97,107]⟩,⟨#[99,111,110,116,105,110,117,101]⟩,⟨#[114,101,116,117,114,110]⟩,⟨#[102,114,101,101]⟩,⟨#[112,117,116]⟩,⟨#[110,101,119]⟩,⟨#[110,117,108,108]⟩,⟨#[103,101,116]⟩]
theorem tT (w:World):fj am 240 #[] w λe w'=>e= tB (tn (tf ⟨w.heap.size,0,th⟩) 13 13)/\w'=w.alloc (tA (iB.map eM).toArray 9):=by
 have d:(iB.map eM).toArray=#[tm ⟨#[105,110,116]⟩,tm ⟨#[115,116,114,117,99,116]⟩,tm ⟨#[105,102]⟩,tm ⟨#[101,108,115,101]⟩,tm ⟨#[119,104,105,108,101]⟩,tm ⟨#[98,114,101,97,107]⟩,tm ⟨#[99,111,110,116,105,110,117,101]⟩,tm ⟨#[114,101,116,117,114,110]⟩,tm ⟨#[102,114,101,101]⟩,tm ⟨#[112,117,116]⟩,tm ⟨#[110,101,119]⟩,tm ⟨#[110,117,108,108]⟩,tm ⟨#[103,101,116]⟩]:=rfl;rw[d];clear d;go_enter func240,ntmps240;go_wp2;go_ret;exact⟨rfl,rfl⟩
def iD (s:bl):ml:=iB.any λx=>x==s
theorem wB (s:bl)(w:World):zP 205 #[tm s] w (tt (iD s)):=by
 obtain⟨N,q⟩:=zE w.heap.size;obtain⟨W1,g⟩:=zE (w.alloc (tA (iB.map eM).toArray 9));have z:=zH (tT w);rw[q,g] at z;have t:=ik g q;have A:W1.heap[N]?=tf (tA (iB.map eM).toArray 9 (0,0)):=by rw[<-g,<-q];exact alloc_at _ _
 have R:cg (∀(j:bj)(x:bl),iB[j]?=tf x->W1.cell? ⟨N,j,th⟩=tf (tm x)):=λj x f=>by
  rw[bt _ _ _ _ _ _ A];simp[f]
 have HB:=zH t;have E:cg (iB.length=13):=rfl;have G:cg (∀b:ml,b=iD s->(py (tt b)= tB (tt (iD s))/\aE N w W1)):=λb hb=>by rw[hb];exact⟨rfl,t⟩
 clear g t A;go_enter func205,ntmps205
 go_wp2_with (go_at_call 240;refine z.out.mono ?_;rintro e w2 ⟨rfl,rfl⟩)
 go_loop [4] (λk=>∃j:bj,j<=13/\k= Z U (j:aw)/\∀x∈iB.take j,(x==s)=tj) (λk=>13-(dp k).toNat)
 case atStart=>exact⟨0,cM _,rfl,by simp⟩
 case round=>
  obtain⟨j,hj,rfl,o⟩:=hrel
  by_cases W:j<13
  ·obtain⟨y,u⟩:∃y,iB[j]?=tf y:=⟨_,ap (by rw[E.out];exact W)⟩
   have d1:=R.out j y u;have tE:(j:aw)<13:=by omega
   obtain⟨d,v⟩:=zE (y==s);have hd:(y.toList==s.toList)=d:=by rw[<-fx];exact v
   have HZ:=zH o;have J:=zH u;have K:=zH v;clear u o v;cases d with
   |true=>
    go_wp2;go_ret;refine G.out ti ?_;unfold iD;exact(js.2 ⟨y,ci J.out,K.out⟩).symm
   |false=>
    go_wp2
    go_round
    case rel=>
     refine⟨j+1,by omega,by go_num,λx f=> ?_⟩;rw[kA,J.out] at f;rcases dg.1 f with h|h
     ·exact HZ.out x h
     ·have e:x=y:=by simpa using h
      rw[e];exact K.out
    case measure=>simp[dp];omega
  ·have tD:j=13:=by omega
   subst tD;have HM:cg (tj=iD s):=by
    unfold cg iD;rw[eq_comm,j8];intro x f;have:=o x (by rw[ox (by rw[E.out];exact cd _)];exact f);rw[this];simp
   clear o;go_wp2;go_ret;exact G.out tj HM.out
def isSp (c:aw):ml:=c==32||c==9||c==10
def fF (s:bl):bj->bj->bj
 |0,i=>i
 |n+1,i=>if isSp (eu s i)=ti then fF s n (i+1) else i
def bX (s:bl):bj->bj->bj
 |0,k=>k
 |n+1,k=>if (eH (eu s k)||iZ (eu s k))=ti then bX s n (k+1) else k
theorem kU (s:bl):∀(n i:bj),i<=fF s n i/\fF s n i<=i+n
 |0,i=>by simp[fF]
 |n+1,i=>by
  unfold fF
  split
  ·have:=kU s n (i+1);omega
  ·omega
theorem gL (s:bl):∀(n i:bj),i<=bX s n i/\bX s n i<=i+n
 |0,i=>by simp[bX]
 |n+1,i=>by
  unfold bX
  split
  ·have:=gL s n (i+1);omega
  ·omega
def fw:bp bl:=[⟨#[45,62]⟩,⟨#[60,61]⟩,⟨#[62,61]⟩,⟨#[61,61]⟩,⟨#[33,61]⟩,⟨#[43]⟩,⟨#[45]⟩,⟨#[42]⟩,⟨#[47]⟩,⟨#[37]⟩,⟨#[60]⟩,⟨#[62]⟩,⟨#[33]⟩,⟨#[61]⟩,⟨#[40]⟩,⟨#[41]⟩,⟨#[123]⟩,⟨#[125]⟩,⟨#[44]⟩,⟨#[59]⟩]
structure Tok where
 kind:aw
 text:bl
 n:aw
 ln:aw
 cl:aw
def Tok.cells (t:Tok):dl cw:=#[Z U t.kind,tm t.text,Z U t.n,Z U t.ln,Z U t.cl]
abbrev Am:=aw×bl×aw
def Tok.sig (t:Tok):Am:=(t.kind,t.text,t.n)
def fQ (s:bl)(i:bj)(g:bl):ml:=decide (g.size<=s.size-i)&&(s.extract i (i+g.size)==g)
def Az (s:bl)(i:bj):cC Am:=
 if eH (eu s i)=ti then
  (if bX s (s.size-i) i<=i+40 then tf (if iD (s.extract i (bX s (s.size-i) i))=ti then 2 else 1,s.extract i (bX s (s.size-i) i),0) else th)
 else if iZ (eu s i)=ti then
  (if i+1<s.size/\(iZ (eu s (i+1))||eH (eu s (i+1)))=tj then tf (3,s.extract i (i+1),eu s i-48) else th)
 else(fw.find? (fQ s i)).map λg=>(4,g,0)
def kV (s:bl):bj->bj->cC (bp Am)
 |0,_=>th
 |n+1,i=>if i<s.size then(match Az s i with
   |some t=>(kV s n (fF s (s.size-(i+t.2.1.size)) (i+t.2.1.size))).map (t::·)
   |none=>th)
  else tf []
theorem jI {s:bl}{j:bj}(h:j<s.size):((s[j]'h).toNat:aw)=eu s j:=by unfold eu;rw[dif_pos h]
def nD (s:bl):Prop:=∀i,eu s i≠47
theorem wF (s:bl)(i:bj)(w:World)(z:nD s)(hs:s.size<=9000000)(hi:i<=s.size):
  zS 166 #[tm s,Z U (i:aw)] w (Z U (fF s (s.size-i) i:bj)):=by
 obtain⟨R,t⟩:=zE (fF s (s.size-i) i);rw[t];have J:=zH z;have u:=zH t;clear z t;go_enter func166,ntmps166;go_wp2
 go_loop [1] (λk=>∃j:bj,j<=s.size/\k= Z U (j:aw)/\fF s (s.size-j) j=R) (λk=>s.size-(dp k).toNat)
 case atStart=>exact⟨i,hi,rfl,u.out⟩
 case round=>
  obtain⟨j,hj,rfl,d⟩:=hrel
  by_cases A:j<s.size
  ·have tG:(j:aw)<(s.size:aw):=by omega
   obtain⟨c,f⟩:=zE (((s[j]'A).toNat:aw):aw);have g:eu s j=c:=by rw[<-jI A];exact f
   have v:c≠47:=by rw[<-g];exact J.out j
   have x:s.size-j=s.size-(j+1)+1:=by omega
   rw[x] at d;unfold fF at d;rw[g] at d;have f47:(c==47)=tj:=by rw[cN];exact v
   by_cases e:isSp c=ti
   ·rw[cH e] at d
    have E:=zH d;unfold isSp at e;obtain⟨K,h⟩:=zE (c==32);obtain⟨W,o⟩:=zE (c==9);obtain⟨b3,q⟩:=zE (c==10);rw[h,o,q] at e;have G:=zH e;clear d e g v f47 x;rw[<-f] at h o q;clear f;have HN:cg (∃k:bj,k<=s.size/\eS .i64 ((j:aw)+1)= Z U (k:aw)/\fF s (s.size-k) k=R):=⟨j+1,by omega,by simp,E.out⟩
    clear E;cases K<;>cases W<;>cases b3<;>first
     |(exact fz G.out (by decide))
     |(clear G;go_wp2;go_round;case rel=>exact HN.out
       case measure=>simp[dp];omega)
   ·rw[bw e] at d
    subst d;have y:isSp c=tj:=by simpa using e
    unfold isSp at y;simp only[Bool.or_eq_false_iff] at y;obtain⟨⟨h,o⟩,q⟩:=y;clear e g v x u;rw[<-f] at h o q f47;clear f
    by_cases tM:j+1<s.size
    ·have tD:(j:aw)+1<(s.size:aw):=by omega
     go_wp2;go_ret;exact⟨rfl,rfl⟩
    ·have tD:¬(j:aw)+1<(s.size:aw):=by omega
     go_wp2;go_ret;exact⟨rfl,rfl⟩
  ·have tE:j=s.size:=by omega
   subst tE;rw[Nat.sub_self] at d;unfold fF at d;subst d;clear u;go_wp2;go_ret;exact⟨rfl,rfl⟩
def BX (w:World)(e:Ending)(w':World):Prop:=∃a b:aw,e= tB (tv #[Z U a,Z U b])/\0<=a/\a<=9000001/\0<=b/\b<=9000001/\aE w.heap.size w w'
def FZ (W:World)(N:bj)(w:World)(j:bj)(wr:World):Prop:=∃a b:aw,0<=a/\a<=(j:aw)+1/\0<=b/\b<=(j:aw)+1/\wr.heap[N]?=tf (tA #[Z U 0,Z U 0] 40 (0,0))/\wr.heap[N+1]?=tf (tA #[Z U a,Z U b] 40 (0,0))/\aE N w wr/\wr.heap.size=W.heap.size
theorem tV (s:bl)(n:bj)(w:World)(R:s.size<=9000000)(W:n<=s.size):
  fj am 167 #[tm s,Z U (n:aw)] w (BX w):=by
 obtain⟨N,d⟩:=zE w.heap.size;have hst:∀(w:World)(c:dl cw),c.size=2->(dd ⟨w.heap.size,0,th⟩ [Z U 1,Z U 1] 0).run am (w.alloc (tA c 40))= .ok () (w.alloc (tA #[Z U 1,Z U 1] 40)):=λw c z=>
  cr (P:=am) w 40 c #[Z U 1,Z U 1] (by show _=tf 2;kernel_rfl) z (by simp[cn])
 go_enter func167,ntmps167;go_wp2;clear hst;obtain⟨W1,e⟩:=zE ((w.alloc (tA #[Z U 0,Z U 0] 40)).alloc (tA #[Z U 1,Z U 1] 40));have h0:FZ W1 N w 0 W1:=⟨1,1,by omega,by omega,by omega,by omega,by rw[<-e,<-d];exact i8 _ _ _,by rw[<-e,<-d];exact im _ _ _,by rw[<-e,<-d];exact((aq _ _).alloc (cd _) _).alloc (by simp) _,rfl⟩
 rw[e];have o:N+1<W1.heap.size:=by rw[<-e];simp[d]
 have A:=zH d;have E:=zH h0;have tD:=zH o;clear e d h0 o
 go_loopw [6] (λk wr=>∃j:bj,j<=n/\k= Z U (j:aw)/\FZ W1 N w j wr) (λk _=>n-(dp k).toNat)
 case atStart=>exact⟨0,cM _,rfl,E.out⟩
 case round=>
  obtain⟨j,hj,rfl,a,b,G,ha,J,hb,f,r1,q,t⟩:=hrel;have g:=zH q;have u:=zH t;have c0:=zR r1 0 (Z U a);have c1:=zR r1 1 (Z U b);have f0:wr.frozen? ⟨N+1,0,th⟩=tj:=de _ _ _ _ _ r1;have f1:wr.frozen? ⟨N+1,1,th⟩=tj:=de _ _ _ _ _ r1;have k0:=zR f 0 (Z U 0);have k1:=zR f 1 (Z U 0);have g0:wr.frozen? ⟨N,0,th⟩=tj:=de _ _ _ _ _ f;have g1:wr.frozen? ⟨N,1,th⟩=tj:=de _ _ _ _ _ f;have h:=zH f;have v:=zH r1;clear q t f r1
  by_cases tE:j<n
  ·have K:(j:aw)<(n:aw):=by omega
   have x:j<s.size:=by omega
   by_cases y:(((s[j]'x).toNat:aw)==10)=ti
   ·go_wp2
    go_roundw
    case rel=>
     refine⟨j+1,by omega,by go_num,a+1,1,by omega,by omega,by omega,by omega, ?_,aW v.out, ?_, ?_⟩
     ·exact(cT _ _ _ N (by show N≠N+1;omega)).trans ((cT _ _ _ N (by show N≠N+1;omega)).trans h.out)
     ·exact(g.out.setCell (by show N<=N+1;omega) _).setCell (by show N<=N+1;omega) _
     ·simp[u.out]
    case measure=>simp[dp];omega
   ·have tG:(((s[j]'x).toNat:aw)==10)=tj:=by simpa using y
    clear y;go_wp2;go_roundw
    case rel=>
     refine⟨j+1,by omega,by go_num,a,b+1,by omega,by omega,by omega,by omega, ?_, ?_, ?_, ?_⟩
     ·exact(cT _ _ _ N (by show N≠N+1;omega)).trans h.out
     ·have:=bk wr (N+1) 1 _ _ (Z U (b+1)) v.out;simpa using this
     ·exact g.out.setCell (by show N<=N+1;omega) _
     ·simp[u.out]
    case measure=>simp[dp];omega
  ·have K:¬(j:aw)<(n:aw):=by omega
   have tM:a<=9000001:=by omega
   go_wp2;(try simp only[cQ,Exit.then]);refine dk (er (P:=am) rfl _ _ N 40 _ (0,0) _ rfl (aW h.out) ms rfl (by kernel_rfl)) rfl ?_;refine⟨a,b,rfl,G,by omega,J,by omega, ?_⟩;rw[A.out];exact(g.out.setCell (by show N<=N;omega) _).setCell (by show N<=N;omega) _
def Cx (k:aw)(s:bl)(n:aw):cw:= tv #[Z U k,tm s,Z U n,Z U 0,Z U 0]
theorem AA (s:bl)(i:bj)(w:World)(hs:s.size<=9000000)(hi:i<s.size)(hl:eH (eu s i)=ti)(vx:bX s (s.size-i) i<=i+40):
  zP 168 #[tm s,Z U (i:aw)] w (.tuple #[Cx (if iD (s.extract i (bX s (s.size-i) i))=ti then 2 else 1) (s.extract i (bX s (s.size-i) i)) 0,Z U 0]):=by
 obtain⟨R,hR⟩:=zE (bX s (s.size-i) i);have ua:=gL s (s.size-i) i;rw[hR] at ua vx⊢;have wl:=ua.1;have ws:R<=s.size:=by omega
 obtain⟨G,ub⟩:=zE (iD (s.extract i R));rw[ub];obtain⟨kd,uc⟩:=zE ((if G=ti then 2 else 1):aw);rw[uc];have J:=zH (λW=>wB (s.extract i R) W);rw[ub] at J;have vc:=zH uc;have HR:=zH hR;have vd:=jI hi;obtain⟨c,K⟩:=zE (((s[i]'hi).toNat:aw):aw);have vf:=zH (λW=>fP c W);have vh:eH c=ti:=by rw[<-K,vd];exact hl
 rw[vh] at vf;have HC:=zH K;have vy:=zH λc W=>fP c W;have we:cg (∀(c:aw)(W:World),zS 204 #[.int .u8 c] W (tt (iZ c))):=λc W=>jy c W;obtain⟨N,hN⟩:=zE w.heap.size;obtain⟨W1,tD⟩:=zE (w.alloc (tA #[Z U 0,tm ⟨#[]⟩,Z U 0,Z U 0,Z U 0] 263));obtain⟨q,t⟩:=zE (W1.alloc (tA #[Z U 1,tm (s.extract i R),Z U 0,Z U 0,Z U 0] 263));have vm:=ik tD hN;have tM:W1.heap.size=N+1:=by rw[<-tD];simp[hN]
 have A:aE N w q:=by rw[<-t];exact vm.alloc (by omega) _
 have wg:q.heap.size=N+2:=by rw[<-t];simp[tM]
 have vp:q.heap[N]?=tf (tA #[Z U 0,tm ⟨#[]⟩,Z U 0,Z U 0,Z U 0] 263 (0,0)):=by rw[<-t,<-tD,<-hN];exact i8 _ _ _
 have vq:q.heap[N+1]?=tf (tA #[Z U 1,tm (s.extract i R),Z U 0,Z U 0,Z U 0] 263 (0,0)):=by rw[<-t,<-tM];exact alloc_at _ _
 have E:cg (∀W,aE q.heap.size q W->W.heap[N]?=tf (tA #[Z U 0,tm ⟨#[]⟩,Z U 0,Z U 0,Z U 0] 263 (0,0))/\W.heap[N+1]?=tf (tA #[Z U 1,tm (s.extract i R),Z U 0,Z U 0,Z U 0] 263 (0,0))/\aE N w W):=λW hW=>
  ⟨(hW.block N (by omega)).trans vp,(hW.block (N+1) (by omega)).trans vq,A.trans (hW.mono (by omega))⟩
 have hst:∀(c:dl cw),c.size=5->(dd ⟨W1.heap.size,0,th⟩ [Z U 1,tm (s.extract i R),Z U 0,Z U 0,Z U 0] 0).run am (W1.alloc (tA c 263))= .ok () q:=λc K=>by
  rw[<-t];exact cr (P:=am) W1 263 c #[Z U 1,tm (s.extract i R),Z U 0,Z U 0,Z U 0] (by show _=tf 5;kernel_rfl) K (by simp[cn])
 have vr:=zH hst;have vt:=zH tM;have wj:=zH tD;have tP:=zH t;have HN:=zH hN;clear hR ua ub uc vd K vh hl hst tD t vm A tM wg vp vq;go_enter func168,ntmps168
 go_wp2_with (go_at_call 203;(try rw[HC.out]);refine(vf.out _).mono ?_;rintro e w2 ⟨rfl,rfl⟩)
 rw[wj.out]
 go_loop [6] (λk=>∃j:bj,j<=s.size/\k= Z U (j:aw)/\bX s (s.size-j) j=R) (λk=>s.size-(dp k).toNat)
 case atStart=>exact⟨i,by omega,rfl,HR.out⟩
 case round=>
  obtain⟨j,hj,rfl,u⟩:=hrel;have tR:cg (bX s (s.size-j) j=j->j=R):=λh=>h.symm.trans u
  by_cases ud:j<s.size
  ·have xf:(j:aw)<(s.size:aw):=by omega
   obtain⟨c2,ue⟩:=zE (((s[j]'ud).toNat:aw):aw);have up:eu s j=c2:=by rw[<-jI ud];exact ue
   have ur:s.size-j=s.size-(j+1)+1:=by omega
   have v:=zH ue;have tE:=zH (vy.out c2);have tS:=zH (we.out c2);obtain⟨lf,tU⟩:=zE (eH c2);obtain⟨df,tW⟩:=zE (iZ c2);rw[tU] at tE;rw[tW] at tS;have uv:cg ((lf||df)=ti->∃j':bj,j'<=s.size/\eS .i64 ((j:aw)+1)= Z U (j':aw)/\bX s (s.size-j') j'=R):=λh=>⟨j+1,ud,by simp,by
    rw[ur] at u;unfold bX at u;rw[up,tU,tW,cH h] at u;exact u⟩
   have vu:cg ((lf||df)=tj->j=R):=λh=>tR.out (by
    rw[ur];unfold bX;rw[up,tU,tW,h];simp)
   clear u ue up tU tW ur tR;cases lf with
   |true=>
    go_wp2_with (go_at_call 203;(try rw[v.out]);refine(tE.out _).mono ?_;rintro e w4 ⟨rfl,rfl⟩)
    go_round
    case rel=>exact uv.out rfl
    case measure=>simp[dp];omega
   |false=>
    cases df with
    |true=>
     go_wp2_with (first
      |(go_at_call 203;(try rw[v.out]);refine(tE.out _).mono ?_;rintro e w4 ⟨rfl,rfl⟩)
      |(go_at_call 204;(try rw[v.out]);refine(tS.out _).mono ?_;rintro e w5 ⟨rfl,rfl⟩))
     go_round
     case rel=>exact uv.out rfl
     case measure=>simp[dp];omega
    |false=>
     obtain rfl:j=R:=vu.out rfl;clear uv vu;obtain⟨d,f,A⟩:=E.out q (aq _ _);obtain⟨⟨a0,a1,a2,a3,a4⟩,⟨b0,b1,b2,b3,b4⟩,tG⟩:=eZ f;clear d f A;have hst:=vr.out;have wk:=vt.out;obtain rfl:kd=if G=ti then 2 else 1:=vc.out.symm
     cases G with
     |false=>
      go_wp2_with (first
       |(go_at_call 203;(try rw[v.out]);refine(tE.out _).mono ?_;rintro e w4 ⟨rfl,rfl⟩)
       |(go_at_call 204;(try rw[v.out]);refine(tS.out _).mono ?_;rintro e w5 ⟨rfl,rfl⟩)
       |(go_at_call 205;refine(J.out _).mono ?_;rintro e x ⟨rfl,g⟩;(try rw[tP.out] at g);obtain⟨d,f,o⟩:=E.out x g;obtain⟨⟨a0,a1,a2,a3,a4⟩,⟨b0,b1,b2,b3,b4⟩,tG⟩:=eZ f;obtain⟨⟨g0,g1,g2,g3,g4⟩,⟨f0,f1,f2,f3,f4⟩,ux⟩:=eZ d;have y:=zH d;have z:=zH o;clear g d f o))
      (try simp only[cQ,Exit.then]);refine dk (aM rfl _ _ N 263 _ (0,0) _ rfl (iY y.out) gC (by kernel_rfl)) rfl ?_;(try rw[HN.out]);exact⟨rfl,fD z.out (cd _) _ _ _ _ _⟩
     |true=>
      go_wp2_with (first
       |(go_at_call 203;(try rw[v.out]);refine(tE.out _).mono ?_;rintro e w4 ⟨rfl,rfl⟩)
       |(go_at_call 204;(try rw[v.out]);refine(tS.out _).mono ?_;rintro e w5 ⟨rfl,rfl⟩)
       |(go_at_call 205;refine(J.out _).mono ?_;rintro e x ⟨rfl,g⟩;(try rw[tP.out] at g);obtain⟨d,f,o⟩:=E.out x g;obtain⟨⟨a0,a1,a2,a3,a4⟩,⟨b0,b1,b2,b3,b4⟩,tG⟩:=eZ f;obtain⟨⟨g0,g1,g2,g3,g4⟩,⟨f0,f1,f2,f3,f4⟩,ux⟩:=eZ d;have y:=zH d;have z:=zH o;clear g d f o))
      (try simp only[cQ,Exit.then]);refine dk (aM rfl _ _ N 263 _ (0,0) _ rfl (iY ((cT _ _ _ N (by show N≠N+1;omega)).trans y.out)) gC (by kernel_rfl)) rfl ?_;(try rw[HN.out]);exact⟨rfl,fD (z.out.setCell (by show N<=N+1;omega) _) (cd _) _ _ _ _ _⟩
  ·obtain rfl:j=s.size:=by omega
   obtain rfl:s.size=R:=tR.out (by rw[Nat.sub_self];rfl);clear u tR;obtain⟨d,f,A⟩:=E.out q (aq _ _);obtain⟨⟨a0,a1,a2,a3,a4⟩,⟨b0,b1,b2,b3,b4⟩,tG⟩:=eZ f;clear d f A;have hst:=vr.out;have wk:=vt.out;obtain rfl:kd=if G=ti then 2 else 1:=vc.out.symm
   cases G with
   |false=>
    go_wp2_with (first
     |(go_at_call 205;refine(J.out _).mono ?_;rintro e x ⟨rfl,g⟩;(try rw[tP.out] at g);obtain⟨d,f,o⟩:=E.out x g;obtain⟨⟨a0,a1,a2,a3,a4⟩,⟨b0,b1,b2,b3,b4⟩,tG⟩:=eZ f;obtain⟨⟨g0,g1,g2,g3,g4⟩,⟨f0,f1,f2,f3,f4⟩,ux⟩:=eZ d;have y:=zH d;have z:=zH o;clear g d f o))
    (try simp only[cQ,Exit.then]);refine dk (aM rfl _ _ N 263 _ (0,0) _ rfl (iY y.out) gC (by kernel_rfl)) rfl ?_;(try rw[HN.out]);exact⟨rfl,fD z.out (cd _) _ _ _ _ _⟩
   |true=>
    go_wp2_with (first
     |(go_at_call 205;refine(J.out _).mono ?_;rintro e x ⟨rfl,g⟩;(try rw[tP.out] at g);obtain⟨d,f,o⟩:=E.out x g;obtain⟨⟨a0,a1,a2,a3,a4⟩,⟨b0,b1,b2,b3,b4⟩,tG⟩:=eZ f;obtain⟨⟨g0,g1,g2,g3,g4⟩,⟨f0,f1,f2,f3,f4⟩,ux⟩:=eZ d;have y:=zH d;have z:=zH o;clear g d f o))
    (try simp only[cQ,Exit.then]);refine dk (aM rfl _ _ N 263 _ (0,0) _ rfl (iY ((cT _ _ _ N (by show N≠N+1;omega)).trans y.out)) gC (by kernel_rfl)) rfl ?_;(try rw[HN.out]);exact⟨rfl,fD (z.out.setCell (by show N<=N+1;omega) _) (cd _) _ _ _ _ _⟩
theorem yz (s:bl)(i:bj)(w:World)(hs:s.size<=9000000)(hi:i+1<s.size)(v:eH (eu s i)=tj)(q:iZ (eu s i)=ti)(x:eH (eu s (i+1))=tj)(y:iZ (eu s (i+1))=tj):
  zP 168 #[tm s,Z U (i:aw)] w (.tuple #[Cx 3 (s.extract i (i+1)) (eu s i-48),Z U 0]):=by
 have h:i<s.size:=by omega
 have K:=jI h;have R:=jI hi;obtain⟨c,z⟩:=zE (((s[i]'h).toNat:aw):aw);obtain⟨d,A⟩:=zE (((s[i+1]'hi).toNat:aw):aw);rw[<-K,z] at v q⊢;rw[<-R,A] at x y;have tD:=zH (λW=>fP c W);have E:=zH (λW=>jy c W);have tE:=zH (λW=>fP d W);have tG:=zH (λW=>jy d W);rw[v] at tD;rw[q] at E;rw[x] at tE;rw[y] at tG;have j:=zH z;have HD:=zH A;obtain⟨ue,up⟩:=(vv c).1 q;obtain⟨N,o⟩:=zE w.heap.size;obtain⟨W1,f⟩:=zE (w.alloc (tA #[Z U 0,tm ⟨#[]⟩,Z U 0,Z U 0,Z U 0] 263));obtain⟨t,g⟩:=zE (W1.alloc (tA #[Z U 3,tm (s.extract i (i+1)),Z U (c-48),Z U 0,Z U 0] 263));have G:=ik f o;have J:W1.heap.size=N+1:=by rw[<-f];simp[o]
 have tS:aE N w t:=by rw[<-g];exact G.alloc (by omega) _
 have tM:t.heap[N]?=tf (tA #[Z U 0,tm ⟨#[]⟩,Z U 0,Z U 0,Z U 0] 263 (0,0)):=by rw[<-g,<-f,<-o];exact i8 _ _ _
 have tP:t.heap[N+1]?=tf (tA #[Z U 3,tm (s.extract i (i+1)),Z U (c-48),Z U 0,Z U 0] 263 (0,0)):=by rw[<-g,<-J];exact alloc_at _ _
 have hst:∀(u:dl cw),u.size=5->(dd ⟨W1.heap.size,0,th⟩ [Z U 3,tm (s.extract i (i+1)),Z U (c-48),Z U 0,Z U 0] 0).run am (W1.alloc (tA u 263))= .ok () t:=λu tU=>by
  rw[<-g];exact cr (P:=am) W1 263 u #[Z U 3,tm (s.extract i (i+1)),Z U (c-48),Z U 0,Z U 0] (by show _=tf 5;kernel_rfl) tU (by simp[cn])
 have ur:=zH hst;have tW:=zH J;have ua:=zH f;have HN:=zH o;have ub:=zH G;have uv:=zH tM;have tR:cg (W1.heap[N]?=tf (tA #[Z U 0,tm ⟨#[]⟩,Z U 0,Z U 0,Z U 0] 263 (0,0))):=by unfold cg;rw[<-f,<-o];exact alloc_at _ _
 have ux:=zH g;have vc:=zH tP;clear v q x y K R z A hst f g G tS J tM tP;go_enter func168,ntmps168
 go_wp2_with (first
  |(go_at_call 203;(try rw[j.out]);refine(tD.out _).mono ?_;rintro e w2 ⟨rfl,rfl⟩)
  |(go_at_call 204;(try rw[j.out]);refine(E.out _).mono ?_;rintro e w2 ⟨rfl,rfl⟩))
 rw[ua.out]
 go_loop [6,8] (λk n=>(k= Z U (i:aw)/\n= Z U 0)\/(k= Z U ((i:aw)+1)/\n= Z U (c-48))) (λk _=>i+1-(dp k).toNat)
 case atStart=>exact .inl ⟨rfl,rfl⟩
 case round=>
  have vd:(i:aw)<(s.size:aw):=by omega
  have vf:(i:aw)+1<(s.size:aw):=by omega
  rcases hrel with⟨rfl,rfl⟩|⟨rfl,rfl⟩
  ·have uc:=j.out
   have vh:48<=((s[i]'h).toNat:aw):=by omega
   have vm:((s[i]'h).toNat:aw)<=57:=by omega
   clear uc
   go_wp2_with (go_at_call 204;(try rw[j.out]);refine(E.out _).mono ?_;rintro e w2 ⟨rfl,rfl⟩)
   go_round
   case rel=>exact .inr ⟨rfl,by rw[j.out]⟩
   case measure=>simp[dp]
  ·obtain⟨⟨g0,g1,g2,g3,g4⟩,⟨f0,f1,f2,f3,f4⟩,vp⟩:=eZ tR.out
   have vq:=tW.out;have h1:(i:aw)+1-(i:aw)=1:=by omega
   have ud:¬(2147483647<c-48):=by omega
   have vr:decide (2147483647<c-48)=tj:=by simpa using ud
   obtain⟨bz,vt⟩:=zE (((s[i]'h).toNat:aw)==48);cases bz<;>(
    go_wp2_with (first
     |(go_at_call 203;(try rw[HD.out]);refine(tE.out _).mono ?_;rintro e w2 ⟨rfl,rfl⟩)
     |(go_at_call 204;(try rw[HD.out]);refine(tG.out _).mono ?_;rintro e w2 ⟨rfl,rfl⟩))
    (try simp only[cQ,Exit.then]);refine dk (aM rfl _ _ N 263 _ (0,0) _ rfl ((cE _ _ N (by simp;omega)).trans (iY tR.out)) gC (by kernel_rfl)) rfl ?_;(try rw[HN.out]);exact⟨rfl,(fD ub.out (cd _) _ _ _ _ _).alloc (by simp;omega) _⟩)
theorem tX (w:World):fj am 206 #[] w λe w'=>e= tB (tn (tf ⟨w.heap.size,0,th⟩) 20 20)/\w'=w.alloc (tA (fw.map eM).toArray 9):=by
 have d:(fw.map eM).toArray=#[tm ⟨#[45,62]⟩,tm ⟨#[60,61]⟩,tm ⟨#[62,61]⟩,tm ⟨#[61,61]⟩,tm ⟨#[33,61]⟩,tm ⟨#[43]⟩,tm ⟨#[45]⟩,tm ⟨#[42]⟩,tm ⟨#[47]⟩,tm ⟨#[37]⟩,tm ⟨#[60]⟩,tm ⟨#[62]⟩,tm ⟨#[33]⟩,tm ⟨#[61]⟩,tm ⟨#[40]⟩,tm ⟨#[41]⟩,tm ⟨#[123]⟩,tm ⟨#[125]⟩,tm ⟨#[44]⟩,tm ⟨#[59]⟩]:=rfl;rw[d];clear d;go_enter func206,ntmps206;go_wp2;go_ret;exact⟨rfl,rfl⟩
theorem wG:∀x∈fw,x.size<=2:=by decide
theorem rD {α:Type}{p:α->ml}:∀{l:bp α}{g:α},l.find? p=tf g->∃q:bj,l[q]?=tf g/\p g=ti/\∀(j:bj)(y:α),j<q->l[j]?=tf y->p y=tj
 |[],_,h=>by simp at h
 |a::l,g,h=>by
  by_cases d:p a=ti
  ·rw[List.find?_cons_of_pos d] at h
   obtain rfl:a=g:=by simpa using h
   exact⟨0,rfl,d,λj y f=>fz f (nB _)⟩
  ·rw[List.find?_cons_of_neg d] at h
   obtain⟨q,t,u,v⟩:=rD h;refine⟨q+1,by simpa using t,u,λj y f o=> ?_⟩;cases j with
   |zero=>
    have e:a=y:=by simpa using o
    rw[<-e];simpa using d
   |succ j=>exact v j y (by omega) (by simpa using o)
theorem AB (s g:bl)(i:bj)(w:World)(hs:s.size<=9000000)(hi:i<s.size)(A:eH (eu s i)=tj)(E:iZ (eu s i)=tj)(hg:fw.find? (fQ s i)=tf g):
  zP 168 #[tm s,Z U (i:aw)] w (.tuple #[Cx 4 g 0,Z U 0]):=by
 have tG:=jI hi;obtain⟨c,G⟩:=zE (((s[i]'hi).toNat:aw):aw);rw[<-tG,G] at A E;have tM:=zH (λW=>fP c W);have tP:=zH (λW=>jy c W);rw[A] at tM;rw[E] at tP;have HC:=zH G;obtain⟨q,J,tR,tS⟩:=rD hg;have vm:q<20:=(bo.1 J).1;obtain⟨N,K⟩:=zE w.heap.size;obtain⟨W1,t⟩:=zE (w.alloc (tA #[Z U 0,tm ⟨#[]⟩,Z U 0,Z U 0,Z U 0] 263));obtain⟨d,u⟩:=zE (W1.alloc (tA (fw.map eM).toArray 9));have tU:=ik t K;have R:W1.heap.size=N+1:=by rw[<-t];simp[K]
 have tW:aE N w d:=by rw[<-u];exact tU.alloc (by omega) _
 have ua:d.heap[N]?=tf (tA #[Z U 0,tm ⟨#[]⟩,Z U 0,Z U 0,Z U 0] 263 (0,0)):=by rw[<-u,<-t,<-K];exact i8 _ _ _
 have ub:d.heap[N+1]?=tf (tA (fw.map eM).toArray 9 (0,0)):=by rw[<-u,<-R];exact alloc_at _ _
 have ue:cg (∀(j:bj)(x:bl),fw[j]?=tf x->d.cell? ⟨N+1,j,th⟩=tf (tm x)):=λj x hx=>by
  rw[bt _ _ _ _ _ _ ub];simp[hx]
 have uc:=zH (tX W1);rw[R,u] at uc;have up:=zH t;have ud:=zH ua;have ur:=zH tW;have HQ:=zH J;have uv:=zH tR;have ux:=zH tS;have vc:cg (∀x∈fw,x.size<=2):=wG;have vd:cg (fw.length=20):=rfl;clear A E tG G J tR tS hg t u tU tW R ua ub;go_enter func168,ntmps168
 go_wp2_with (first
  |(go_at_call 203;(try rw[HC.out]);refine(tM.out _).mono ?_;rintro e w2 ⟨rfl,rfl⟩)
  |(go_at_call 204;(try rw[HC.out]);refine(tP.out _).mono ?_;rintro e w2 ⟨rfl,rfl⟩)
  |(go_at_call 206;rw[up.out];refine uc.out.mono ?_;rintro e d ⟨rfl,rfl⟩))
 go_loopw [11] (λk wr=>∃j:bj,j<=q/\k= Z U (j:aw)/\∃n,wr=d.drewN n) (λk _=>20-(dp k).toNat)
 case atStart=>exact⟨0,cM _,rfl,0,rfl⟩
 case round=>
  obtain⟨j,hj,rfl,n,rfl⟩:=hrel;have vf:j<20:=by omega
  have vp:(j:aw)<20:=by omega
  obtain⟨y,f⟩:∃y,fw[j]?=tf y:=⟨_,ap (by rw[vd.out];exact vf)⟩
  have vq:y.size<=2:=vc.out y (ci f);have d1:=ue.out j y f;have z:cg (fQ s i y=tj->∀m:bj,∃j':bj,j'<=q/\eS .i64 ((j:aw)+1)= Z U (j':aw)/\∃n,d.drewN m=d.drewN n):=λh m=>⟨j+1,by
   by_cases e:j=q
   ·subst e
    have e2:y=g:=by have:=HQ.out;rw[f] at this;simpa using this
    rw[e2,uv.out] at h;cases h
   ·omega,by simp,m,rfl⟩
  have tD:cg (fQ s i y=ti->y=g):=λh=>by
   by_cases e:j=q
   ·subst e
    have:=HQ.out;rw[f] at this;simpa using this
   ·have:=ux.out j y (by omega) f
    rw[h] at this;cases this
  clear f
  by_cases h1:y.size<=s.size-i
  ·have o:(y.size:aw)<=(s.size:aw)-(i:aw):=by omega
   have vh:decide ((y.size:aw)<=(s.size:aw)-(i:aw))=ti:=by simpa using o
   obtain⟨be,tE⟩:=zE (s.extract i (i+y.size)==y);have v:fQ s i y=be:=by unfold fQ;rw[tE,cR h1];rfl
   rw[v] at z tD;have vr:((s.extract i (i+y.size)).toList==y.toList)=be:=by rw[<-fx];exact tE
   have vt:(i:aw)+(y.size:aw)<=(s.size:aw):=by omega
   clear tE v;cases be with
   |false=>
    clear o
    go_upto_region 26 with(fail)
    go_quiet (fail)
    go_wp2;go_roundw
    case rel=>exact z.out rfl _
    case measure=>simp[dp];omega
   |true=>
    obtain rfl:y=g:=tD.out rfl;obtain⟨⟨a0,a1,a2,a3,a4⟩,⟨b0,b1,b2,b3,b4⟩,vu⟩:=eZ ud.out;clear o
    go_upto_region 26 with(fail)
    go_quiet (fail)
    go_wp2;(try simp only[cQ,Exit.then]);refine dk (aM rfl _ _ N 263 _ (0,0) _ rfl (iY (ud.out)) gC (by kernel_rfl)) rfl ?_;(try rw[HN.out]);exact⟨rfl,fD (qa ur.out _) (cd _) _ _ _ _ _⟩
  ·have o:¬(y.size:aw)<=(s.size:aw)-(i:aw):=by omega
   have vh:decide ((y.size:aw)<=(s.size:aw)-(i:aw))=tj:=by simpa using o
   have v:fQ s i y=tj:=by unfold fQ;rw[cm h1];rfl
   rw[v] at z tD;clear v o h1
   go_upto_region 26 with(fail)
   go_quiet (fail)
   go_wp2;go_roundw
   case rel=>exact z.out rfl _
   case measure=>simp[dp];omega
theorem yB:∀x∈fw,0<x.size:=by decide
theorem Cy {s:bl}{i:bj}{t:Am}(hi:i<s.size)(h:Az s i=tf t):i+t.2.1.size<=s.size/\0<t.2.1.size:=by
 unfold Az at h
 split at h
 ·rename_i e
  split at h
  ·obtain rfl:=cy h
   have:=gL s (s.size-i) i;have f:i+1<=bX s (s.size-i) i:=by
    rw[show s.size-i=s.size-i-1+1 by omega];unfold bX;rw[e,Bool.true_or,cH rfl];exact(gL s _ _).1
   simp only[n5];omega
  ·cases h
 ·split at h
  ·split at h
   ·obtain rfl:=cy h
    simp only[n5];omega
   ·cases h
  ·obtain⟨g,d,rfl⟩:=gE.1 h
   have j:=yB g (List.mem_of_find?_eq_some d);have:=(List.find?_some d)
   unfold fQ at this;rw[ej] at this;have:=mw this.1
   show i+g.size<=s.size/\0<g.size
   omega
theorem yD (s:bl)(i:bj)(t:Am)(w:World)(d:s.size<=9000000)(hi:i<s.size)(h:Az s i=tf t):
  zP 168 #[tm s,Z U (i:aw)] w (.tuple #[Cx t.1 t.2.1 t.2.2,Z U 0]):=by
 unfold Az at h
 split at h
 ·rename_i e
  split at h
  ·rename_i u
   obtain rfl:=cy h;exact AA s i w d hi e u
  ·cases h
 ·rename_i e
  have o:eH (eu s i)=tj:=by simpa using e
  split at h
  ·rename_i f
   split at h
   ·rename_i q
    obtain rfl:=cy h;have j:=q.2;rw[Bool.or_eq_false_iff] at j;exact yz s i w d q.1 o f j.2 j.1
   ·cases h
  ·rename_i f
   obtain⟨g,v,rfl⟩:=gE.1 h;exact AB s g i w d hi o (by simpa using f) v
theorem DU:(am.info? 263).map (λi=>(i.zero,i.size,i.bytes))=tf (tf (tv #[Z U 0,tm ⟨#[]⟩,Z U 0,Z U 0,Z U 0]),5,48):=by kernel_rfl
def tY (t:Tok):bp cw:=t.cells.toList
theorem aT {w:World}{base d:bj}{e:fX}{size n:bj}{v:cw}{xs:bp cw}(h:w.ownsRow base e size v n xs)(hb:d<=base):w.ownsRow d e size v n xs:=by
 refine⟨h.1, ?_⟩;rcases h.2 with h|⟨g,cap,f,j,q,o⟩
 ·exact .inl h
 ·exact .inr ⟨g,cap,f,j,by omega,o⟩
def Cz (w:World)(l:bp Am)(e:Ending)(w':World):Prop:=
 ∃(v:cw) (T:bp Tok),e= tB (.tuple #[v,tv #[Z U 0,Z U 0,Z U 0,Z U 0]])/\w'.ownsRow w.heap.size 263 5 v T.length (T.flatMap tY)/\T.map Tok.sig=l++[(5,⟨#[]⟩,0)]/\aE w.heap.size w w'
def DV (s:bl)(N:bj)(w:World)(R:bp Am)(A k:bj)(v:cw)(wr:World):Prop:=
 ∃(T:bp Tok) (l:bp Am) (n:bj) (a b:aw),k<=s.size/\kV s n k=tf l/\R=T.map Tok.sig++l/\T.length<=k/\wr.ownsRow (A+1) 263 5 v T.length (T.flatMap tY)/\
  wr.heap[A]?=tf (tA #[Z U a,Z U b] 40 (0,0))/\wr.heap[N]?=tf (tA #[Z U 0,Z U 0,Z U 0,Z U 0] 113 (0,0))/\aE N w wr
theorem wH (s:bl)(R:bp Am)(n0:bj)(w:World)(hs:s.size<=1000000)(wl:nD s)(h0:s.size≠0)(hR:kV s n0 (fF s s.size 0)=tf R):
  fj am 128 #[tm s] w (Cz w R):=by
 obtain⟨N,hN⟩:=zE w.heap.size;have vc:s.size<=9000000:=by omega
 have ws:cg (∀(i:bj)(W:World),i<=s.size->zS 166 #[tm s,Z U (i:aw)] W (Z U (fF s (s.size-i) i:bj))):=λi W hi=>wF s i W wl vc hi;have xf:cg (∀(s:bl)(n:bj)(w:World),s.size<=9000000->n<=s.size->fj am 167 #[tm s,Z U (n:aw)] w (BX w)):=tV;have Bk:cg (∀(i:bj)(t:Am)(w:World),i<s.size->Az s i=tf t->zP 168 #[tm s,Z U (i:aw)] w (.tuple #[Cx t.1 t.2.1 t.2.2,Z U 0])):=λi t w hi h=>yD s i t w vc hi h;have ub:=ws.out 0;rw[Nat.sub_zero] at ub;obtain⟨k0,vd⟩:=zE (fF s s.size 0);rw[vd] at ub hR;have tE:=kU s s.size 0;rw[vd] at tE;have xj:k0<=s.size:=by omega
 have xl:=zH ub;obtain⟨W1,tR⟩:=zE (w.alloc (tA #[Z U 0,Z U 0,Z U 0,Z U 0] 113));have xo:=ik tR hN;have xp:W1.heap.size=N+1:=by rw[<-tR];simp[hN]
 have xr:W1.heap[N]?=tf (tA #[Z U 0,Z U 0,Z U 0,Z U 0] 113 (0,0)):=by rw[<-tR,<-hN];exact alloc_at _ _
 have xt:=zH tR;have xF:=zH xo;have uc:=zH xp;have xT:=zH xr;have HR:=zH hR;have HN:=zH hN;have DB:decide (1048576<(s.size:aw))=tj:=by rw[decide_eq_false_iff_not];omega
 clear wl ub vd tE tR xo xp xr hR;go_enter func128,ntmps128
 go_upto_region 5 with(go_at_call 166;refine(xl.out _ (cM _)).mono ?_;rintro e w2 ⟨rfl,rfl⟩)
 rw[xt.out];have hst:∀(w:World)(a b:aw)(c:dl cw),c.size=2->(dd ⟨w.heap.size,0,th⟩ [Z U a,Z U b] 0).run am (w.alloc (tA c 40))= .ok () (w.alloc (tA #[Z U a,Z U b] 40)):=λw a b c hc=>
  cr (P:=am) w 40 c #[Z U a,Z U b] (by show _=tf 2;kernel_rfl) hc (by simp[cn])
 have ya:=zH hst;clear hst
 go_upto_region 6 with(go_at_call 167;refine(xf.out s k0 _ vc xj).mono ?_;rintro e w3 ⟨a,b,rfl,yb,ha,yd,hb,ye⟩;have vf:=zH ye;clear ye;have Bm:=ya.out w3 a b)
 clear Bm;obtain⟨A,hA⟩:=zE w3.heap.size;obtain⟨W4,ud⟩:=zE (w3.alloc (tA #[Z U a,Z U b] 40));rw[hA,ud];have DE:N+1<=A:=by rw[<-hA,<-uc.out];exact vf.out.size
 have tD:W4.heap[A]?=tf (tA #[Z U a,Z U b] 40 (0,0)):=by rw[<-ud,<-hA];exact alloc_at _ _
 have vh:=zD ud vf;have yi:DV s N w R A k0 (tn th 0 0) W4:=⟨[],R,n0,a,b,xj,HR.out,rfl,cM _,World.ownsRow_nil _ _ _ _,tD,(vh.block N (by have:=uc.out;omega)).trans xT.out,xF.out.trans (vh.mono (by have:=uc.out;omega))⟩
 have Bs:=zH yi;clear hA ud tD vh yi vf HR xt xF uc xT xl yb ha yd hb
 go_loopw [4,5] (λv k wr=>∃j:bj,k= Z U (j:aw)/\DV s N w R A j v wr) (λ_ k _=>s.size-(dp k).toNat)
 case atStart=>exact⟨k0,rfl,Bs.out⟩
 case round=>
  obtain⟨j,rfl,T,l,n,g,o,hj,hl,yk,DG,yp,tD,ue,yq⟩:=hrel;have By:A+1<=wr.heap.size:=ae tD;have DH:T.length<=1000000:=by omega
  obtain⟨a0,a1⟩:=bZ tD;obtain⟨c0,c1⟩:=l7 ue;obtain⟨⟨p0,p1⟩,⟨q0,q1⟩,DM⟩:=bZ tD;obtain⟨⟨e0,e1,e2,e3⟩,⟨f0,f1,f2,f3⟩,BE⟩:=l7 ue;clear a0 a1 c0 c1;have J:=zH yp;have yr:=zH tD;have yv:=zH ue;have yy:=zH yq;have yW:=zH yk;have HL:=zH hl;obtain⟨i0,zc,zd,zj,zp⟩:=m6 DU;clear yp tD ue yq yk hl
  by_cases up:j<s.size
  ·have BT:(j:aw)<(s.size:aw):=by omega
   obtain⟨K,l2,n2,vm,ur,zr⟩:∃K l2 n2,Az s j=tf K/\kV s n2 (fF s (s.size-(j+K.2.1.size)) (j+K.2.1.size))=tf l2/\l=K::l2:=by
    have:=HL.out;cases n with
    |zero=>simp[kV] at this
    |succ n=>
     unfold kV at this;rw[cH up] at this
     split at this
     ·rename_i K BY
      obtain⟨l2,h1,h2⟩:=gE.1 this;exact⟨K,l2,n,BY,h1,h2.symm⟩
     ·cases this
   have zs:=Cy up vm;have B4:=zH (Bk.out j K wr up vm);obtain⟨u,q,E⟩:=K;obtain⟨z,hz⟩:=zE q.size;simp only[hz] at zs ur;obtain⟨B5,DO⟩:=zs;obtain⟨f,zv⟩:=zE (fF s (s.size-(j+z)) (j+z));have tE:=kU s (s.size-(j+z)) (j+z);have uv:=ws.out (j+z);rw[zv] at uv ur tE;rw[jt] at uv;have B6:f<=s.size:=by omega
   have DP:j+z<=f:=tE.1;have B7:=zH uv;have B8:=zH ur;have B9:=zH zr;have HZ:=zH hz;clear uv ur zr tE zv vm;have hst:∀(w:World)(c:dl cw),c.size=5->(dd ⟨w.heap.size,0,th⟩ [Z U u,tm q,Z U E,Z U 0,Z U 0] 0).run am (w.alloc (tA c 263))= .ok () (w.alloc (tA #[Z U u,tm q,Z U E,Z U 0,Z U 0] 263)):=λw c hc=>
    cr (P:=am) w 263 c #[Z U u,tm q,Z U E,Z U 0,Z U 0] (by show _=tf 5;kernel_rfl) hc (by simp[cn])
   have Cd:=zH hst;clear hst
   go_upto_region 10 with(go_at_call 168;refine B4.out.mono ?_;rintro e w2 ⟨rfl,An⟩;have vp:=zH An;clear An;have Cl:=Cd.out w2;unfold Cx)
   clear Cl;obtain⟨G,hG⟩:=zE w2.heap.size;obtain⟨W5,tS⟩:=zE (w2.alloc (tA #[Z U u,tm q,Z U E,Z U 0,Z U 0] 263));rw[hG,tS];have DQ:wr.heap.size<=G:=by rw[<-hG];exact vp.out.size
   have vq:=zD tS vp;have At:W5.heap.size=G+1:=by rw[<-tS,<-hG];simp
   have vr:W5.heap[G]?=tf (tA #[Z U u,tm q,Z U E,Z U 0,Z U 0] 263 (0,0)):=by rw[<-tS,<-hG];exact alloc_at _ _
   have vt:=(vq.block A By).trans yr.out;obtain⟨⟨p0,p1⟩,⟨q0,q1⟩,hA5⟩:=bZ vt;obtain⟨⟨g0,g1,g2,g3,g4⟩,⟨f0,f1,f2,f3,f4⟩,DS⟩:=eZ vr;have Cp:=zH vq;have CA:=zH vr;have D0:=zH vt;clear hG tS vq vr vt vp
   go_upto_region 11 with(fail)
   obtain⟨W6,tU⟩:=zE ((W5.setCell ⟨G,3,th⟩ (Z U g)).setCell ⟨G,4,th⟩ (Z U o));rw[tU];have Ax:Ext (·=G) W5 W6:=by rw[<-tU];exact(Ext.set1 W5 G 3 _).trans (Ext.set1 _ G 4 _) (λk d=> .inl d)
   have vu:W6.heap[G]?=tf (tA #[Z U u,tm q,Z U E,Z U g,Z U o] 263 (0,0)):=by
    rw[<-tU];have h1:=bk W5 G 3 _ _ (Z U g) CA.out;have h2:=bk _ G 4 _ _ (Z U o) h1;exact h2
   have CC:W6.heap.size=G+1:=by rw[<-tU];simp[At]
   have tW:Ext (·=G) wr W6:=(Ext.of_below_size Cp.out).trans Ax (λk d=> .inl d);have AD:W6.ownsRow (A+1) 263 5 u4 T.length (T.flatMap tY):=ah J.out tW (λk d=>by have:=(ai J.out d).2;omega);have AE:=tW.heap yr.out (by omega);have AF:=tW.heap yv.out (by omega);have CD:=zH tW;have CH:=zH vu;have AH:=zH AD;have CM:=zH AE;have CN:=zH AF;obtain⟨⟨g0,g1,g2,g3,g4⟩,⟨f0,f1,f2,f3,f4⟩,D1⟩:=eZ vu;clear tU Ax vu tW AD AE AF p0 p1 q0 q1 At
   go_upto_region 12 with(at_builtin;refine jw rfl (.tmp 39) (.tmp 41) 226 rfl (A+1) 263 i0 _ 5 48 underlying226 zc zd zj zp rfl (by decide) _ T.length (T.flatMap tY) rfl AH.out (G+1) #[Z U u,tm q,Z U E,Z U g,Z U o] CC.symm rfl rfl (by simp[cn]) (by unfold du;omega) (by omega) (by omega) ?_;intro v7 w7 tG tM vx;have vy:=zH tG;have tP:=zH tM;clear tG tM vx)
   have tG:=AH.out;have AI:=tP.out.heap CH.out (λh=>by have:=(ai J.out h).2;omega);have AK:=tP.out.heap CM.out (λh=>by have:=(ai J.out h).1;omega);have AM:=tP.out.heap CN.out (λh=>by have:=(ai J.out h).1;omega);obtain⟨⟨g0,g1,g2,g3,g4⟩,⟨f0,f1,f2,f3,f4⟩,D3⟩:=eZ AI;have D4:A+1<=w7.heap.size:=by omega
   have CT:=zH AK;have C4:=zH AM;clear AI AK AM;have C5:s.extract j f=s.extract j f:=rfl;have C6:(s.extract j f).size=f-j:=by rw[n5];omega
   have we:=xf.out (s.extract j f) (f-j) w7 (by omega) (by omega);rw[Int.ofNat_sub (by omega)] at we;have C7:=zH we;have Ek:(j:aw)<=(f:aw):=by omega
   have EV:(f:aw)<=(s.size:aw):=by omega
   clear C5 C6 we
   go_upto_region 14 with(first
    |(go_at_call 166;refine(B7.out _ B5).mono ?_;rintro e w8 ⟨rfl,rfl⟩)
    |(go_at_call 167;refine C7.out.mono ?_;rintro e w8 ⟨a2,b2,rfl,yb,ha,yd,hb,AN⟩;have wg:=zH AN;clear AN;have Dd:=ya.out w8 a2 b2))
   clear Dd;obtain⟨C,hC⟩:=zE w8.heap.size;obtain⟨W9,ux⟩:=zE (w8.alloc (tA #[Z U a2,Z U b2] 40));rw[hC,ux];have ua:=zD ux wg;have E0:w7.heap.size<=C:=by rw[<-hC];exact wg.out.size
   have AS:W9.heap[C]?=tf (tA #[Z U a2,Z U b2] 40 (0,0)):=by rw[<-ux,<-hC];exact alloc_at _ _
   have wj:=(ua.block A (by omega)).trans CT.out;have AT:=(ua.block N (by omega)).trans C4.out;obtain⟨⟨p0,p1⟩,⟨q0,q1⟩,hA9⟩:=bZ wj;obtain⟨⟨r0,r1⟩,⟨s0,s1⟩,E1⟩:=bZ AS;have AW:=ownsRow_below vy.out ua;have A1:=zH AW;have A2:=zH wj;have Dg:=zH AT;have A3:aE N w W9:=yy.out.trans ((CD.out.below (by omega) (λk d=>by omega)).trans ((tP.out.below (by omega) (λk d=>by have:=(ai J.out d).1;omega)).trans (ua.mono (by omega))));have Do:=zH A3;have A4:(T++[(⟨u,q,E,g,o⟩:Tok)]).flatMap tY=T.flatMap tY++[Z U u,tm q,Z U E,Z U g,Z U o]:=by rw[fS];rfl
   have A5:cg (∀(x y:aw)(W:World),Ext (·=A) W9 W->W.heap[A]?=tf (tA #[Z U x,Z U y] 40 (0,0))->DV s N w R A f v7 W):=λx y W hx hA=>
    ⟨T++[⟨u,q,E,g,o⟩],l2,n2,x,y,B6,B8.out,by rw[yW.out,B9.out,et,ei];rfl,by rw[bm];simp;omega,
     by rw[A4,bm];exact ah A1.out hx (λk d=>by have:=(ai A1.out d).1;omega),hA,hx.heap Dg.out (by omega),Do.out.trans (hx.below (by omega) (λk d=>by omega))⟩
   clear hC ux ua AS wj AT AW A3 A4 wg
   by_cases E2:1<a2
   ·go_wp2
    go_roundw
    case rel=>exact⟨f,rfl,A5.out _ _ _ ((Ext.set1 W9 A 0 _).trans (Ext.set1 _ A 1 _) (λk d=> .inl d)) (aW A2.out)⟩
    case measure=>simp[dp];omega
   ·go_wp2
    go_roundw
    case rel=>exact⟨f,rfl,A5.out _ _ _ (Ext.set1 W9 A 1 _) (bk W9 A 1 _ _ _ A2.out)⟩
    case measure=>simp[dp];omega
  ·have BT:¬(j:aw)<(s.size:aw):=by omega
   have A6:l=[]:=by
    have:=HL.out;cases n with
    |zero=>simp[kV] at this
    |succ n=>unfold kV at this;rw[bw up] at this;simpa using this.symm
   have Ds:=zH A6;clear A6
   go_wp2_with (at_builtin;refine jw rfl (.tmp 78) (.tmp 81) 226 rfl (A+1) 263 i0 _ 5 48 underlying226 zc zd zj zp rfl (by decide) _ T.length (T.flatMap tY) rfl J.out wr.heap.size #[Z U 5,tm ⟨#[]⟩,Z U 0,Z U g,Z U o] rfl rfl rfl (by simp[cn]) (by unfold du;omega) (by omega) (by omega) ?_;intro v7 w7 tG tM vx;have vy:=zH tG;have tP:=zH tM;have wk:=tM.heap yv.out (λh=>by have:=(ai J.out h).1;omega);obtain⟨⟨e0,e1,e2,e3⟩,⟨f0,f1,f2,f3⟩,BE⟩:=l7 wk;have DA:=zH wk;clear tG tM vx wk)
   (try simp only[cQ,Exit.then]);refine dk (gN rfl _ _ N 113 _ (0,0) _ rfl (iX DA.out) oy (by kernel_rfl)) rfl ?_;refine⟨v7,T++[⟨5,⟨#[]⟩,0,g,o⟩],rfl, ?_, ?_, ?_⟩
   ·rw[HN.out]
    have h1:=vy.out;rw[show(T++[(⟨5,⟨#[]⟩,0,g,o⟩:Tok)]).flatMap tY=T.flatMap tY++[Z U 5,tm ⟨#[]⟩,Z U 0,Z U g,Z U o] by rw[fS];rfl,bm];exact aT (ki (ki (ki (ki h1 (by show N<_;omega) _) (by show N<_;omega) _) (by show N<_;omega) _) (by show N<_;omega) _) (by omega)
   ·rw[et,yW.out,Ds.out,eA];rfl
   ·rw[HN.out]
    exact rC (yy.out.trans (tP.out.below (by omega) (λk d=>by have:=(ai J.out d).1;omega))) (cd _) _ _ _ _
structure Rd (r lb cap:bj)(T:bp Tok)(i:bj)(w:World):Prop where
 row:w.heap[r]?=tf (tA #[tn (tf ⟨lb,0,th⟩) T.length cap,Z U (i:aw),Z U 0,Z U 0,Z U 0,Z U 0] 269 (0,0))
 toks:∀(k:bj)(t:Tok),T[k]?=tf t->∀(j:bj)(u:cw),t.cells.toList[j]?=tf u->w.cell? ⟨lb,k*5+j,th⟩=tf u
 ne:lb≠r
 lt:lb<w.heap.size
 short:T.length<=1000000
section
variable {r lb cap:bj}{T:bp Tok}{i:bj}{w w':World}
theorem Rd.ext {M:bj->Prop}(h:Rd r lb cap T i w)(d:Ext M w w')(e:¬M r)(f:¬M lb):Rd r lb cap T i w':=
 ⟨d.heap h.row e,λk t g j u o=>by rw[d.cell (a:=⟨lb,k*5+j,th⟩) h.lt f];exact h.toks k t g j u o,h.ne,cD h.lt d.size,h.short⟩
theorem Rd.grow (h:Rd r lb cap T i w)(hb:aE w.heap.size w w'):Rd r lb cap T i w':=h.ext (Ext.of_below_size (M:=λ_=>lj) hb) (λh=>h) (λh=>h)
theorem Rd.rlt (h:Rd r lb cap T i w):r<w.heap.size:=ae h.row
theorem Rd.step (h:Rd r lb cap T i w):Rd r lb cap T (i+1) (w.setCell ⟨r,1,th⟩ (Z U ((i:aw)+1))):=
 ⟨by have:=bk w r 1 _ _ (Z U ((i:aw)+1)) h.row;rw[this];simp,λk t d j u e=>by rw[(Ext.set1 w r 1 _).cell (a:=⟨lb,k*5+j,th⟩) h.lt h.ne];exact h.toks k t d j u e,h.ne,by rw[World.size_setCell];exact h.lt,h.short⟩
theorem Rd.cells (h:Rd r lb cap T i w):w.cell? ⟨r,0,th⟩=tf (tn (tf ⟨lb,0,th⟩) T.length cap)/\w.cell? ⟨r,1,th⟩=tf (Z U (i:aw))/\w.cell? ⟨r,3,th⟩=tf (Z U 0)/\w.frozen? ⟨r,1,th⟩=tj/\r<w.heap.size:=
 ⟨(rowAt h.row 0 rfl).1,(rowAt h.row 1 rfl).1,(rowAt h.row 3 rfl).1,(rowAt h.row 1 rfl).2,ae h.row⟩
end
def bL (r lb cap:bj)(T:bp Tok)(j:bj)(w w':World):Prop:=Rd r lb cap T j w'/\Ext (·=r) w w'
theorem bL.trans {r lb cap:bj}{T:bp Tok}{j d:bj}{w e w2:World}(h:bL r lb cap T j w e)(f:bL r lb cap T d e w2):bL r lb cap T d w w2:=⟨f.1,h.2.trans f.2 (λ_ g=> .inl g)⟩
theorem bL.grow {r lb cap:bj}{T:bp Tok}{j:bj}{w d w2:World}(h:bL r lb cap T j w d)(hb:aE d.heap.size d w2):bL r lb cap T j w w2:=⟨h.1.grow hb,h.2.trans (Ext.of_below_size (M:=λ_=>lj) hb) (λ_ e=>e.elim)⟩
theorem bL.grown {r lb cap:bj}{T:bp Tok}{j:bj}{w d w2:World}(hb:aE w.heap.size w d)(h:bL r lb cap T j d w2):bL r lb cap T j w w2:=⟨h.1,(Ext.of_below_size hb).trans h.2 (λ_ e=> .inl e)⟩
theorem bB {r lb cap:bj}{T:bp Tok}{i:bj}(w:World)(h:Rd r lb cap T i w):zS 171 #[tr (tf ⟨r,0,th⟩)] w (tt tj):=by
 obtain⟨_,_,c3,_,d⟩:=h.cells;go_enter func171,ntmps171;go_wp2;go_ret;exact⟨rfl,rfl⟩
theorem bE {r lb cap:bj}{T:bp Tok}{i:bj}{t:Tok}(w:World)(h:Rd r lb cap T i w)(d:T[i]?=tf t):
  zP 170 #[tr (tf ⟨r,0,th⟩)] w (tv t.cells):=by
 obtain⟨N,f⟩:=zE w.heap.size;obtain⟨W1,g⟩:=zE (w.alloc (tA #[Z U 0,tm ⟨#[]⟩,Z U 0,Z U 0,Z U 0] 263));have j:=ik g f;have e:Rd r lb cap T i W1:=h.grow (by rw[f];exact j);have o:W1.heap[N]?=tf (tA #[Z U 0,tm ⟨#[]⟩,Z U 0,Z U 0,Z U 0] 263 (0,0)):=by rw[<-g,<-f];exact alloc_at _ _
 obtain⟨c0,c1,_,_,z⟩:=e.cells;have A:i<T.length:=(bo.1 d).1;have E:=h.short;obtain⟨⟨G,J,K,R,W⟩,⟨f0,f1,f2,f3,f4⟩,tD⟩:=eZ o;have q:=e.toks i t d 0 _ rfl;have k1:=e.toks i t d 1 _ rfl;have k2:=e.toks i t d 2 _ rfl;have k3:=e.toks i t d 3 _ rfl;have k4:=e.toks i t d 4 _ rfl;rw[i7] at q;have tE:min (i:aw) ((T.length:aw)-1)=(i:aw):=by omega
 have hw:dt.wrap ((T.length:aw)-1)=(T.length:aw)-1:=IntWalk.i64_in _ (by omega);have u:=zH j;have v:=zH o;have x:=zH g;clear h e d j o g;go_enter func170,ntmps170
 go_upto_region 1 with(fail)
 rw[x.out];refine qE 17 0 rfl (by kernel_rfl) (by kernel_rfl) (by kernel_rfl) (·=W1.drew) rfl ?_;dsimp only[List.take]
 repeat (go_big_quiet_step (fail))
 refine dr ?_;rintro _ rfl;refine wpOp_step rfl λK' y=> ?_;rw[cH (by rfl)];go_simp;refine y _ _ ?_;refine⟨by kernel_rfl, ?_⟩;go_wp2;refine dk (er (P:=am) rfl _ _ N 263 t.cells (0,0) _ rfl (iY v.out) gC rfl (by kernel_rfl)) rfl ?_;(try rw[f]);exact⟨rfl,(fD u.out (cd _) _ _ _ _ _).drew⟩
def dD (t:Tok)(s:bl):ml:=(t.kind==2||t.kind==4)&&t.text==s
theorem bi {r lb cap:bj}{T:bp Tok}{i:bj}{t:Tok}(s:bl)(w:World)(h:Rd r lb cap T i w)(u:T[i]?=tf t):
  zP 172 #[tr (tf ⟨r,0,th⟩),tm s] w (tt (dD t s)):=by
 have g:=zH (bE w h u);have v:cg (∀W,aE w.heap.size w W->zS 171 #[tr (tf ⟨r,0,th⟩)] W (tt tj)):=λW x=>bB W (h.grow x);have hst:∀(w:World)(c:dl cw),c.size=5->(dd ⟨w.heap.size,0,th⟩ [Z U t.kind,tm t.text,Z U t.n,Z U t.ln,Z U t.cl] 0).run am (w.alloc (tA c 263))= .ok () (w.alloc (tA #[Z U t.kind,tm t.text,Z U t.n,Z U t.ln,Z U t.cl] 263)):=λw c y=>
  cr (P:=am) w 263 c #[Z U t.kind,tm t.text,Z U t.n,Z U t.ln,Z U t.cl] (by show _=tf 5;kernel_rfl) y (by simp[cn])
 have z:=zH hst;obtain⟨j,A⟩:=zE (t.kind==2);obtain⟨o,E⟩:=zE (t.kind==4);obtain⟨f,q⟩:=zE (t.text==s);have hF:dD t s=((j||o)&&f):=by unfold dD;rw[A,E,q]
 have J:(t.text.toList==s.toList)=f:=by rw[<-fx];exact q
 rw[hF];simp only[Tok.cells] at g;cases j<;>cases o<;>cases f<;>(
  go_enter func172,ntmps172
  go_wp2_with (first
   |(go_at_call 170;refine g.out.mono ?_;rintro e w2 ⟨rfl,G⟩;have K:=z.out w2;have d:=zH G)
   |(go_at_call 171;refine(v.out _ (d.out.alloc d.out.size _)).mono ?_;rintro e R ⟨rfl,rfl⟩))
  go_ret;exact⟨rfl,d.out.alloc d.out.size _⟩)
theorem aY {r lb cap:bj}{T:bp Tok}{i:bj}{t:Tok}(s:bl)(w:World)(h:Rd r lb cap T i w)(d:T[i]?=tf t)(hF:dD t s=ti):
  fj am 207 #[tr (tf ⟨r,0,th⟩),tm s] w λe w'=>e= tB (.tuple #[])/\bL r lb cap T (i+1) w w':=by
 have g:=zH (bi s w h d);rw[hF] at g;have H:=zH h;have u:i<T.length:=(bo.1 d).1;have v:=h.short;clear h d hF;go_enter func207,ntmps207
 go_wp2_with (go_at_call 172;refine g.out.mono ?_;rintro e w2 ⟨rfl,f⟩;have j:=zH (H.out.grow f);have o:cg (bL r lb cap T (i+1) w (w2.setCell ⟨r,1,th⟩ (Z U ((i:aw)+1)))):=⟨j.out.step,(Ext.of_below_size (M:=(·=r)) f).trans (Ext.set1 w2 r 1 _) (λk q=> .inl q)⟩;obtain⟨c0,c1,c3,f1,x⟩:=j.out.cells;clear f)
 go_end0
 exact⟨rfl,o.out⟩
theorem tZ {r lb cap:bj}{T:bp Tok}{i:bj}(d:aw)(w:World)(h:Rd r lb cap T i w)(f:d<=200):
  zS 242 #[tr (tf ⟨r,0,th⟩),Z U d] w (tt ti):=by
 have g:=zH (bB w h);have j:decide (200<d)=tj:=by rw[decide_eq_false_iff_not];omega
 have o:¬200<d:=by omega
 clear h f;go_enter func242,ntmps242
 go_wp2_with (go_at_call 171;refine g.out.mono ?_;rintro e w2 ⟨rfl,rfl⟩)
 go_ret;exact⟨rfl,rfl⟩
theorem dU {r lb cap:bj}{T:bp Tok}{i:bj}{t:Tok}(w:World)(h:Rd r lb cap T i w)(A:T[i]?=tf t)(d:t.kind=1):
  fj am 208 #[tr (tf ⟨r,0,th⟩)] w λe w'=>e= tB (.tuple #[tm t.text,tv #[Z U t.ln,Z U t.cl]])/\bL r lb cap T (i+1) w w':=by
 obtain⟨N,f⟩:=zE w.heap.size;obtain⟨W1,j⟩:=zE (w.alloc (tA #[Z U 0,Z U 0] 40));have E:=ik j f;have tE:W1.heap.size=N+1:=by rw[<-j];simp[f]
 have tG:W1.heap[N]?=tf (tA #[Z U 0,Z U 0] 40 (0,0)):=by rw[<-j,<-f];exact alloc_at _ _
 have u:=h.grow (by rw[f];exact E);have J:=zH (bE W1 u A);have tM:cg (∀W,aE W1.heap.size W1 W->zS 171 #[tr (tf ⟨r,0,th⟩)] W (tt tj)):=λW hW=>bB W (u.grow hW);have hst:∀(w:World)(c:dl cw),c.size=5->(dd ⟨w.heap.size,0,th⟩ [Z U t.kind,tm t.text,Z U t.n,Z U t.ln,Z U t.cl] 0).run am (w.alloc (tA c 263))= .ok () (w.alloc (tA #[Z U t.kind,tm t.text,Z U t.n,Z U t.ln,Z U t.cl] 263)):=λw c hc=>
  cr (P:=am) w 263 c #[Z U t.kind,tm t.text,Z U t.n,Z U t.ln,Z U t.cl] (by show _=tf 5;kernel_rfl) hc (by simp[cn])
 rw[d] at hst;have ub:=zH hst;have vr:i<T.length:=(bo.1 A).1;have hT:=h.short;have vt:r<N:=by rw[<-f];exact h.rlt
 have tP:lb<N:=by rw[<-f];exact h.lt
 have uc:=zH tP;clear tP;have ud:=zH j;have ue:=zH E;have tR:=zH tE;have up:=zH tG;have H1:=zH u;simp only[Tok.cells,d] at J;clear h A d hst j E tE tG u;go_enter func208,ntmps208
 go_upto_region 2 with(go_at_call 170;rw[ud.out];refine J.out.mono ?_;rintro e w2 ⟨rfl,tS⟩;have ur:=ub.out w2;have tU:=zH tS;clear tS)
 clear ur;obtain⟨G,v⟩:=zE w2.heap.size;obtain⟨o,x⟩:=zE (w2.alloc (tA #[Z U 1,tm t.text,Z U t.n,Z U t.ln,Z U t.cl] 263));rw[v,x];have q:=zD x tU;have vu:N+1<=G:=by rw[<-v,<-tR.out];exact tU.out.size
 have K:o.heap[G]?=tf (tA #[Z U 1,tm t.text,Z U t.n,Z U t.ln,Z U t.cl] 263 (0,0)):=by rw[<-x,<-v];exact alloc_at _ _
 have R:=(q.block N (by have:=tR.out;omega)).trans up.out;have h3:=H1.out.grow q;obtain⟨c0,c1,c3,f1,hr⟩:=h3.cells;obtain⟨⟨g0,g1,g2,g3,g4⟩,⟨e0,e1,e2,e3,e4⟩,uv⟩:=eZ K;obtain⟨⟨p0,p1⟩,⟨q0,q1⟩,ux⟩:=bZ R;have vc:=zH (tM.out o q);have vd:=zH q;have vf:=zH K;have vh:=zH R;have H3:=zH h3;clear v x q K R h3 tM J
 go_upto_region 6 with(go_at_call 171;refine vc.out.mono ?_;rintro e w2 ⟨rfl,rfl⟩)
 obtain⟨g,y⟩:=zE (o.setCell ⟨r,1,th⟩ (Z U ((i:aw)+1)));rw[y];have z:Ext (·=r) o g:=by rw[<-y];exact Ext.set1 o r 1 _
 have tW:=z.heap vf.out (by omega);have tD:=z.heap vh.out (by omega);have h4:Rd r lb cap T (i+1) g:=by rw[<-y];exact H3.out.step
 obtain⟨⟨g0,g1,g2,g3,g4⟩,⟨e0,e1,e2,e3,e4⟩,uv⟩:=eZ tW;obtain⟨⟨p0,p1⟩,⟨q0,q1⟩,ux⟩:=bZ tD;have vm:=zH z;have vp:=zH tD;have H4:=zH h4;clear y z tW tD h4 c0 c1 c3 f1 hr
 go_region
 go_wp2;(try simp only[cQ,Exit.then]);have vq:bL r lb cap T (i+1) w g:=⟨H4.out,((Ext.of_below_size (M:=(·=r)) (show aE w.heap.size w W1 by rw[f];exact ue.out)).trans (Ext.of_below_size (M:=(·=r)) vd.out) (λk d=> .inl d)).trans vm.out (λk d=> .inl d)⟩
 have ua:Ext (·=N) g (((g.setCell ⟨N,0,th⟩ (Z U t.ln)).setCell ⟨N,1,th⟩ (Z U t.cl)).drew):=((Ext.set1 g N 0 _).trans (Ext.set1 _ N 1 _) (λk d=> .inl d)).drew;refine dk (gN rfl _ _ N 40 _ (0,0) _ rfl (aW vp.out) ms (by kernel_rfl)) rfl ?_;refine⟨rfl,H4.out.ext ua (by omega) (λe=> ?_),vq.2.trans ua (λk d=> .inr (by omega))⟩;have:=uc.out;omega
def l8 (t:Tok)(l:bp bl):ml:=l.any λs=>dD t s
def oK (w:World)(b:bj)(l:bp bl):Prop:=∀(k:bj)(x:bl),l[k]?=tf x->w.cell? ⟨b,k,th⟩=tf (tm x)
theorem gP {r lb cap:bj}{T:bp Tok}{i:bj}{t:Tok}(b c:bj)(l:bp bl)(w:World)(h:Rd r lb cap T i w)(G:T[i]?=tf t)(hl:l.length<=20)(hb:b<w.heap.size)(J:oK w b l):
  zP 260 #[tr (tf ⟨r,0,th⟩),tn (tf ⟨b,0,th⟩) l.length c] w (tt (l8 t l)):=by
 have tE:cg (∀s W,aE w.heap.size w W->zP 172 #[tr (tf ⟨r,0,th⟩),tm s] W (tt (dD t s))):=λs W hW=>bi s W (h.grow hW) G;have tG:=zH J;have HB:=zH hb;clear h G J;go_enter func260,ntmps260;go_wp2
 go_loopw [5] (λk wr=>∃j:bj,k= Z U (j:aw)/\j<=l.length/\(∀x∈l.take j,dD t x=tj)/\aE w.heap.size w wr) (λk _=>l.length-(dp k).toNat)
 case atStart=>exact⟨0,rfl,cM _,by simp,aq _ _⟩
 case round=>
  obtain⟨j,rfl,hj,u,d⟩:=hrel;have HZ:=zH u;have f:=zH d
  by_cases K:j<l.length
  ·have tM:(j:aw)<(l.length:aw):=by omega
   obtain⟨x,g⟩:∃x,l[j]?=tf x:=⟨_,ap K⟩
   have hc:wr.cell? ⟨b,j,th⟩=tf (tm x):=(d.cell (p:=⟨b,j,th⟩) HB.out).trans (tG.out j x g);have v:=zH (tE.out x wr d);obtain⟨q,z⟩:=zE (dD t x);rw[z] at v;have R:=zH z;have HX:=zH g;clear u d g z;cases q with
   |true=>
    have A:cg (ti=l8 t l):=by unfold cg l8;rw[eq_comm,js];exact⟨x,ci HX.out,R.out⟩
    go_wp2_with (go_at_call 172;refine v.out.mono ?_;rintro e w2 ⟨rfl,o⟩;have E:=zH (f.out.trans (o.mono f.out.size));clear o)
    go_ret;rw[<-A.out];exact⟨rfl,E.out⟩
   |false=>
    go_wp2_with (go_at_call 172;refine v.out.mono ?_;rintro e w2 ⟨rfl,o⟩;have E:=zH (f.out.trans (o.mono f.out.size));clear o)
    go_roundw
    case rel=>
     refine⟨j+1,by go_num,K,λy hy=> ?_,E.out⟩;rw[kA,HX.out] at hy;rcases dg.1 hy with h|h
     ·exact HZ.out y h
     ·have e:y=x:=by simpa using h
      rw[e];exact R.out
    case measure=>simp[dp];omega
  ·have tD:j=l.length:=by omega
   have A:cg (tj=l8 t l):=by
    unfold cg l8;rw[eq_comm,j8];intro x g;rw[u x (by rw[tD,cL];exact g)];simp
   clear u d;subst tD;go_wp2;go_ret;rw[<-A.out];exact⟨rfl,f.out⟩
def jJ:bl:=⟨#[42]⟩
def wI:bl:=⟨#[105,110,116]⟩
theorem wJ {r lb cap:bj}{T:bp Tok}{i:bj}{u:Tok}(w:World)(h:Rd r lb cap T i w)(d:T[i+1]?=tf u)(e:u.kind=4):
  zP 262 #[tr (tf ⟨r,0,th⟩)] w (tt (u.text==jJ)):=by
 obtain⟨c0,c1,_,_,o⟩:=h.cells;have q:i+1<T.length:=(bo.1 d).1;have t:=h.short;have f:=h.toks (i+1) u d 0 _ rfl;have v:=h.toks (i+1) u d 1 _ rfl;rw[i7] at f;rw[e] at f;have x:dt.wrap ((i:aw)+1)=(i:aw)+1:=IntWalk.i64_in _ (by omega);have y:decide ((i:aw)+1<(T.length:aw))=ti:=by rw[oY];omega
 have z:(i:aw)+1<(T.length:aw):=by omega
 have A:0<=(i:aw)+1:=by omega
 have E:((i:aw)+1).toNat=i+1:=by omega
 obtain⟨b,hb⟩:=zE (u.text==jJ);have j:(u.text.toList==jJ.toList)=b:=by rw[<-fx];exact hb
 rw[hb];have g:jJ.toList=[42]:=by rw[oA];rfl
 rw[g] at j;clear h d e hb g;cases b<;>(
  go_enter func262,ntmps262
  go_upto_region 1 with(fail)
  go_quiet (fail)
  go_wp2;go_ret;exact⟨rfl,qa (aq _ _) _⟩)
inductive wK (T:bp Tok) (i:bj):Ty->bj->Prop
 |int (t:Tok):T[i]?=tf t->dD t wI=ti->wK T i bG (i+1)
 |ptr (t u:Tok):T[i]?=tf t->t.kind=1->T[i+1]?=tf u->dD u jJ=ti->wK T i (ti,t.text) (i+2)
def Gw (t:Ty):cw:= tv #[tt t.1,tm t.2]
theorem lH {t:Tok}{s:bl}(h:t.kind=1):dD t s=tj:=by unfold dD;rw[h];rfl
theorem CB {r lb cap:bj}{T:bp Tok}{i:bj}{t:Tok}(w:World)(h:Rd r lb cap T i w)(o:T[i]?=tf t)(d:dD t wI=ti):
  fj am 209 #[tr (tf ⟨r,0,th⟩)] w λe w'=>e= tB (tv #[tt tj,tm ⟨#[]⟩])/\bL r lb cap T (i+1) w w':=by
 obtain⟨N,f⟩:=zE w.heap.size;obtain⟨W1,g⟩:=zE (w.alloc (tA #[tt tj,tm ⟨#[]⟩] 32));have q:=ik g f;have z:W1.heap[N]?=tf (tA #[tt tj,tm ⟨#[]⟩] 32 (0,0)):=by rw[<-g,<-f];exact alloc_at _ _
 have A:W1.heap.size=N+1:=by rw[<-g];simp[f]
 have x:=h.grow (by rw[f];exact q);have y:=zH (bi wI W1 x o);rw[d] at y;unfold wI at y;have tS:i<T.length:=(bo.1 o).1;have hT:=h.short;have tU:r<N:=by rw[<-f];exact h.rlt
 have R:cg (lb<N):=by unfold cg;rw[<-f];exact h.lt
 have tD:=zH g;have tE:=zH q;have tG:=zH z;have tM:=zH A;have H1:=zH x;clear h o d g q z x A;go_enter func209,ntmps209
 go_upto_region 2 with(go_at_call 172;rw[tD.out];refine y.out.mono ?_;rintro e w2 ⟨rfl,j⟩;have tP:=zH j;have E:=zH (H1.out.grow j);have G:=zH ((j.block N (by rw[tM.out];omega)).trans tG.out);clear j)
 obtain⟨c0,c1,c3,f1,hr⟩:=E.out.cells;obtain⟨⟨p0,p1⟩,⟨q0,q1⟩,tW⟩:=bZ G.out;have tR:N≠r:=by omega
 go_wp2;(try simp only[cQ,Exit.then]);refine dk (er (P:=am) rfl _ _ N 32 _ (0,0) _ rfl (aW ((cT _ _ _ N tR).trans G.out)) dT rfl (by kernel_rfl)) rfl ?_;have J:bL r lb cap T (i+1) w (w2.setCell ⟨r,1,th⟩ (Z U ((i:aw)+1))):=⟨E.out.step,((Ext.of_below_size (M:=(·=r)) (show aE w.heap.size w W1 by rw[f];exact tE.out)).trans (Ext.of_below_size (M:=(·=r)) tP.out) (λk d=> .inl d)).trans (Ext.set1 w2 r 1 _) (λk d=> .inl d)⟩
 have K:∀W u v,Ext (·=N) W ((W.setCell ⟨N,0,th⟩ u).setCell ⟨N,1,th⟩ v):=λW u v=>(Ext.set1 W N 0 u).trans (Ext.set1 _ N 1 v) (λk d=> .inl d);exact⟨rfl,J.1.ext (K _ _ _) (by omega) (by have:=R.out;omega),J.2.trans (K _ _ _) (λk d=> .inr (by omega))⟩
theorem vw {r lb cap:bj}{T:bp Tok}{i:bj}{t u:Tok}(w:World)(h:Rd r lb cap T i w)(j:T[i]?=tf t)(f:t.kind=1)(E:T[i+1]?=tf u)(G:dD u jJ=ti):
  fj am 209 #[tr (tf ⟨r,0,th⟩)] w λe w'=>e= tB (tv #[tt ti,tm t.text])/\bL r lb cap T (i+2) w w':=by
 obtain⟨N,d⟩:=zE w.heap.size;obtain⟨W1,g⟩:=zE (w.alloc (tA #[tt tj,tm ⟨#[]⟩] 32));have o:=ik g d;have J:W1.heap[N]?=tf (tA #[tt tj,tm ⟨#[]⟩] 32 (0,0)):=by rw[<-g,<-d];exact alloc_at _ _
 have K:W1.heap.size=N+1:=by rw[<-g];simp[d]
 have q:=h.grow (by rw[d];exact o);have x:=zH (bi wI W1 q j);rw[lH f] at x;unfold wI at x;have ua:cg (∀W,aE W1.heap.size W1 W->fj am 208 #[tr (tf ⟨r,0,th⟩)] W λe w'=>e= tB (.tuple #[tm t.text,tv #[Z U t.ln,Z U t.cl]])/\bL r lb cap T (i+1) W w'):=λW y=>dU W (q.grow y) j f;have R:cg (∀W,Rd r lb cap T (i+1) W->fj am 207 #[tr (tf ⟨r,0,th⟩),tm jJ] W λe w'=>e= tB (.tuple #[])/\bL r lb cap T (i+1+1) W w'):=λW y=>aY jJ W y E G;unfold jJ at R;have vc:r<N:=by rw[<-d];exact h.rlt
 have ub:cg (lb<N):=by unfold cg;rw[<-d];exact h.lt
 have hst:∀(w:World)(c:dl cw),c.size=2->(dd ⟨w.heap.size,0,th⟩ [Z U t.ln,Z U t.cl] 0).run am (w.alloc (tA c 40))= .ok () (w.alloc (tA #[Z U t.ln,Z U t.cl] 40)):=λw c hc=>
  cr (P:=am) w 40 c #[Z U t.ln,Z U t.cl] (by show _=tf 2;kernel_rfl) hc (by simp[cn])
 have uc:=zH hst;have ud:=zH g;have ue:=zH o;have up:=zH J;have vd:=zH K;clear h j f E G g o J q K hst;go_enter func209,ntmps209
 go_upto_region 5 with(first
  |(go_at_call 172;rw[ud.out];refine x.out.mono ?_;rintro e w2 ⟨rfl,tD⟩;have tE:=zH tD;clear tD)
  |(go_at_call 208;refine(ua.out _ tE.out).mono ?_;rintro e w3 ⟨rfl,tG⟩;have ur:=zH tG;have uv:=uc.out w3;clear tG))
 clear uv;obtain⟨W4,z⟩:=zE (w3.alloc (tA #[Z U t.ln,Z U t.cl] 40));rw[z];have tM:=gy z;have tP:bL r lb cap T (i+1) W1 W4:=(bL.grown tE.out ur.out).grow tM;have tR:=zH tP;clear z tM tP
 go_upto_region 6 with(go_at_call 207;refine(R.out _ tR.out.1).mono ?_;rintro e w5 ⟨rfl,tS⟩;have tU:=zH (tR.out.trans tS);clear tS)
 have A:=tU.out.2.heap up.out (by omega);have ux:=zH A;obtain⟨⟨p0,p1⟩,⟨q0,q1⟩,vf⟩:=bZ A;clear A;go_wp2;(try simp only[cQ,Exit.then]);refine dk (er (P:=am) rfl _ _ N 32 _ (0,0) _ rfl (aW ux.out) dT rfl (by kernel_rfl)) rfl ?_;have hM:bL r lb cap T (i+1+1) w w5:=bL.grown (by rw[d];exact ue.out) tU.out;have tW:∀W u v,Ext (·=N) W ((W.setCell ⟨N,0,th⟩ u).setCell ⟨N,1,th⟩ v):=λW u v=>(Ext.set1 W N 0 u).trans (Ext.set1 _ N 1 v) (λk f=> .inl f);exact⟨rfl,hM.1.ext (tW _ _ _) (by omega) (by have:=ub.out;omega),hM.2.trans (tW _ _ _) (λk f=> .inr (by omega))⟩
theorem qb {r lb cap:bj}{T:bp Tok}{i k:bj}{y:Ty}(w:World)(h:Rd r lb cap T i w)(g:wK T i y k):
  fj am 209 #[tr (tf ⟨r,0,th⟩)] w λe w'=>e= tB (Gw y)/\bL r lb cap T k w w':=by
 cases g with
 |int t d f=>exact CB w h d f
 |ptr t u d f j o=>exact vw w h d f j o
structure Ex where
 kind:aw
 n:aw
 nm:bl
 ln:aw
 cl:aw
def Ex.cells (e:Ex):dl cw:=#[Z U e.kind,Z U e.n,tm e.nm,tm ⟨#[]⟩,tn th 0 0,Z U e.ln,Z U e.cl]
theorem rF (e:Ex)(w:World):fj am 277 #[tv e.cells] w λj w'=>j= tB (Z U 1)/\aE w.heap.size w w':=by
 obtain⟨N,f⟩:=zE w.heap.size;unfold Ex.cells;go_enter func277,ntmps277;go_wp2;obtain⟨W1,d⟩:=zE (w.alloc (tA #[Z U e.kind,Z U e.n,tm e.nm,tm ⟨#[]⟩,tn th 0 0,Z U e.ln,Z U e.cl] 313));have g:=ik d f;have h:W1.heap[N]?=tf (tA #[Z U e.kind,Z U e.n,tm e.nm,tm ⟨#[]⟩,tn th 0 0,Z U e.ln,Z U e.cl] 313 (0,0)):=by rw[<-d,<-f];exact alloc_at _ _
 obtain⟨⟨c0,c1,c2,c3,c4,q,t⟩,_,u⟩:=ed h;rw[d];have o:=zH g;clear d g h
 go_loop [3,4] (λn i=>n= Z U 0/\i= Z U 0) (λ_ _=>0)
 case atStart=>exact⟨rfl,rfl⟩
 case round=>
  obtain⟨rfl,rfl⟩:=hrel;go_wp2;go_ret;(try rw[f]);exact⟨rfl,o.out⟩
theorem jE {r lb cap:bj}{T:bp Tok}{i:bj}(e:Ex)(w:World)(h:Rd r lb cap T i w):
  fj am 273 #[tr (tf ⟨r,0,th⟩),tv e.cells] w λE w'=>E= tB (tv e.cells)/\aE w.heap.size w w':=by
 obtain⟨N,d⟩:=zE w.heap.size;obtain⟨W1,f⟩:=zE ((w.alloc (tA #[Z U e.kind,Z U e.n,tm e.nm,tm ⟨#[]⟩,tn th 0 0,Z U e.ln,Z U e.cl] 313)).alloc (tA #[Z U 0,Z U 0,tm ⟨#[]⟩,tm ⟨#[]⟩,tn th 0 0,Z U 0,Z U 0] 313));have q:=vg f d;have g:=vZ f d;have j:=yo f d;have v:W1.heap.size=N+2:=by rw[<-f];simp[d]
 have x:=h.grow (by rw[d];exact q);have y:cg (∀W,aE W1.heap.size W1 W->zS 171 #[tr (tf ⟨r,0,th⟩)] W (tt tj)):=λW G=>bB W (x.grow G);have t:=λW=>rF e W;unfold Ex.cells at t⊢;have J:=zH t;obtain⟨⟨c0,c1,c2,c3,c4,K,R⟩,_,tS⟩:=ed g;have tD:=zH f;have tE:=zH q;have tG:=zH g;have tM:=zH j;have u:=zH v;clear h f q g j v x t;go_enter func273,ntmps273
 go_upto_region 1 with(fail)
 rw[tD.out]
 go_upto_region 3 with(first
  |(go_at_call 171;refine(y.out W1 (aq _ _)).mono ?_;rintro e w2 ⟨rfl,rfl⟩)
  |(go_at_call 277;refine(J.out _).mono ?_;rintro e w2 ⟨rfl,z⟩;have o:=zH z;clear z))
 have g:=(o.out.block N (by rw[u.out];omega)).trans tG.out;have j:=(o.out.block (N+1) (by rw[u.out];omega)).trans tM.out;obtain⟨⟨c0,c1,c2,c3,c4,K,R⟩,_,tU⟩:=ed g;obtain⟨⟨g0,g1,g2,g3,g4,g5,g6⟩,⟨f0,f1,f2,f3,f4,f5,f6⟩,tW⟩:=ed j;have tP:=zH j;have A:cg (aE N w w2):=tE.out.trans (o.out.mono (by rw[u.out];omega));have tR:=zH (y.out w2 o.out);clear g j
 go_wp2_with (go_at_call 171;refine tR.out.mono ?_;rintro e w3 ⟨rfl,rfl⟩)
 (try simp only[cQ,Exit.then]);refine dk (er (P:=am) rfl _ _ (N+1) 313 _ (0,0) _ rfl (fM tP.out) hZ rfl (by kernel_rfl)) rfl ?_;(try rw[d]);exact⟨rfl,A.out.trans ((bV _ _ _ _ _ _ _ _ _).below (eN (by omega) A.out.size) (λk hk=>by omega))⟩
end Go.Proofs.YtjomgckjhcfbgaaGreat
