/- Walks. -/
import Derived.Deep.QuietTactic
import Derived.BigQuiet
import Derived.Test.YtjomgckjhcfbgaaGreatY0
set_option maxRecDepth 100000
set_option maxHeartbeats 64000000
set_option linter.all false
namespace Go.Proofs.YtjomgckjhcfbgaaGreat
open Go.RowKit
open Go.Proofs.Tryz renaming prog→ac,underlying32→ey,underlying263→it,underlying313→i5,underlying40→m5,underlying113→ph
open _root_.List renaming getElem?_eq_getElem→am,getElem?_eq_some_iff→ap,mem_of_getElem?→cf,length_append→cw,mem_append→cT,take_length→de,eq_nil_of_length_eq_zero→du,flatMap_append→eK,map_append→fL,append_assoc→fR,any_eq_true→kq,any_eq_false→lz,append_nil→mj,take_add_one→mT
open Go.RowKit.Below renaming refl→aq,heap_alloc→cn,heap_setCell→dl
open _root_ renaming ByteArray→aE,List→bm,Int→bp,Nat→bx,if_neg→cE,decide_eq_false→cL,if_pos→cR,Array→da,beq_eq_false_iff_ne→dp,decide_eq_true→ef,Option→eA,absurd→fW,decide_eq_true_eq→ly,False→mb,Bool→nj,iff_of_false→pP,of_decide_eq_true→qe
open Go.RowKit renaming Below→bh,Hid→cm,ownsRow_setCell_below→lr
open Go renaming heap_setCell_same→bk,cell_of_row→cc,Value→cd,run_storeCells_new→ct,storeCells→dr,bodyPost_ret→dv,maxLen→dT,wpQuiet_nil→eh,frozen_of_row→eq,results_cell_row→eI,beq_toListBytes→fY,Calls→gd,TypeId→gx,info_parts→gA,heap_alloc2_old→ia,Oper→ke,Program→km,heap_alloc2_new→lx,bytes→py,wpList→sL
open _root_.Nat renaming lt_of_lt_of_le→bl,le_refl→ce,zero_le→cN,le_trans→cY,not_lt_zero→kh,add_zero→mx,sub_self→m6
open Go.Value renaming oneCell'→cj,int→eE,string→fh,string→tM,slice→tP,pointer→tR,bool→tU,agg→tW,int→Z
open _root_.Option.some renaming inj→cD
open Go.Exit renaming inBlock→db
open _root_.Bool renaming and_eq_true→eN,or_eq_false_iff→ij,true→tE,false→tG
open Go.Result renaming andThen→fX
open _root_.Option renaming map_eq_some_iff→i8,some→tB,none→tD
open Go.Builtin renaming append_→jp
open Go.Oper renaming wp→lR
open Go.IntKind renaming i64→me,i64→U
open _root_.ByteArray renaming size_extract→oy
open Go.ByteArray renaming toList_eq→pi
open Go.Ending renaming returned→sE,returned→ub
open Go.Obj renaming cells→ua
open Tryz
theorem au {w:World}{base:bx}{e:gx}{size n:bx}{v:cd}{xs:bm cd}(h:w.ownsRow base e size v n xs){k:bx}(d:v.ownBlock=tB k):base<=k/\k<w.heap.size:=h.lt k d
theorem af {w w':World}{base:bx}{e:gx}{size n:bx}{v:cd}{xs:bm cd}{M:bx->Prop}(h:w.ownsRow base e size v n xs)(f:Ext M w w')(q:∀k,v.ownBlock=tB k->¬M k):w'.ownsRow base e size v n xs:=by
 refine⟨h.1, ?_⟩;rcases h.2 with u|⟨g,cap,cur,d,A,D,G⟩
 ·exact .inl u
 ·refine .inr ⟨g,cap,cur,d,A,f.heap D (q g (by rw[d];rfl)),G⟩
theorem ai {w:World}{base m f:bx}{e:gx}{v:cd}{xs:bm cd}(h:w.ownsRow base e f v m xs):∃q cap,v= tP q m cap:=by
 rcases h.2 with⟨d,u⟩|⟨g,cap,cur,d,_⟩
 ·exact⟨tD,0,by rw[u];exact d⟩
 ·exact⟨_,_,d⟩
theorem bW {P:km}{W:World}{ops:da ke}{rest:bm ke}{o:ke}{a:Act}{Q:Exit->Act->World->Prop}(D:o.guard=tD)(s x:Operand)(t:gx)
  (G:o.op= .call {callee:= .builtin .append,args:=#[s,x],argTypes:=#[t,t]})(base:bx)(e:gx)(i:TypeInfo)(z:cd)(size py:bx)(J:P.underlying t=tB (.slice e))(hi:P.info? e=tB i)(hz:i.zero=tB z)
  (uc:i.size=size)(ud:i.bytes=py)(ue:z.cells.size=size)(ur:0<size)
  (v:cd)(n:bx)(xs:bm cd)(hs:a.eval s=v)(uv:W.ownsRow base e size v n xs)
  (B:bx)(d:da cd)(hB:B=W.heap.size)(hx:a.eval x= tP (tB ⟨B,0,tD⟩) 1 1)(ux:d.size=size)(h1:∀u∈d.toList,u.oneCell'=tE)
  (va:n+1<=dT)(vc:(n+1)*py<=140737488355328)(vf:base<=W.heap.size)
  (h:∀f w',w'.ownsRow base e size f (n+1) (xs++d.toList)->Ext (λk=>v.ownBlock=tB k) W w'->(∀k,f.ownBlock=tB k->v.ownBlock=tB k\/W.heap.size<=k)->sL P ops Q rest (a.put o.dst f) w'):
  sL P ops Q (o::rest) a (W.alloc (ua d e)):=by
 subst hB;refine jG D s x t G base e i z size py J hi hz uc ud ue ur v n xs hs (uv.alloc _) (tB ⟨W.heap.size,0,tD⟩) 1 1 d.toList hx (by simp[ux]) (λh=>by cases h)
  (λad vd j u hu=> ?_) h1 va vc (by rw[World.size_alloc];omega) (λf w' r1 q r3=> ?_)
 ·obtain rfl:(⟨W.heap.size,0,tD⟩:Addr)=ad:=by simpa using vd
  have:=vW W d.toList e j u hu;simpa using this
 ·refine h f w' r1 ?_ (λk A=> ?_)
  ·refine⟨q.os,q.tape,q.output,by have:=q.size;rw[World.size_alloc] at this;omega,λk A hn=> ?_⟩
   rw[q.block k (by rw[World.size_alloc];omega) (λe=>hn e.symm)];exact cn W _ k A
  ·rcases r3 k A with h|h
   ·exact .inl h
   ·right;rw[World.size_alloc] at h;omega
theorem aH {P:km}{w:World}{o:ke}{a:Act}{Q:Exit->Act->World->Prop}{K:Act->World->Prop}(s x:Operand)(t:gx)
  (ho:o.op= .call {callee:= .builtin .append,args:=#[s,x],argTypes:=#[t,t]})(base:bx)(e:gx)(i:TypeInfo)(z:cd)(size py:bx)(ht:P.underlying t=tB (.slice e))(hi:P.info? e=tB i)(hz:i.zero=tB z)
  (uc:i.size=size)(ud:i.bytes=py)(ue:z.cells.size=size)(ur:0<size)
  (v:cd)(n:bx)(xs:bm cd)(hs:a.eval s=v)(J:w.ownsRow base e size v n xs)
  (q:eA Addr)(m c:bx)(f:bm cd)(hx:a.eval x= tP q m c)(hl:f.length=m*size)(uv:q=tD->m=0)(ux:∀A,q=tB A->∀j u,f[j]?=tB u->w.cell? (A.add j)=tB u)(h1:∀u∈f,u.oneCell'=tE)
  (va:n+m<=dT)(vc:(n+m)*py<=140737488355328)(vd:base<=w.heap.size)
  (h:∀d w',w'.ownsRow base e size d (n+m) (xs++f)->w.grownBy w' v.ownBlock->(∀k,d.ownBlock=tB k->v.ownBlock=tB k\/w.heap.size<=k)->K (a.put o.dst d) w'):lR P o a w K Q:=by
 have vf:∃d w',(jp #[t,t] o.type #[v,tP q m c]).run P w= .ok d w'/\w'.ownsRow base e size d (n+m) (xs++f)/\w.grownBy w' v.ownBlock/\(∀k,d.ownBlock=tB k->v.ownBlock=tB k\/w.heap.size<=k):=by
  cases q with
  |none=>
   obtain rfl:=uv rfl;have hn:f=[]:=du (by omega);subst hn;exact⟨v,w,run_append_nil w base t o.type e i size ht hi v n xs J c,by simpa using J,World.grownBy.refl w _,λk D=> .inl D⟩
  |some A=>
   obtain⟨d,w',r1,r2,r3,_,G⟩:=run_append_own_at w base t o.type e i z size py ht hi hz uc ud ue ur v n xs J A m c f hl (ux A rfl) h1 va vc vd;refine⟨d,w',r1,r2,r3,λk D=> ?_⟩;rcases G with G|G
   ·exact .inl (by rw[<-G];exact D)
   ·right;rw[G] at D;simp at D;omega
 obtain⟨d,w',r1,r2,r3,r4⟩:=vf;unfold lR;simp[execOp,ho,resolve,invoke,builtin,hs,hx,r1,fX];exact h _ _ r2 r3 r4
def fu (c:bp):nj:=decide (65<=c)&&decide (c<=90)||decide (97<=c)&&decide (c<=122)||decide (c=95)
def jf (c:bp):nj:=decide (48<=c)&&decide (c<=57)
def eY (s:aE)(i:bx):bp:=if h:i<s.size then((s[i]'h).toNat:bp) else 0
theorem gG {b:nj}{p:Prop}{x:nj}(d:x=tE↔p)(h:b=tE↔p):sE (tU b)= ub (tU x):=by
 rw[Bool.eq_iff_iff.2 (h.trans d.symm)]
theorem AV (c:bp):fu c=tE↔(65<=c/\c<=90\/97<=c/\c<=122)\/c=95:=by unfold fu;simp
theorem vY (c:bp):jf c=tE↔48<=c/\c<=57:=by unfold jf;simp
theorem gH (c:bp)(w:World):zS 203 #[.int .u8 c] w (tU (fu c)):=by
 have d:=zH (AV c);go_enter func203,ntmps203
 by_cases v:65<=c
 ·by_cases A:c<=90
  ·go_wp2
   go_ret;exact⟨gG d.out (iff_of_true rfl (by omega)),rfl⟩
  ·by_cases u:97<=c
   ·by_cases D:c<=122
    ·go_wp2
     go_ret;exact⟨gG d.out (iff_of_true rfl (by omega)),rfl⟩
    ·have f:(c==95)=tG:=by rw[dp];omega
     go_wp2;go_ret;exact⟨gG d.out (pP (λh=>by cases h) (by omega)),rfl⟩
   ·by_cases q:c=95
    ·subst q
     go_wp2;go_ret;exact⟨gG d.out (iff_of_true rfl (by simp)),rfl⟩
    ·have f:(c==95)=tG:=by rw[dp];exact q
     go_wp2;go_ret;exact⟨gG d.out (pP (λh=>by cases h) (by omega)),rfl⟩
 ·have u:¬97<=c:=by omega
  have f:(c==95)=tG:=by rw[dp];omega
  go_wp2;go_ret;exact⟨gG d.out (pP (λh=>by cases h) (by omega)),rfl⟩
theorem jH (c:bp)(w:World):zS 204 #[.int .u8 c] w (tU (jf c)):=by
 have d:=zH (vY c);go_enter func204,ntmps204
 by_cases f:48<=c
 ·by_cases q:c<=57
  ·go_wp2
   go_ret;exact⟨gG d.out (iff_of_true rfl (by omega)),rfl⟩
  ·go_wp2
   go_ret;exact⟨gG d.out (pP (λh=>by cases h) (by omega)),rfl⟩
 ·go_wp2
  go_ret;exact⟨gG d.out (pP (λh=>by cases h) (by omega)),rfl⟩
def iM:bm aE:=[⟨#[105,110,116]⟩,⟨#[115,116,114,117,99,116]⟩,⟨#[105,102]⟩,⟨#[101,108,115,101]⟩,⟨#[119,104,105,108,101]⟩,⟨#[98,114,101,97,107]⟩,⟨#[99,111,110,116,105,110,117,101]⟩,⟨#[114,101,116,117,114,110]⟩,⟨#[102,114,101,101]⟩,⟨#[112,117,116]⟩,⟨#[110,101,119]⟩,⟨#[110,117,108,108]⟩,⟨#[103,101,116]⟩]
theorem uH (w:World):gd ac 240 #[] w λe w'=>e= ub (tP (tB ⟨w.heap.size,0,tD⟩) 13 13)/\w'=w.alloc (ua (iM.map fh).toArray 9):=by
 have d:(iM.map fh).toArray=#[tM ⟨#[105,110,116]⟩,tM ⟨#[115,116,114,117,99,116]⟩,tM ⟨#[105,102]⟩,tM ⟨#[101,108,115,101]⟩,tM ⟨#[119,104,105,108,101]⟩,tM ⟨#[98,114,101,97,107]⟩,tM ⟨#[99,111,110,116,105,110,117,101]⟩,tM ⟨#[114,101,116,117,114,110]⟩,tM ⟨#[102,114,101,101]⟩,tM ⟨#[112,117,116]⟩,tM ⟨#[110,101,119]⟩,tM ⟨#[110,117,108,108]⟩,tM ⟨#[103,101,116]⟩]:=rfl;rw[d];clear d;go_enter func240,ntmps240;go_wp2;go_ret;exact⟨rfl,rfl⟩
def iN (s:aE):nj:=iM.any λx=>x==s
theorem xm (s:aE)(w:World):zP 205 #[tM s] w (tU (iN s)):=by
 obtain⟨N,v⟩:=zE w.heap.size;obtain⟨A,q⟩:=zE (w.alloc (ua (iM.map fh).toArray 9));have uc:=zH (uH w);rw[v,q] at uc;have D:=iV q v;have ud:A.heap[N]?=tB (ua (iM.map fh).toArray 9 (0,0)):=by rw[<-q,<-v];exact alloc_at _ _
 have HC:cm (∀(j:bx)(x:aE),iM[j]?=tB x->A.cell? ⟨N,j,tD⟩=tB (tM x)):=λj x f=>by
  rw[cc _ _ _ _ _ _ ud];simp[f]
 have HB:=zH D;have HL:cm (iM.length=13):=rfl;have HP:cm (∀b:nj,b=iN s->(sE (tU b)= ub (tU (iN s))/\bh N w A)):=λb hb=>by rw[hb];exact⟨rfl,D⟩
 clear q D ud;go_enter func205,ntmps205
 go_wp2_with (go_at_call 240;refine uc.out.mono ?_;rintro e w2 ⟨rfl,rfl⟩)
 go_loop [4] (λk=>∃j:bx,j<=13/\k= Z U (j:bp)/\∀x∈iM.take j,(x==s)=tG) (λk=>13-(intOf k).toNat)
 case atStart=>exact⟨0,cN _,rfl,by simp⟩
 case round=>
  obtain⟨j,hj,rfl,u⟩:=hrel
  by_cases ue:j<13
  ·obtain⟨y,G⟩:∃y,iM[j]?=tB y:=⟨_,am (by rw[HL.out];exact ue)⟩
   have d1:=HC.out j y G;have uv:(j:bp)<13:=by omega
   obtain⟨d,J⟩:=zE (y==s);have hd:(y.toList==s.toList)=d:=by rw[<-fY];exact J
   have HZ:=zH u;have HY:=zH G;have HD:=zH J;clear G u J;cases d with
   |true=>
    go_wp2;go_ret;refine HP.out tE ?_;unfold iN;exact(kq.2 ⟨y,cf HY.out,HD.out⟩).symm
   |false=>
    go_wp2
    go_round
    case rel=>
     refine⟨j+1,by omega,by go_num,λx f=> ?_⟩;rw[mT,HY.out] at f;rcases cT.1 f with h|h
     ·exact HZ.out x h
     ·have e:x=y:=by simpa using h
      rw[e];exact HD.out
    case measure=>simp[intOf];omega
  ·have ur:j=13:=by omega
   subst ur;have HM:cm (tG=iN s):=by
    unfold cm iN;rw[eq_comm,lz];intro x f;have:=u x (by rw[List.take_of_length_le (by rw[HL.out];exact ce _)];exact f);rw[this];simp
   clear u;go_wp2;go_ret;exact HP.out tG HM.out
def isSp (c:bp):nj:=c==32||c==9||c==10
def fZ (s:aE):bx->bx->bx
 |0,i=>i
 |n+1,i=>if isSp (eY s i)=tE then fZ s n (i+1) else i
def cO (s:aE):bx->bx->bx
 |0,k=>k
 |n+1,k=>if (fu (eY s k)||jf (eY s k))=tE then cO s n (k+1) else k
theorem lZ (s:aE):∀(n i:bx),i<=fZ s n i/\fZ s n i<=i+n
 |0,i=>by simp[fZ]
 |n+1,i=>by
  unfold fZ
  split
  ·have:=lZ s n (i+1);omega
  ·omega
theorem gY (s:aE):∀(n i:bx),i<=cO s n i/\cO s n i<=i+n
 |0,i=>by simp[cO]
 |n+1,i=>by
  unfold cO
  split
  ·have:=gY s n (i+1);omega
  ·omega
def fK:bm aE:=[⟨#[45,62]⟩,⟨#[60,61]⟩,⟨#[62,61]⟩,⟨#[61,61]⟩,⟨#[33,61]⟩,⟨#[43]⟩,⟨#[45]⟩,⟨#[42]⟩,⟨#[47]⟩,⟨#[37]⟩,⟨#[60]⟩,⟨#[62]⟩,⟨#[33]⟩,⟨#[61]⟩,⟨#[40]⟩,⟨#[41]⟩,⟨#[123]⟩,⟨#[125]⟩,⟨#[44]⟩,⟨#[59]⟩]
structure Tok where
 kind:bp
 text:aE
 n:bp
 ln:bp
 cl:bp
def Tok.cells (t:Tok):da cd:=#[Z U t.kind,tM t.text,Z U t.n,Z U t.ln,Z U t.cl]
abbrev AC:=bp×aE×bp
def Tok.sig (t:Tok):AC:=(t.kind,t.text,t.n)
def gI (s:aE)(i:bx)(g:aE):nj:=decide (g.size<=s.size-i)&&(s.extract i (i+g.size)==g)
def AX (s:aE)(i:bx):eA AC:=
 if fu (eY s i)=tE then
  (if cO s (s.size-i) i<=i+40 then tB (if iN (s.extract i (cO s (s.size-i) i))=tE then 2 else 1,s.extract i (cO s (s.size-i) i),0) else tD)
 else if jf (eY s i)=tE then
  (if i+1<s.size/\(jf (eY s (i+1))||fu (eY s (i+1)))=tG then tB (3,s.extract i (i+1),eY s i-48) else tD)
 else(fK.find? (gI s i)).map λg=>(4,g,0)
def l5 (s:aE):bx->bx->eA (bm AC)
 |0,_=>tD
 |n+1,i=>if i<s.size then(match AX s i with
   |some t=>(l5 s n (fZ s (s.size-(i+t.2.1.size)) (i+t.2.1.size))).map (t::·)
   |none=>tD)
  else tB []
theorem jY {s:aE}{j:bx}(h:j<s.size):((s[j]'h).toNat:bp)=eY s j:=by unfold eY;rw[dif_pos h]
def om (s:aE):Prop:=∀i,eY s i≠47
theorem xn (s:aE)(i:bx)(w:World)(ue:om s)(hs:s.size<=9000000)(hi:i<=s.size):
  zS 166 #[tM s,Z U (i:bp)] w (Z U (fZ s (s.size-i) i:bx)):=by
 obtain⟨R,D⟩:=zE (fZ s (s.size-i) i);rw[D];have ux:=zH ue;have G:=zH D;clear ue D;go_enter func166,ntmps166;go_wp2
 go_loop [1] (λk=>∃j:bx,j<=s.size/\k= Z U (j:bp)/\fZ s (s.size-j) j=R) (λk=>s.size-(intOf k).toNat)
 case atStart=>exact⟨i,hi,rfl,G.out⟩
 case round=>
  obtain⟨j,hj,rfl,d⟩:=hrel
  by_cases ur:j<s.size
  ·have vd:(j:bp)<(s.size:bp):=by omega
   obtain⟨c,h⟩:=zE (((s[j]'ur).toNat:bp):bp);have q:eY s j=c:=by rw[<-jY ur];exact h
   have J:c≠47:=by rw[<-q];exact ux.out j
   have uc:s.size-j=s.size-(j+1)+1:=by omega
   rw[uc] at d;unfold fZ at d;rw[q] at d;have f47:(c==47)=tG:=by rw[dp];exact J
   by_cases f:isSp c=tE
   ·rw[cR f] at d
    have HZ:=zH d;unfold isSp at f;obtain⟨b1,u⟩:=zE (c==32);obtain⟨b2,v⟩:=zE (c==9);obtain⟨b3,A⟩:=zE (c==10);rw[u,v,A] at f;have uv:=zH f;clear d f q J f47 uc;rw[<-h] at u v A;clear h;have HN:cm (∃k:bx,k<=s.size/\eE .i64 ((j:bp)+1)= Z U (k:bp)/\fZ s (s.size-k) k=R):=⟨j+1,by omega,by simp,HZ.out⟩
    clear HZ;cases b1<;>cases b2<;>cases b3<;>first
     |(exact fW uv.out (by decide))
     |(clear uv;go_wp2;go_round;case rel=>exact HN.out
       case measure=>simp[intOf];omega)
   ·rw[cE f] at d
    subst d;have ud:isSp c=tG:=by simpa using f
    unfold isSp at ud;simp only[ij] at ud;obtain⟨⟨u,v⟩,A⟩:=ud;clear f q J uc G;rw[<-h] at u v A f47;clear h
    by_cases vf:j+1<s.size
    ·have va:(j:bp)+1<(s.size:bp):=by omega
     go_wp2;go_ret;exact⟨rfl,rfl⟩
    ·have va:¬(j:bp)+1<(s.size:bp):=by omega
     go_wp2;go_ret;exact⟨rfl,rfl⟩
  ·have vc:j=s.size:=by omega
   subst vc;rw[m6] at d;unfold fZ at d;subst d;clear G;go_wp2;go_ret;exact⟨rfl,rfl⟩
def Ch (w:World)(e:Ending)(w':World):Prop:=∃a b:bp,e= ub (tW #[Z U a,Z U b])/\0<=a/\a<=9000001/\0<=b/\b<=9000001/\bh w.heap.size w w'
def Gp (W:World)(N:bx)(w:World)(j:bx)(wr:World):Prop:=∃a b:bp,0<=a/\a<=(j:bp)+1/\0<=b/\b<=(j:bp)+1/\wr.heap[N]?=tB (ua #[Z U 0,Z U 0] 40 (0,0))/\wr.heap[N+1]?=tB (ua #[Z U a,Z U b] 40 (0,0))/\bh N w wr/\wr.heap.size=W.heap.size
theorem uI (s:aE)(n:bx)(w:World)(hs:s.size<=9000000)(hn:n<=s.size):
  gd ac 167 #[tM s,Z U (n:bp)] w (Ch w):=by
 obtain⟨N,d⟩:=zE w.heap.size;have hst:∀(w:World)(c:da cd),c.size=2->(dr ⟨w.heap.size,0,tD⟩ [Z U 1,Z U 1] 0).run ac (w.alloc (ua c 40))= .ok () (w.alloc (ua #[Z U 1,Z U 1] 40)):=λw c hc=>
  ct (P:=ac) w 40 c #[Z U 1,Z U 1] (by show _=tB 2;kernel_rfl) hc (by simp[cj])
 go_enter func167,ntmps167;go_wp2;clear hst;obtain⟨u,f⟩:=zE ((w.alloc (ua #[Z U 0,Z U 0] 40)).alloc (ua #[Z U 1,Z U 1] 40));have h0:Gp u N w 0 u:=⟨1,1,by omega,by omega,by omega,by omega,by rw[<-f,<-d];exact ia _ _ _,by rw[<-f,<-d];exact lx _ _ _,by rw[<-f,<-d];exact((aq _ _).alloc (ce _) _).alloc (by simp) _,rfl⟩
 rw[f];have D:N+1<u.heap.size:=by rw[<-f];simp[d]
 have HN:=zH d;have H0:=zH h0;have vc:=zH D;clear f d h0 D
 go_loopw [6] (λk wr=>∃j:bx,j<=n/\k= Z U (j:bp)/\Gp u N w j wr) (λk _=>n-(intOf k).toNat)
 case atStart=>exact⟨0,cN _,rfl,H0.out⟩
 case round=>
  obtain⟨j,hj,rfl,a,b,uv,ha,ux,hb,h,q,G,J⟩:=hrel;have v:=zH G;have uc:=zH J;have c0:=zR q 0 (Z U a);have c1:=zR q 1 (Z U b);have f0:wr.frozen? ⟨N+1,0,tD⟩=tG:=eq _ _ _ _ _ q;have f1:wr.frozen? ⟨N+1,1,tD⟩=tG:=eq _ _ _ _ _ q;have k0:=zR h 0 (Z U 0);have k1:=zR h 1 (Z U 0);have g0:wr.frozen? ⟨N,0,tD⟩=tG:=eq _ _ _ _ _ h;have g1:wr.frozen? ⟨N,1,tD⟩=tG:=eq _ _ _ _ _ h;have A:=zH h;have ud:=zH q;clear G J h q
  by_cases vd:j<n
  ·have va:(j:bp)<(n:bp):=by omega
   have ue:j<s.size:=by omega
   by_cases ur:(((s[j]'ue).toNat:bp)==10)=tE
   ·go_wp2
    go_roundw
    case rel=>
     refine⟨j+1,by omega,by go_num,a+1,1,by omega,by omega,by omega,by omega, ?_,bv ud.out, ?_, ?_⟩
     ·exact(dl _ _ _ N (by show N≠N+1;omega)).trans ((dl _ _ _ N (by show N≠N+1;omega)).trans A.out)
     ·exact(v.out.setCell (by show N<=N+1;omega) _).setCell (by show N<=N+1;omega) _
     ·simp[uc.out]
    case measure=>simp[intOf];omega
   ·have vf:(((s[j]'ue).toNat:bp)==10)=tG:=by simpa using ur
    clear ur;go_wp2;go_roundw
    case rel=>
     refine⟨j+1,by omega,by go_num,a,b+1,by omega,by omega,by omega,by omega, ?_, ?_, ?_, ?_⟩
     ·exact(dl _ _ _ N (by show N≠N+1;omega)).trans A.out
     ·have:=bk wr (N+1) 1 _ _ (Z U (b+1)) ud.out;simpa using this
     ·exact v.out.setCell (by show N<=N+1;omega) _
     ·simp[uc.out]
    case measure=>simp[intOf];omega
  ·have va:¬(j:bp)<(n:bp):=by omega
   have vh:a<=9000001:=by omega
   go_wp2;(try simp only[db,Exit.then]);refine dv (eI (P:=ac) rfl _ _ N 40 _ (0,0) _ rfl (bv A.out) m5 rfl (by kernel_rfl)) rfl ?_;refine⟨a,b,rfl,uv,by omega,ux,by omega, ?_⟩;rw[HN.out];exact(v.out.setCell (by show N<=N;omega) _).setCell (by show N<=N;omega) _
def CJ (k:bp)(s:aE)(n:bp):cd:= tW #[Z U k,tM s,Z U n,Z U 0,Z U 0]
theorem AY (s:aE)(i:bx)(w:World)(hs:s.size<=9000000)(hi:i<s.size)(hl:fu (eY s i)=tE)(xl:cO s (s.size-i) i<=i+40):
  zP 168 #[tM s,Z U (i:bp)] w (.tuple #[CJ (if iN (s.extract i (cO s (s.size-i) i))=tE then 2 else 1) (s.extract i (cO s (s.size-i) i)) 0,Z U 0]):=by
 obtain⟨R,hR⟩:=zE (cO s (s.size-i) i);have vi:=gY s (s.size-i) i;rw[hR] at vi xl⊢;have xT:=vi.1;have ya:R<=s.size:=by omega
 obtain⟨wf,vj⟩:=zE (iN (s.extract i R));rw[vj];obtain⟨kd,vm⟩:=zE ((if wf=tE then 2 else 1):bp);rw[vm];have HW:=zH (λW=>xm (s.extract i R) W);rw[vj] at HW;have we:=zH vm;have HR:=zH hR;have wg:=jY hi;obtain⟨c,hc⟩:=zE (((s[i]'hi).toNat:bp):bp);have wi:=zH (λW=>gH c W);have wj:fu c=tE:=by rw[<-hc,wg];exact hl
 rw[wj] at wi;have HC:=zH hc;have xo:=zH λc W=>gH c W;have xp:cm (∀(c:bp)(W:World),zS 204 #[.int .u8 c] W (tU (jf c))):=λc W=>jH c W;obtain⟨N,hN⟩:=zE w.heap.size;obtain⟨W1,ue⟩:=zE (w.alloc (ua #[Z U 0,tM ⟨#[]⟩,Z U 0,Z U 0,Z U 0] 263));obtain⟨v,A⟩:=zE (W1.alloc (ua #[Z U 1,tM (s.extract i R),Z U 0,Z U 0,Z U 0] 263));have wk:=iV ue hN;have ux:W1.heap.size=N+1:=by rw[<-ue];simp[hN]
 have ud:bh N w v:=by rw[<-A];exact wk.alloc (by omega) _
 have xr:v.heap.size=N+2:=by rw[<-A];simp[ux]
 have wl:v.heap[N]?=tB (ua #[Z U 0,tM ⟨#[]⟩,Z U 0,Z U 0,Z U 0] 263 (0,0)):=by rw[<-A,<-ue,<-hN];exact ia _ _ _
 have ws:v.heap[N+1]?=tB (ua #[Z U 1,tM (s.extract i R),Z U 0,Z U 0,Z U 0] 263 (0,0)):=by rw[<-A,<-ux];exact alloc_at _ _
 have HK:cm (∀W,bh v.heap.size v W->W.heap[N]?=tB (ua #[Z U 0,tM ⟨#[]⟩,Z U 0,Z U 0,Z U 0] 263 (0,0))/\W.heap[N+1]?=tB (ua #[Z U 1,tM (s.extract i R),Z U 0,Z U 0,Z U 0] 263 (0,0))/\bh N w W):=λW hW=>
  ⟨(hW.block N (by omega)).trans wl,(hW.block (N+1) (by omega)).trans ws,ud.trans (hW.mono (by omega))⟩
 have hst:∀(c:da cd),c.size=5->(dr ⟨W1.heap.size,0,tD⟩ [Z U 1,tM (s.extract i R),Z U 0,Z U 0,Z U 0] 0).run ac (W1.alloc (ua c 263))= .ok () v:=λc hc=>by
  rw[<-A];exact ct (P:=ac) W1 263 c #[Z U 1,tM (s.extract i R),Z U 0,Z U 0,Z U 0] (by show _=tB 5;kernel_rfl) hc (by simp[cj])
 have wx:=zH hst;have xf:=zH ux;have xt:=zH ue;have va:=zH A;have HN:=zH hN;clear hR vi vj vm wg hc wj hl hst ue A wk ud ux xr wl ws;go_enter func168,ntmps168
 go_wp2_with (go_at_call 203;(try rw[HC.out]);refine(wi.out _).mono ?_;rintro e w2 ⟨rfl,rfl⟩)
 rw[xt.out]
 go_loop [6] (λk=>∃j:bx,j<=s.size/\k= Z U (j:bp)/\cO s (s.size-j) j=R) (λk=>s.size-(intOf k).toNat)
 case atStart=>exact⟨i,by omega,rfl,HR.out⟩
 case round=>
  obtain⟨j,hj,rfl,D⟩:=hrel;have vc:cm (cO s (s.size-j) j=j->j=R):=λh=>h.symm.trans D
  by_cases vp:j<s.size
  ·have yb:(j:bp)<(s.size:bp):=by omega
   obtain⟨c2,vq⟩:=zE (((s[j]'vp).toNat:bp):bp);have vr:eY s j=c2:=by rw[<-jY vp];exact vq
   have vu:s.size-j=s.size-(j+1)+1:=by omega
   have G:=zH vq;have ur:=zH (xo.out c2);have vd:=zH (xp.out c2);obtain⟨lf,vf⟩:=zE (fu c2);obtain⟨df,vh⟩:=zE (jf c2);rw[vf] at ur;rw[vh] at vd;have vx:cm ((lf||df)=tE->∃j':bx,j'<=s.size/\eE .i64 ((j:bp)+1)= Z U (j':bp)/\cO s (s.size-j') j'=R):=λh=>⟨j+1,vp,by simp,by
    rw[vu] at D;unfold cO at D;rw[vr,vf,vh,cR h] at D;exact D⟩
   have xj:cm ((lf||df)=tG->j=R):=λh=>vc.out (by
    rw[vu];unfold cO;rw[vr,vf,vh,h];simp)
   clear D vq vr vf vh vu vc;cases lf with
   |true=>
    go_wp2_with (go_at_call 203;(try rw[G.out]);refine(ur.out _).mono ?_;rintro e w4 ⟨rfl,rfl⟩)
    go_round
    case rel=>exact vx.out rfl
    case measure=>simp[intOf];omega
   |false=>
    cases df with
    |true=>
     go_wp2_with (first
      |(go_at_call 203;(try rw[G.out]);refine(ur.out _).mono ?_;rintro e w4 ⟨rfl,rfl⟩)
      |(go_at_call 204;(try rw[G.out]);refine(vd.out _).mono ?_;rintro e w5 ⟨rfl,rfl⟩))
     go_round
     case rel=>exact vx.out rfl
     case measure=>simp[intOf];omega
    |false=>
     obtain rfl:j=R:=xj.out rfl;clear vx xj;obtain⟨d,f,ud⟩:=HK.out v (aq _ _);obtain⟨⟨a0,a1,a2,a3,a4⟩,⟨b0,b1,b2,b3,b4⟩,uv⟩:=fF f;clear d f ud;have hst:=wx.out;have xF:=xf.out;obtain rfl:kd=if wf=tE then 2 else 1:=we.out.symm
     cases wf with
     |false=>
      go_wp2_with (first
       |(go_at_call 203;(try rw[G.out]);refine(ur.out _).mono ?_;rintro e w4 ⟨rfl,rfl⟩)
       |(go_at_call 204;(try rw[G.out]);refine(vd.out _).mono ?_;rintro e w5 ⟨rfl,rfl⟩)
       |(go_at_call 205;refine(HW.out _).mono ?_;rintro e J ⟨rfl,q⟩;(try rw[va.out] at q);obtain⟨d,f,u⟩:=HK.out J q;obtain⟨⟨a0,a1,a2,a3,a4⟩,⟨b0,b1,b2,b3,b4⟩,uv⟩:=fF f;obtain⟨⟨g0,g1,g2,g3,g4⟩,⟨f0,f1,f2,f3,f4⟩,vy⟩:=fF d;have Q0:=zH d;have uc:=zH u;clear q d f u))
      (try simp only[db,Exit.then]);refine dv (aM rfl _ _ N 263 _ (0,0) _ rfl (je Q0.out) it (by kernel_rfl)) rfl ?_;(try rw[HN.out]);exact⟨rfl,fP uc.out (ce _) _ _ _ _ _⟩
     |true=>
      go_wp2_with (first
       |(go_at_call 203;(try rw[G.out]);refine(ur.out _).mono ?_;rintro e w4 ⟨rfl,rfl⟩)
       |(go_at_call 204;(try rw[G.out]);refine(vd.out _).mono ?_;rintro e w5 ⟨rfl,rfl⟩)
       |(go_at_call 205;refine(HW.out _).mono ?_;rintro e J ⟨rfl,q⟩;(try rw[va.out] at q);obtain⟨d,f,u⟩:=HK.out J q;obtain⟨⟨a0,a1,a2,a3,a4⟩,⟨b0,b1,b2,b3,b4⟩,uv⟩:=fF f;obtain⟨⟨g0,g1,g2,g3,g4⟩,⟨f0,f1,f2,f3,f4⟩,vy⟩:=fF d;have Q0:=zH d;have uc:=zH u;clear q d f u))
      (try simp only[db,Exit.then]);refine dv (aM rfl _ _ N 263 _ (0,0) _ rfl (je ((dl _ _ _ N (by show N≠N+1;omega)).trans Q0.out)) it (by kernel_rfl)) rfl ?_;(try rw[HN.out]);exact⟨rfl,fP (uc.out.setCell (by show N<=N+1;omega) _) (ce _) _ _ _ _ _⟩
  ·obtain rfl:j=s.size:=by omega
   obtain rfl:s.size=R:=vc.out (by rw[m6];rfl);clear D vc;obtain⟨d,f,ud⟩:=HK.out v (aq _ _);obtain⟨⟨a0,a1,a2,a3,a4⟩,⟨b0,b1,b2,b3,b4⟩,uv⟩:=fF f;clear d f ud;have hst:=wx.out;have xF:=xf.out;obtain rfl:kd=if wf=tE then 2 else 1:=we.out.symm
   cases wf with
   |false=>
    go_wp2_with (first
     |(go_at_call 205;refine(HW.out _).mono ?_;rintro e J ⟨rfl,q⟩;(try rw[va.out] at q);obtain⟨d,f,u⟩:=HK.out J q;obtain⟨⟨a0,a1,a2,a3,a4⟩,⟨b0,b1,b2,b3,b4⟩,uv⟩:=fF f;obtain⟨⟨g0,g1,g2,g3,g4⟩,⟨f0,f1,f2,f3,f4⟩,vy⟩:=fF d;have Q0:=zH d;have uc:=zH u;clear q d f u))
    (try simp only[db,Exit.then]);refine dv (aM rfl _ _ N 263 _ (0,0) _ rfl (je Q0.out) it (by kernel_rfl)) rfl ?_;(try rw[HN.out]);exact⟨rfl,fP uc.out (ce _) _ _ _ _ _⟩
   |true=>
    go_wp2_with (first
     |(go_at_call 205;refine(HW.out _).mono ?_;rintro e J ⟨rfl,q⟩;(try rw[va.out] at q);obtain⟨d,f,u⟩:=HK.out J q;obtain⟨⟨a0,a1,a2,a3,a4⟩,⟨b0,b1,b2,b3,b4⟩,uv⟩:=fF f;obtain⟨⟨g0,g1,g2,g3,g4⟩,⟨f0,f1,f2,f3,f4⟩,vy⟩:=fF d;have Q0:=zH d;have uc:=zH u;clear q d f u))
    (try simp only[db,Exit.then]);refine dv (aM rfl _ _ N 263 _ (0,0) _ rfl (je ((dl _ _ _ N (by show N≠N+1;omega)).trans Q0.out)) it (by kernel_rfl)) rfl ?_;(try rw[HN.out]);exact⟨rfl,fP (uc.out.setCell (by show N<=N+1;omega) _) (ce _) _ _ _ _ _⟩
theorem yU (s:aE)(i:bx)(w:World)(hs:s.size<=9000000)(hi:i+1<s.size)(hl:fu (eY s i)=tG)(D:jf (eY s i)=tE)(uc:fu (eY s (i+1))=tG)(ud:jf (eY s (i+1))=tG):
  zP 168 #[tM s,Z U (i:bp)] w (.tuple #[CJ 3 (s.extract i (i+1)) (eY s i-48),Z U 0]):=by
 have u:i<s.size:=by omega
 have va:=jY u;have vc:=jY hi;obtain⟨c,hc⟩:=zE (((s[i]'u).toNat:bp):bp);obtain⟨d,ue⟩:=zE (((s[i+1]'hi).toNat:bp):bp);rw[<-va,hc] at hl D⊢;rw[<-vc,ue] at uc ud;have vd:=zH (λW=>gH c W);have ur:=zH (λW=>jH c W);have vf:=zH (λW=>gH d W);have vh:=zH (λW=>jH d W);rw[hl] at vd;rw[D] at ur;rw[uc] at vf;rw[ud] at vh;have v:=zH hc;have HD:=zH ue;obtain⟨wg,wi⟩:=(vY c).1 D;obtain⟨N,A⟩:=zE w.heap.size;obtain⟨f,h⟩:=zE (w.alloc (ua #[Z U 0,tM ⟨#[]⟩,Z U 0,Z U 0,Z U 0] 263));obtain⟨G,q⟩:=zE (f.alloc (ua #[Z U 3,tM (s.extract i (i+1)),Z U (c-48),Z U 0,Z U 0] 263));have uv:=iV h A;have ux:f.heap.size=N+1:=by rw[<-h];simp[A]
 have vp:bh N w G:=by rw[<-q];exact uv.alloc (by omega) _
 have vi:G.heap[N]?=tB (ua #[Z U 0,tM ⟨#[]⟩,Z U 0,Z U 0,Z U 0] 263 (0,0)):=by rw[<-q,<-h,<-A];exact ia _ _ _
 have vj:G.heap[N+1]?=tB (ua #[Z U 3,tM (s.extract i (i+1)),Z U (c-48),Z U 0,Z U 0] 263 (0,0)):=by rw[<-q,<-ux];exact alloc_at _ _
 have hst:∀(J:da cd),J.size=5->(dr ⟨f.heap.size,0,tD⟩ [Z U 3,tM (s.extract i (i+1)),Z U (c-48),Z U 0,Z U 0] 0).run ac (f.alloc (ua J 263))= .ok () G:=λJ vq=>by
  rw[<-q];exact ct (P:=ac) f 263 J #[Z U 3,tM (s.extract i (i+1)),Z U (c-48),Z U 0,Z U 0] (by show _=tB 5;kernel_rfl) vq (by simp[cj])
 have wj:=zH hst;have vr:=zH ux;have vu:=zH h;have HN:=zH A;have vx:=zH uv;have wk:=zH vi;have vm:cm (f.heap[N]?=tB (ua #[Z U 0,tM ⟨#[]⟩,Z U 0,Z U 0,Z U 0] 263 (0,0))):=by unfold cm;rw[<-h,<-A];exact alloc_at _ _
 have wl:=zH q;have ws:=zH vj;clear hl D uc ud va vc hc ue hst h q uv vp ux vi vj;go_enter func168,ntmps168
 go_wp2_with (first
  |(go_at_call 203;(try rw[v.out]);refine(vd.out _).mono ?_;rintro e w2 ⟨rfl,rfl⟩)
  |(go_at_call 204;(try rw[v.out]);refine(ur.out _).mono ?_;rintro e w2 ⟨rfl,rfl⟩))
 rw[vu.out]
 go_loop [6,8] (λk n=>(k= Z U (i:bp)/\n= Z U 0)\/(k= Z U ((i:bp)+1)/\n= Z U (c-48))) (λk _=>i+1-(intOf k).toNat)
 case atStart=>exact .inl ⟨rfl,rfl⟩
 case round=>
  have wx:(i:bp)<(s.size:bp):=by omega
  have xf:(i:bp)+1<(s.size:bp):=by omega
  rcases hrel with⟨rfl,rfl⟩|⟨rfl,rfl⟩
  ·have vy:=v.out
   have xj:48<=((s[i]'u).toNat:bp):=by omega
   have xl:((s[i]'u).toNat:bp)<=57:=by omega
   clear vy
   go_wp2_with (go_at_call 204;(try rw[v.out]);refine(ur.out _).mono ?_;rintro e w2 ⟨rfl,rfl⟩)
   go_round
   case rel=>exact .inr ⟨rfl,by rw[v.out]⟩
   case measure=>simp[intOf]
  ·obtain⟨⟨g0,g1,g2,g3,g4⟩,⟨f0,f1,f2,f3,f4⟩,xo⟩:=fF vm.out
   have xp:=vr.out;have h1:(i:bp)+1-(i:bp)=1:=by omega
   have we:¬(2147483647<c-48):=by omega
   have xr:decide (2147483647<c-48)=tG:=by simpa using we
   obtain⟨bz,xt⟩:=zE (((s[i]'u).toNat:bp)==48);cases bz<;>(
    go_wp2_with (first
     |(go_at_call 203;(try rw[HD.out]);refine(vf.out _).mono ?_;rintro e w2 ⟨rfl,rfl⟩)
     |(go_at_call 204;(try rw[HD.out]);refine(vh.out _).mono ?_;rintro e w2 ⟨rfl,rfl⟩))
    (try simp only[db,Exit.then]);refine dv (aM rfl _ _ N 263 _ (0,0) _ rfl ((cn _ _ N (by simp;omega)).trans (je vm.out)) it (by kernel_rfl)) rfl ?_;(try rw[HN.out]);exact⟨rfl,(fP vx.out (ce _) _ _ _ _ _).alloc (by simp;omega) _⟩)
theorem uK (w:World):gd ac 206 #[] w λe w'=>e= ub (tP (tB ⟨w.heap.size,0,tD⟩) 20 20)/\w'=w.alloc (ua (fK.map fh).toArray 9):=by
 have d:(fK.map fh).toArray=#[tM ⟨#[45,62]⟩,tM ⟨#[60,61]⟩,tM ⟨#[62,61]⟩,tM ⟨#[61,61]⟩,tM ⟨#[33,61]⟩,tM ⟨#[43]⟩,tM ⟨#[45]⟩,tM ⟨#[42]⟩,tM ⟨#[47]⟩,tM ⟨#[37]⟩,tM ⟨#[60]⟩,tM ⟨#[62]⟩,tM ⟨#[33]⟩,tM ⟨#[61]⟩,tM ⟨#[40]⟩,tM ⟨#[41]⟩,tM ⟨#[123]⟩,tM ⟨#[125]⟩,tM ⟨#[44]⟩,tM ⟨#[59]⟩]:=rfl;rw[d];clear d;go_enter func206,ntmps206;go_wp2;go_ret;exact⟨rfl,rfl⟩
theorem xq:∀x∈fK,x.size<=2:=by decide
theorem rO {α:Type}{p:α->nj}:∀{l:bm α}{g:α},l.find? p=tB g->∃q:bx,l[q]?=tB g/\p g=tE/\∀(j:bx)(y:α),j<q->l[j]?=tB y->p y=tG
 |[],_,h=>by simp at h
 |a::l,g,h=>by
  by_cases d:p a=tE
  ·rw[List.find?_cons_of_pos d] at h
   obtain rfl:a=g:=by simpa using h
   exact⟨0,rfl,d,λj y f=>fW f (kh _)⟩
  ·rw[List.find?_cons_of_neg d] at h
   obtain⟨q,v,A,D⟩:=rO h;refine⟨q+1,by simpa using v,A,λj y f u=> ?_⟩;cases j with
   |zero=>
    have e:a=y:=by simpa using u
    rw[<-e];simpa using d
   |succ j=>exact D j y (by omega) (by simpa using u)
theorem AZ (s g:aE)(i:bx)(w:World)(hs:s.size<=9000000)(hi:i<s.size)(J:fu (eY s i)=tG)(hd:jf (eY s i)=tG)(hg:fK.find? (gI s i)=tB g):
  zP 168 #[tM s,Z U (i:bp)] w (.tuple #[CJ 4 g 0,Z U 0]):=by
 have ur:=jY hi;obtain⟨c,hc⟩:=zE (((s[i]'hi).toNat:bp):bp);rw[<-ur,hc] at J hd;have uv:=zH (λW=>gH c W);have ux:=zH (λW=>jH c W);rw[J] at uv;rw[hd] at ux;have HC:=zH hc;obtain⟨q,hq,va,vc⟩:=rO hg;have wj:q<20:=(ap.1 hq).1;obtain⟨N,hN⟩:=zE w.heap.size;obtain⟨W1,v⟩:=zE (w.alloc (ua #[Z U 0,tM ⟨#[]⟩,Z U 0,Z U 0,Z U 0] 263));obtain⟨d,A⟩:=zE (W1.alloc (ua (fK.map fh).toArray 9));have vd:=iV v hN;have uc:W1.heap.size=N+1:=by rw[<-v];simp[hN]
 have vf:bh N w d:=by rw[<-A];exact vd.alloc (by omega) _
 have vh:d.heap[N]?=tB (ua #[Z U 0,tM ⟨#[]⟩,Z U 0,Z U 0,Z U 0] 263 (0,0)):=by rw[<-A,<-v,<-hN];exact ia _ _ _
 have vi:d.heap[N+1]?=tB (ua (fK.map fh).toArray 9 (0,0)):=by rw[<-A,<-uc];exact alloc_at _ _
 have vp:cm (∀(j:bx)(x:aE),fK[j]?=tB x->d.cell? ⟨N+1,j,tD⟩=tB (tM x)):=λj x hx=>by
  rw[cc _ _ _ _ _ _ vi];simp[hx]
 have vj:=zH (uK W1);rw[uc,A] at vj;have vq:=zH v;have vm:=zH vh;have vr:=zH vf;have HQ:=zH hq;have vu:=zH va;have vx:=zH vc;have vy:cm (∀x∈fK,x.size<=2):=xq;have we:cm (fK.length=20):=rfl;clear J hd ur hc hq va vc hg v A vd vf uc vh vi;go_enter func168,ntmps168
 go_wp2_with (first
  |(go_at_call 203;(try rw[HC.out]);refine(uv.out _).mono ?_;rintro e w2 ⟨rfl,rfl⟩)
  |(go_at_call 204;(try rw[HC.out]);refine(ux.out _).mono ?_;rintro e w2 ⟨rfl,rfl⟩)
  |(go_at_call 206;rw[vq.out];refine vj.out.mono ?_;rintro e d ⟨rfl,rfl⟩))
 go_loopw [11] (λk wr=>∃j:bx,j<=q/\k= Z U (j:bp)/\∃n,wr=d.drewN n) (λk _=>20-(intOf k).toNat)
 case atStart=>exact⟨0,cN _,rfl,0,rfl⟩
 case round=>
  obtain⟨j,hj,rfl,n,rfl⟩:=hrel;have wg:j<20:=by omega
  have wk:(j:bp)<20:=by omega
  obtain⟨y,f⟩:∃y,fK[j]?=tB y:=⟨_,am (by rw[we.out];exact wg)⟩
  have wl:y.size<=2:=vy.out y (cf f);have d1:=vp.out j y f;have G:cm (gI s i y=tG->∀m:bx,∃j':bx,j'<=q/\eE .i64 ((j:bp)+1)= Z U (j':bp)/\∃n,d.drewN m=d.drewN n):=λh m=>⟨j+1,by
   by_cases e:j=q
   ·subst e
    have e2:y=g:=by have:=HQ.out;rw[f] at this;simpa using this
    rw[e2,vu.out] at h;cases h
   ·omega,by simp,m,rfl⟩
  have ud:cm (gI s i y=tE->y=g):=λh=>by
   by_cases e:j=q
   ·subst e
    have:=HQ.out;rw[f] at this;simpa using this
   ·have:=vx.out j y (by omega) f
    rw[h] at this;cases this
  clear f
  by_cases h1:y.size<=s.size-i
  ·have u:(y.size:bp)<=(s.size:bp)-(i:bp):=by omega
   have wi:decide ((y.size:bp)<=(s.size:bp)-(i:bp))=tE:=by simpa using u
   obtain⟨be,ue⟩:=zE (s.extract i (i+y.size)==y);have D:gI s i y=be:=by unfold gI;rw[ue,ef h1];rfl
   rw[D] at G ud;have ws:((s.extract i (i+y.size)).toList==y.toList)=be:=by rw[<-fY];exact ue
   have wx:(i:bp)+(y.size:bp)<=(s.size:bp):=by omega
   clear ue D;cases be with
   |false=>
    clear u
    go_upto_region 26 with(fail)
    go_quiet (fail)
    go_wp2;go_roundw
    case rel=>exact G.out rfl _
    case measure=>simp[intOf];omega
   |true=>
    obtain rfl:y=g:=ud.out rfl;obtain⟨⟨a0,a1,a2,a3,a4⟩,⟨b0,b1,b2,b3,b4⟩,xf⟩:=fF vm.out;clear u
    go_upto_region 26 with(fail)
    go_quiet (fail)
    go_wp2;(try simp only[db,Exit.then]);refine dv (aM rfl _ _ N 263 _ (0,0) _ rfl (je (vm.out)) it (by kernel_rfl)) rfl ?_;(try rw[HN.out]);exact⟨rfl,fP (qy vr.out _) (ce _) _ _ _ _ _⟩
  ·have u:¬(y.size:bp)<=(s.size:bp)-(i:bp):=by omega
   have wi:decide ((y.size:bp)<=(s.size:bp)-(i:bp))=tG:=by simpa using u
   have D:gI s i y=tG:=by unfold gI;rw[cL h1];rfl
   rw[D] at G ud;clear D u h1
   go_upto_region 26 with(fail)
   go_quiet (fail)
   go_wp2;go_roundw
   case rel=>exact G.out rfl _
   case measure=>simp[intOf];omega
theorem yV:∀x∈fK,0<x.size:=by decide
theorem CK {s:aE}{i:bx}{t:AC}(q:i<s.size)(h:AX s i=tB t):i+t.2.1.size<=s.size/\0<t.2.1.size:=by
 unfold AX at h
 split at h
 ·rename_i f
  split at h
  ·obtain rfl:=cD h
   have:=gY s (s.size-i) i;have u:i+1<=cO s (s.size-i) i:=by
    rw[show s.size-i=s.size-i-1+1 by omega];unfold cO;rw[f,Bool.true_or,cR rfl];exact(gY s _ _).1
   simp only[oy];omega
  ·cases h
 ·split at h
  ·split at h
   ·obtain rfl:=cD h
    simp only[oy];omega
   ·cases h
  ·obtain⟨g,d,rfl⟩:=i8.1 h
   have v:=yV g (List.mem_of_find?_eq_some d);have:=(List.find?_some d)
   unfold gI at this;rw[eN] at this;have:=qe this.1
   show i+g.size<=s.size/\0<g.size
   omega
theorem yX (s:aE)(i:bx)(t:AC)(w:World)(d:s.size<=9000000)(v:i<s.size)(h:AX s i=tB t):
  zP 168 #[tM s,Z U (i:bp)] w (.tuple #[CJ t.1 t.2.1 t.2.2,Z U 0]):=by
 unfold AX at h
 split at h
 ·rename_i f
  split at h
  ·rename_i G
   obtain rfl:=cD h;exact AY s i w d v f G
  ·cases h
 ·rename_i f
  have A:fu (eY s i)=tG:=by simpa using f
  split at h
  ·rename_i q
   split at h
   ·rename_i D
    obtain rfl:=cD h;have u:=D.2;rw[ij] at u;exact yU s i w d D.1 A q u.2 u.1
   ·cases h
  ·rename_i q
   obtain⟨g,J,rfl⟩:=i8.1 h;exact AZ s g i w d v A (by simpa using q) J
theorem D7:(ac.info? 263).map (λi=>(i.zero,i.size,i.bytes))=tB (tB (tW #[Z U 0,tM ⟨#[]⟩,Z U 0,Z U 0,Z U 0]),5,48):=by kernel_rfl
def uL (t:Tok):bm cd:=t.cells.toList
theorem aU {w:World}{base d:bx}{e:gx}{size n:bx}{v:cd}{xs:bm cd}(h:w.ownsRow base e size v n xs)(u:d<=base):w.ownsRow d e size v n xs:=by
 refine⟨h.1, ?_⟩;rcases h.2 with h|⟨g,cap,cur,f,A,q⟩
 ·exact .inl h
 ·exact .inr ⟨g,cap,cur,f,by omega,q⟩
def CL (w:World)(l:bm AC)(e:Ending)(w':World):Prop:=
 ∃(v:cd) (T:bm Tok),e= ub (.tuple #[v,tW #[Z U 0,Z U 0,Z U 0,Z U 0]])/\w'.ownsRow w.heap.size 263 5 v T.length (T.flatMap uL)/\T.map Tok.sig=l++[(5,⟨#[]⟩,0)]/\bh w.heap.size w w'
def D8 (s:aE)(N:bx)(w:World)(R:bm AC)(A k:bx)(v:cd)(wr:World):Prop:=
 ∃(T:bm Tok) (l:bm AC) (n:bx) (a b:bp),k<=s.size/\l5 s n k=tB l/\R=T.map Tok.sig++l/\T.length<=k/\wr.ownsRow (A+1) 263 5 v T.length (T.flatMap uL)/\
  wr.heap[A]?=tB (ua #[Z U a,Z U b] 40 (0,0))/\wr.heap[N]?=tB (ua #[Z U 0,Z U 0,Z U 0,Z U 0] 113 (0,0))/\bh N w wr
theorem xu (s:aE)(R:bm AC)(n0:bx)(w:World)(hs:s.size<=1000000)(xF:om s)(h0:s.size≠0)(hR:l5 s n0 (fZ s s.size 0)=tB R):
  gd ac 128 #[tM s] w (CL w R):=by
 obtain⟨N,hN⟩:=zE w.heap.size;have vy:s.size<=9000000:=by omega
 have xT:cm (∀(i:bx)(W:World),i<=s.size->zS 166 #[tM s,Z U (i:bp)] W (Z U (fZ s (s.size-i) i:bx))):=λi W hi=>xn s i W xF vy hi;have ya:cm (∀(s:aE)(n:bx)(w:World),s.size<=9000000->n<=s.size->gd ac 167 #[tM s,Z U (n:bp)] w (Ch w)):=uI;have B8:cm (∀(i:bx)(t:AC)(w:World),i<s.size->AX s i=tB t->zP 168 #[tM s,Z U (i:bp)] w (.tuple #[CJ t.1 t.2.1 t.2.2,Z U 0])):=λi t w hi h=>yX s i t w vy hi h;have vi:=xT.out 0;rw[Nat.sub_zero] at vi;obtain⟨k0,we⟩:=zE (fZ s s.size 0);rw[we] at vi hR;have ue:=lZ s s.size 0;rw[we] at ue;have yb:k0<=s.size:=by omega
 have yd:=zH vi;obtain⟨W1,va⟩:=zE (w.alloc (ua #[Z U 0,Z U 0,Z U 0,Z U 0] 113));have ye:=iV va hN;have yi:W1.heap.size=N+1:=by rw[<-va];simp[hN]
 have yk:W1.heap[N]?=tB (ua #[Z U 0,Z U 0,Z U 0,Z U 0] 113 (0,0)):=by rw[<-va,<-hN];exact alloc_at _ _
 have yp:=zH va;have yq:=zH ye;have vj:=zH yi;have yr:=zH yk;have HR:=zH hR;have HN:=zH hN;have D1:decide (1048576<(s.size:bp))=tG:=by rw[decide_eq_false_iff_not];omega
 clear xF vi we ue va ye yi yk hR;go_enter func128,ntmps128
 go_upto_region 5 with(go_at_call 166;refine(yd.out _ (cN _)).mono ?_;rintro e w2 ⟨rfl,rfl⟩)
 rw[yp.out];have hst:∀(w:World)(a b:bp)(c:da cd),c.size=2->(dr ⟨w.heap.size,0,tD⟩ [Z U a,Z U b] 0).run ac (w.alloc (ua c 40))= .ok () (w.alloc (ua #[Z U a,Z U b] 40)):=λw a b c hc=>
  ct (P:=ac) w 40 c #[Z U a,Z U b] (by show _=tB 2;kernel_rfl) hc (by simp[cj])
 have yv:=zH hst;clear hst
 go_upto_region 6 with(go_at_call 167;refine(ya.out s k0 _ vy yb).mono ?_;rintro e w3 ⟨a,b,rfl,yy,ha,yW,hb,zc⟩;have wg:=zH zc;clear zc;have B9:=yv.out w3 a b)
 clear B9;obtain⟨A,hA⟩:=zE w3.heap.size;obtain⟨W4,vm⟩:=zE (w3.alloc (ua #[Z U a,Z U b] 40));rw[hA,vm];have D2:N+1<=A:=by rw[<-hA,<-vj.out];exact wg.out.size
 have ud:W4.heap[A]?=tB (ua #[Z U a,Z U b] 40 (0,0)):=by rw[<-vm,<-hA];exact alloc_at _ _
 have wi:=zD vm wg;have zd:D8 s N w R A k0 (tP tD 0 0) W4:=⟨[],R,n0,a,b,yb,HR.out,rfl,cN _,World.ownsRow_nil _ _ _ _,ud,(wi.block N (by have:=vj.out;omega)).trans yr.out,yq.out.trans (wi.mono (by have:=vj.out;omega))⟩
 have Cd:=zH zd;clear hA vm ud wi zd wg HR yp yq vj yr yd yy ha yW hb
 go_loopw [4,5] (λv k wr=>∃j:bx,k= Z U (j:bp)/\D8 s N w R A j v wr) (λ_ k _=>s.size-(intOf k).toNat)
 case atStart=>exact⟨k0,rfl,Cd.out⟩
 case round=>
  obtain⟨j,rfl,T,l,n,q,u,hj,hl,zj,D3,zp,ud,vp,zr⟩:=hrel;have Cl:A+1<=wr.heap.size:=ae ud;have D4:T.length<=1000000:=by omega
  obtain⟨a0,a1⟩:=cB ud;obtain⟨c0,c1⟩:=mY vp;obtain⟨⟨p0,p1⟩,⟨q0,q1⟩,Ek⟩:=cB ud;obtain⟨⟨e0,e1,e2,e3⟩,⟨f0,f1,f2,f3⟩,Cp⟩:=mY vp;clear a0 a1 c0 c1;have uc:=zH zp;have zv:=zH ud;have An:=zH vp;have As:=zH zr;have At:=zH zj;have HL:=zH hl;obtain⟨i0,Ax,AD,AE,AF⟩:=gA D7;clear zp ud vp zr zj hl
  by_cases vq:j<s.size
  ·have CA:(j:bp)<(s.size:bp):=by omega
   obtain⟨tk,l2,n2,wj,vr,AG⟩:∃tk l2 n2,AX s j=tB tk/\l5 s n2 (fZ s (s.size-(j+tk.2.1.size)) (j+tk.2.1.size))=tB l2/\l=tk::l2:=by
    have:=HL.out;cases n with
    |zero=>simp[l5] at this
    |succ n=>
     unfold l5 at this;rw[cR vq] at this
     split at this
     ·rename_i tk CC
      obtain⟨l2,h1,h2⟩:=i8.1 this;exact⟨tk,l2,n,CC,h1,h2.symm⟩
     ·cases this
   have AH:=CK vq wj;have CD:=zH (B8.out j tk wr vq wj);obtain⟨J,D,nn⟩:=tk;obtain⟨z,hz⟩:=zE D.size;simp only[hz] at AH vr;obtain⟨CH,EV⟩:=AH;obtain⟨f,AI⟩:=zE (fZ s (s.size-(j+z)) (j+z));have ue:=lZ s (s.size-(j+z)) (j+z);have vu:=xT.out (j+z);rw[AI] at vu vr ue;rw[Int.natCast_add] at vu;have CM:f<=s.size:=by omega
   have E0:j+z<=f:=ue.1;have CN:=zH vu;have CT:=zH vr;have C3:=zH AG;have HZ:=zH hz;clear vu vr AG ue AI wj;have hst:∀(w:World)(c:da cd),c.size=5->(dr ⟨w.heap.size,0,tD⟩ [Z U J,tM D,Z U nn,Z U 0,Z U 0] 0).run ac (w.alloc (ua c 263))= .ok () (w.alloc (ua #[Z U J,tM D,Z U nn,Z U 0,Z U 0] 263)):=λw c hc=>
    ct (P:=ac) w 263 c #[Z U J,tM D,Z U nn,Z U 0,Z U 0] (by show _=tB 5;kernel_rfl) hc (by simp[cj])
   have C4:=zH hst;clear hst
   go_upto_region 10 with(go_at_call 168;refine CD.out.mono ?_;rintro e w2 ⟨rfl,AK⟩;have wk:=zH AK;clear AK;have C5:=C4.out w2;unfold CJ)
   clear C5;obtain⟨G,hG⟩:=zE w2.heap.size;obtain⟨W5,vc⟩:=zE (w2.alloc (ua #[Z U J,tM D,Z U nn,Z U 0,Z U 0] 263));rw[hG,vc];have E3:wr.heap.size<=G:=by rw[<-hG];exact wk.out.size
   have wl:=zD vc wk;have AM:W5.heap.size=G+1:=by rw[<-vc,<-hG];simp
   have ws:W5.heap[G]?=tB (ua #[Z U J,tM D,Z U nn,Z U 0,Z U 0] 263 (0,0)):=by rw[<-vc,<-hG];exact alloc_at _ _
   have wx:=(wl.block A Cl).trans zv.out;obtain⟨⟨p0,p1⟩,⟨q0,q1⟩,hA5⟩:=cB wx;obtain⟨⟨g0,g1,g2,g3,g4⟩,⟨f0,f1,f2,f3,f4⟩,E4⟩:=fF ws;have C6:=zH wl;have C7:=zH ws;have E6:=zH wx;clear hG vc wl ws wx wk
   go_upto_region 11 with(fail)
   obtain⟨W6,vd⟩:=zE ((W5.setCell ⟨G,3,tD⟩ (Z U q)).setCell ⟨G,4,tD⟩ (Z U u));rw[vd];have AN:Ext (·=G) W5 W6:=by rw[<-vd];exact(Ext.set1 W5 G 3 _).trans (Ext.set1 _ G 4 _) (λk d=> .inl d)
   have xf:W6.heap[G]?=tB (ua #[Z U J,tM D,Z U nn,Z U q,Z U u] 263 (0,0)):=by
    rw[<-vd];have h1:=bk W5 G 3 _ _ (Z U q) C7.out;have h2:=bk _ G 4 _ _ (Z U u) h1;exact h2
   have Dd:W6.heap.size=G+1:=by rw[<-vd];simp[AM]
   have vf:Ext (·=G) wr W6:=(Ext.of_below_size C6.out).trans AN (λk d=> .inl d);have AS:W6.ownsRow (A+1) 263 5 u4 T.length (T.flatMap uL):=af uc.out vf (λk d=>by have:=(au uc.out d).2;omega);have AT:=vf.heap zv.out (by omega);have AW:=vf.heap An.out (by omega);have Dg:=zH vf;have Do:=zH xf;have A0:=zH AS;have Ds:=zH AT;have DA:=zH AW;obtain⟨⟨g0,g1,g2,g3,g4⟩,⟨f0,f1,f2,f3,f4⟩,E7⟩:=fF xf;clear vd AN xf vf AS AT AW p0 p1 q0 q1 AM
   go_upto_region 12 with(at_builtin;refine bW rfl (.tmp 39) (.tmp 41) 226 rfl (A+1) 263 i0 _ 5 48 underlying226 Ax AD AE AF rfl (by decide) _ T.length (T.flatMap uL) rfl A0.out (G+1) #[Z U J,tM D,Z U nn,Z U q,Z U u] Dd.symm rfl rfl (by simp[cj]) (by unfold dT;omega) (by omega) (by omega) ?_;intro v7 w7 ur uv xj;have xl:=zH ur;have ux:=zH uv;clear ur uv xj)
   have ur:=A0.out;have A2:=ux.out.heap Do.out (λh=>by have:=(au uc.out h).2;omega);have A4:=ux.out.heap Ds.out (λh=>by have:=(au uc.out h).1;omega);have A5:=ux.out.heap DA.out (λh=>by have:=(au uc.out h).1;omega);obtain⟨⟨g0,g1,g2,g3,g4⟩,⟨f0,f1,f2,f3,f4⟩,Fc⟩:=fF A2;have Fi:A+1<=w7.heap.size:=by omega
   have DB:=zH A4;have DE:=zH A5;clear A2 A4 A5;have DG:s.extract j f=s.extract j f:=rfl;have DH:(s.extract j f).size=f-j:=by rw[oy];omega
   have xo:=ya.out (s.extract j f) (f-j) w7 (by omega) (by omega);rw[Int.ofNat_sub (by omega)] at xo;have DM:=zH xo;have Fk:(j:bp)<=(f:bp):=by omega
   have Fl:(f:bp)<=(s.size:bp):=by omega
   clear DG DH xo
   go_upto_region 14 with(first
    |(go_at_call 166;refine(CN.out _ CH).mono ?_;rintro e w8 ⟨rfl,rfl⟩)
    |(go_at_call 167;refine DM.out.mono ?_;rintro e w8 ⟨a2,b2,rfl,yy,ha,yW,hb,A6⟩;have xp:=zH A6;clear A6;have DO:=yv.out w8 a2 b2))
   clear DO;obtain⟨C,hC⟩:=zE w8.heap.size;obtain⟨W9,vx⟩:=zE (w8.alloc (ua #[Z U a2,Z U b2] 40));rw[hC,vx];have vh:=zD vx xp;have Fm:w7.heap.size<=C:=by rw[<-hC];exact xp.out.size
   have Bk:W9.heap[C]?=tB (ua #[Z U a2,Z U b2] 40 (0,0)):=by rw[<-vx,<-hC];exact alloc_at _ _
   have xr:=(vh.block A (by omega)).trans DB.out;have Bm:=(vh.block N (by omega)).trans DE.out;obtain⟨⟨p0,p1⟩,⟨q0,q1⟩,hA9⟩:=cB xr;obtain⟨⟨r0,r1⟩,⟨s0,s1⟩,Fo⟩:=cB Bk;have By:=ownsRow_below xl.out vh;have BE:=zH By;have BT:=zH xr;have DP:=zH Bm;have BY:bh N w W9:=As.out.trans ((Dg.out.below (by omega) (λk d=>by omega)).trans ((ux.out.below (by omega) (λk d=>by have:=(au uc.out d).1;omega)).trans (vh.mono (by omega))));have DQ:=zH BY;have B4:(T++[(⟨J,D,nn,q,u⟩:Tok)]).flatMap uL=T.flatMap uL++[Z U J,tM D,Z U nn,Z U q,Z U u]:=by rw[eK];rfl
   have B5:cm (∀(x y:bp)(W:World),Ext (·=A) W9 W->W.heap[A]?=tB (ua #[Z U x,Z U y] 40 (0,0))->D8 s N w R A f v7 W):=λx y W hx hA=>
    ⟨T++[⟨J,D,nn,q,u⟩],l2,n2,x,y,CM,CT.out,by rw[At.out,C3.out,fL,fR];rfl,by rw[cw];simp;omega,
     by rw[B4,cw];exact af BE.out hx (λk d=>by have:=(au BE.out d).1;omega),hA,hx.heap DP.out (by omega),DQ.out.trans (hx.below (by omega) (λk d=>by omega))⟩
   clear hC vx vh Bk xr Bm By BY B4 xp
   by_cases Fr:1<a2
   ·go_wp2
    go_roundw
    case rel=>exact⟨f,rfl,B5.out _ _ _ ((Ext.set1 W9 A 0 _).trans (Ext.set1 _ A 1 _) (λk d=> .inl d)) (bv BT.out)⟩
    case measure=>simp[intOf];omega
   ·go_wp2
    go_roundw
    case rel=>exact⟨f,rfl,B5.out _ _ _ (Ext.set1 W9 A 1 _) (bk W9 A 1 _ _ _ BT.out)⟩
    case measure=>simp[intOf];omega
  ·have CA:¬(j:bp)<(s.size:bp):=by omega
   have B6:l=[]:=by
    have:=HL.out;cases n with
    |zero=>simp[l5] at this
    |succ n=>unfold l5 at this;rw[cE vq] at this;simpa using this.symm
   have DS:=zH B6;clear B6
   go_wp2_with (at_builtin;refine bW rfl (.tmp 78) (.tmp 81) 226 rfl (A+1) 263 i0 _ 5 48 underlying226 Ax AD AE AF rfl (by decide) _ T.length (T.flatMap uL) rfl uc.out wr.heap.size #[Z U 5,tM ⟨#[]⟩,Z U 0,Z U q,Z U u] rfl rfl rfl (by simp[cj]) (by unfold dT;omega) (by omega) (by omega) ?_;intro v7 w7 ur uv xj;have xl:=zH ur;have ux:=zH uv;have xt:=uv.heap An.out (λh=>by have:=(au uc.out h).1;omega);obtain⟨⟨e0,e1,e2,e3⟩,⟨f0,f1,f2,f3⟩,Cp⟩:=mY xt;have D0:=zH xt;clear ur uv xj xt)
   (try simp only[db,Exit.then]);refine dv (iw rfl _ _ N 113 _ (0,0) _ rfl (jd D0.out) ph (by kernel_rfl)) rfl ?_;refine⟨v7,T++[⟨5,⟨#[]⟩,0,q,u⟩],rfl, ?_, ?_, ?_⟩
   ·rw[HN.out]
    have h1:=xl.out;rw[show(T++[(⟨5,⟨#[]⟩,0,q,u⟩:Tok)]).flatMap uL=T.flatMap uL++[Z U 5,tM ⟨#[]⟩,Z U 0,Z U q,Z U u] by rw[eK];rfl,cw];exact aU (lr (lr (lr (lr h1 (by show N<_;omega) _) (by show N<_;omega) _) (by show N<_;omega) _) (by show N<_;omega) _) (by omega)
   ·rw[fL,At.out,DS.out,mj];rfl
   ·rw[HN.out]
    exact rM (As.out.trans (ux.out.below (by omega) (λk d=>by have:=(au uc.out d).1;omega))) (ce _) _ _ _ _
structure Rd (r lb cap:bx)(T:bm Tok)(i:bx)(w:World):Prop where
 row:w.heap[r]?=tB (ua #[tP (tB ⟨lb,0,tD⟩) T.length cap,Z U (i:bp),Z U 0,Z U 0,Z U 0,Z U 0] 269 (0,0))
 toks:∀(k:bx)(t:Tok),T[k]?=tB t->∀(j:bx)(u:cd),t.cells.toList[j]?=tB u->w.cell? ⟨lb,k*5+j,tD⟩=tB u
 ne:lb≠r
 lt:lb<w.heap.size
 short:T.length<=1000000
section
variable {r lb cap:bx}{T:bm Tok}{i:bx}{w w':World}
theorem Rd.ext {M:bx->Prop}(h:Rd r lb cap T i w)(d:Ext M w w')(f:¬M r)(q:¬M lb):Rd r lb cap T i w':=
 ⟨d.heap h.row f,λk t v j u A=>by rw[d.cell (a:=⟨lb,k*5+j,tD⟩) h.lt q];exact h.toks k t v j u A,h.ne,bl h.lt d.size,h.short⟩
theorem Rd.grow (h:Rd r lb cap T i w)(d:bh w.heap.size w w'):Rd r lb cap T i w':=h.ext (Ext.of_below_size (M:=λ_=>mb) d) (λh=>h) (λh=>h)
theorem Rd.rlt (h:Rd r lb cap T i w):r<w.heap.size:=ae h.row
theorem Rd.step (h:Rd r lb cap T i w):Rd r lb cap T (i+1) (w.setCell ⟨r,1,tD⟩ (Z U ((i:bp)+1))):=
 ⟨by have:=bk w r 1 _ _ (Z U ((i:bp)+1)) h.row;rw[this];simp,λk t d j u f=>by rw[(Ext.set1 w r 1 _).cell (a:=⟨lb,k*5+j,tD⟩) h.lt h.ne];exact h.toks k t d j u f,h.ne,by rw[World.size_setCell];exact h.lt,h.short⟩
theorem Rd.cells (h:Rd r lb cap T i w):w.cell? ⟨r,0,tD⟩=tB (tP (tB ⟨lb,0,tD⟩) T.length cap)/\w.cell? ⟨r,1,tD⟩=tB (Z U (i:bp))/\w.cell? ⟨r,3,tD⟩=tB (Z U 0)/\w.frozen? ⟨r,1,tD⟩=tG/\r<w.heap.size:=
 ⟨(rowAt h.row 0 rfl).1,(rowAt h.row 1 rfl).1,(rowAt h.row 3 rfl).1,(rowAt h.row 1 rfl).2,ae h.row⟩
end
def bJ (r lb cap:bx)(T:bm Tok)(j:bx)(w w':World):Prop:=Rd r lb cap T j w'/\Ext (·=r) w w'
theorem bJ.trans {r lb cap:bx}{T:bm Tok}{j d:bx}{w w1 w2:World}(h:bJ r lb cap T j w w1)(f:bJ r lb cap T d w1 w2):bJ r lb cap T d w w2:=⟨f.1,h.2.trans f.2 (λ_ q=> .inl q)⟩
theorem bJ.grow {r lb cap:bx}{T:bm Tok}{j:bx}{w w1 w2:World}(h:bJ r lb cap T j w w1)(d:bh w1.heap.size w1 w2):bJ r lb cap T j w w2:=⟨h.1.grow d,h.2.trans (Ext.of_below_size (M:=λ_=>mb) d) (λ_ f=>f.elim)⟩
theorem bJ.grown {r lb cap:bx}{T:bm Tok}{j:bx}{w w1 w2:World}(d:bh w.heap.size w w1)(h:bJ r lb cap T j w1 w2):bJ r lb cap T j w w2:=⟨h.1,(Ext.of_below_size d).trans h.2 (λ_ f=> .inl f)⟩
theorem bB {r lb cap:bx}{T:bm Tok}{i:bx}(w:World)(h:Rd r lb cap T i w):zS 171 #[tR (tB ⟨r,0,tD⟩)] w (tU tG):=by
 obtain⟨_,_,c3,_,d⟩:=h.cells;go_enter func171,ntmps171;go_wp2;go_ret;exact⟨rfl,rfl⟩
theorem bE {r lb cap:bx}{T:bm Tok}{i:bx}{t:Tok}(w:World)(h:Rd r lb cap T i w)(d:T[i]?=tB t):
  zP 170 #[tR (tB ⟨r,0,tD⟩)] w (tW t.cells):=by
 obtain⟨N,q⟩:=zE w.heap.size;obtain⟨v,u⟩:=zE (w.alloc (ua #[Z U 0,tM ⟨#[]⟩,Z U 0,Z U 0,Z U 0] 263));have A:=iV u q;have f:Rd r lb cap T i v:=h.grow (by rw[q];exact A);have D:v.heap[N]?=tB (ua #[Z U 0,tM ⟨#[]⟩,Z U 0,Z U 0,Z U 0] 263 (0,0)):=by rw[<-u,<-q];exact alloc_at _ _
 obtain⟨c0,c1,_,_,hr⟩:=f.cells;have ue:i<T.length:=(ap.1 d).1;have hT:=h.short;obtain⟨⟨g0,g1,g2,g3,g4⟩,⟨f0,f1,f2,f3,f4⟩,ur⟩:=fF D;have G:=f.toks i t d 0 _ rfl;have k1:=f.toks i t d 1 _ rfl;have k2:=f.toks i t d 2 _ rfl;have k3:=f.toks i t d 3 _ rfl;have k4:=f.toks i t d 4 _ rfl;rw[mx] at G;have uv:min (i:bp) ((T.length:bp)-1)=(i:bp):=by omega
 have hw:me.wrap ((T.length:bp)-1)=(T.length:bp)-1:=IntWalk.i64_in _ (by omega);have J:=zH A;have uc:=zH D;have ud:=zH u;clear h f d A D u;go_enter func170,ntmps170
 go_upto_region 1 with(fail)
 rw[ud.out];refine qR 17 0 rfl (by kernel_rfl) (by kernel_rfl) (by kernel_rfl) (·=v.drew) rfl ?_;dsimp only[List.take]
 repeat (go_big_quiet_step (fail))
 refine eh ?_;rintro _ rfl;refine wpOp_step rfl λK' hK=> ?_;rw[cR (by rfl)];go_simp;refine hK _ _ ?_;refine⟨by kernel_rfl, ?_⟩;go_wp2;refine dv (eI (P:=ac) rfl _ _ N 263 t.cells (0,0) _ rfl (je uc.out) it rfl (by kernel_rfl)) rfl ?_;(try rw[q]);exact⟨rfl,(fP J.out (ce _) _ _ _ _ _).drew⟩
def dK (t:Tok)(s:aE):nj:=(t.kind==2||t.kind==4)&&t.text==s
theorem bg {r lb cap:bx}{T:bm Tok}{i:bx}{t:Tok}(s:aE)(w:World)(h:Rd r lb cap T i w)(D:T[i]?=tB t):
  zP 172 #[tR (tB ⟨r,0,tD⟩),tM s] w (tU (dK t s)):=by
 have q:=zH (bE w h D);have G:cm (∀W,bh w.heap.size w W->zS 171 #[tR (tB ⟨r,0,tD⟩)] W (tU tG)):=λW J=>bB W (h.grow J);have hst:∀(w:World)(c:da cd),c.size=5->(dr ⟨w.heap.size,0,tD⟩ [Z U t.kind,tM t.text,Z U t.n,Z U t.ln,Z U t.cl] 0).run ac (w.alloc (ua c 263))= .ok () (w.alloc (ua #[Z U t.kind,tM t.text,Z U t.n,Z U t.ln,Z U t.cl] 263)):=λw c hc=>
  ct (P:=ac) w 263 c #[Z U t.kind,tM t.text,Z U t.n,Z U t.ln,Z U t.cl] (by show _=tB 5;kernel_rfl) hc (by simp[cj])
 have uc:=zH hst;obtain⟨u,h1⟩:=zE (t.kind==2);obtain⟨v,h2⟩:=zE (t.kind==4);obtain⟨f,A⟩:=zE (t.text==s);have hF:dK t s=((u||v)&&f):=by unfold dK;rw[h1,h2,A]
 have ue:(t.text.toList==s.toList)=f:=by rw[<-fY];exact A
 rw[hF];simp only[Tok.cells] at q;cases u<;>cases v<;>cases f<;>(
  go_enter func172,ntmps172
  go_wp2_with (first
   |(go_at_call 170;refine q.out.mono ?_;rintro e w2 ⟨rfl,ud⟩;have ur:=uc.out w2;have d:=zH ud)
   |(go_at_call 171;refine(G.out _ (d.out.alloc d.out.size _)).mono ?_;rintro e w3 ⟨rfl,rfl⟩))
  go_ret;exact⟨rfl,d.out.alloc d.out.size _⟩)
theorem aY {r lb cap:bx}{T:bm Tok}{i:bx}{t:Tok}(s:aE)(w:World)(h:Rd r lb cap T i w)(d:T[i]?=tB t)(hF:dK t s=tE):
  gd ac 207 #[tR (tB ⟨r,0,tD⟩),tM s] w λe w'=>e= ub (.tuple #[])/\bJ r lb cap T (i+1) w w':=by
 have q:=zH (bg s w h d);rw[hF] at q;have H:=zH h;have A:i<T.length:=(ap.1 d).1;have D:=h.short;clear h d hF;go_enter func207,ntmps207
 go_wp2_with (go_at_call 172;refine q.out.mono ?_;rintro e w2 ⟨rfl,f⟩;have u:=zH (H.out.grow f);have HM:cm (bJ r lb cap T (i+1) w (w2.setCell ⟨r,1,tD⟩ (Z U ((i:bp)+1)))):=⟨u.out.step,(Ext.of_below_size (M:=(·=r)) f).trans (Ext.set1 w2 r 1 _) (λk v=> .inl v)⟩;obtain⟨c0,c1,c3,f1,G⟩:=u.out.cells;clear f)
 go_end0
 exact⟨rfl,HM.out⟩
theorem uM {r lb cap:bx}{T:bm Tok}{i:bx}(d:bp)(w:World)(h:Rd r lb cap T i w)(f:d<=200):
  zS 242 #[tR (tB ⟨r,0,tD⟩),Z U d] w (tU tE):=by
 have q:=zH (bB w h);have u:decide (200<d)=tG:=by rw[decide_eq_false_iff_not];omega
 have v:¬200<d:=by omega
 clear h f;go_enter func242,ntmps242
 go_wp2_with (go_at_call 171;refine q.out.mono ?_;rintro e w2 ⟨rfl,rfl⟩)
 go_ret;exact⟨rfl,rfl⟩
theorem dZ {r lb cap:bx}{T:bm Tok}{i:bx}{t:Tok}(w:World)(h:Rd r lb cap T i w)(ht:T[i]?=tB t)(d:t.kind=1):
  gd ac 208 #[tR (tB ⟨r,0,tD⟩)] w λe w'=>e= ub (.tuple #[tM t.text,tW #[Z U t.ln,Z U t.cl]])/\bJ r lb cap T (i+1) w w':=by
 obtain⟨N,f⟩:=zE w.heap.size;obtain⟨q,v⟩:=zE (w.alloc (ua #[Z U 0,Z U 0] 40));have ur:=iV v f;have vd:q.heap.size=N+1:=by rw[<-v];simp[f]
 have vf:q.heap[N]?=tB (ua #[Z U 0,Z U 0] 40 (0,0)):=by rw[<-v,<-f];exact alloc_at _ _
 have J:=h.grow (by rw[f];exact ur);have uv:=zH (bE q J ht);have vh:cm (∀W,bh q.heap.size q W->zS 171 #[tR (tB ⟨r,0,tD⟩)] W (tU tG)):=λW hW=>bB W (J.grow hW);have hst:∀(w:World)(c:da cd),c.size=5->(dr ⟨w.heap.size,0,tD⟩ [Z U t.kind,tM t.text,Z U t.n,Z U t.ln,Z U t.cl] 0).run ac (w.alloc (ua c 263))= .ok () (w.alloc (ua #[Z U t.kind,tM t.text,Z U t.n,Z U t.ln,Z U t.cl] 263)):=λw c hc=>
  ct (P:=ac) w 263 c #[Z U t.kind,tM t.text,Z U t.n,Z U t.ln,Z U t.cl] (by show _=tB 5;kernel_rfl) hc (by simp[cj])
 rw[d] at hst;have vu:=zH hst;have xp:i<T.length:=(ap.1 ht).1;have hT:=h.short;have xr:r<N:=by rw[<-f];exact h.rlt
 have vi:lb<N:=by rw[<-f];exact h.lt
 have vx:=zH vi;clear vi;have vy:=zH v;have we:=zH ur;have vj:=zH vd;have wg:=zH vf;have H1:=zH J;simp only[Tok.cells,d] at uv;clear h ht d hst v ur vd vf J;go_enter func208,ntmps208
 go_upto_region 2 with(go_at_call 170;rw[vy.out];refine uv.out.mono ?_;rintro e w2 ⟨rfl,vm⟩;have wi:=vu.out w2;have vp:=zH vm;clear vm)
 clear wi;obtain⟨G,hG⟩:=zE w2.heap.size;obtain⟨A,uc⟩:=zE (w2.alloc (ua #[Z U 1,tM t.text,Z U t.n,Z U t.ln,Z U t.cl] 263));rw[hG,uc];have D:=zD uc vp;have xt:N+1<=G:=by rw[<-hG,<-vj.out];exact vp.out.size
 have ux:A.heap[G]?=tB (ua #[Z U 1,tM t.text,Z U t.n,Z U t.ln,Z U t.cl] 263 (0,0)):=by rw[<-uc,<-hG];exact alloc_at _ _
 have va:=(D.block N (by have:=vj.out;omega)).trans wg.out;have h3:=H1.out.grow D;obtain⟨c0,c1,c3,f1,hr⟩:=h3.cells;obtain⟨⟨g0,g1,g2,g3,g4⟩,⟨e0,e1,e2,e3,e4⟩,wj⟩:=fF ux;obtain⟨⟨p0,p1⟩,⟨q0,q1⟩,wk⟩:=cB va;have wl:=zH (vh.out A D);have ws:=zH D;have wx:=zH ux;have xf:=zH va;have H3:=zH h3;clear hG uc D ux va h3 vh uv
 go_upto_region 6 with(go_at_call 171;refine wl.out.mono ?_;rintro e w2 ⟨rfl,rfl⟩)
 obtain⟨u,ud⟩:=zE (A.setCell ⟨r,1,tD⟩ (Z U ((i:bp)+1)));rw[ud];have ue:Ext (·=r) A u:=by rw[<-ud];exact Ext.set1 A r 1 _
 have vq:=ue.heap wx.out (by omega);have vc:=ue.heap xf.out (by omega);have h4:Rd r lb cap T (i+1) u:=by rw[<-ud];exact H3.out.step
 obtain⟨⟨g0,g1,g2,g3,g4⟩,⟨e0,e1,e2,e3,e4⟩,wj⟩:=fF vq;obtain⟨⟨p0,p1⟩,⟨q0,q1⟩,wk⟩:=cB vc;have xj:=zH ue;have xl:=zH vc;have H4:=zH h4;clear ud ue vq vc h4 c0 c1 c3 f1 hr
 go_region
 go_wp2;(try simp only[db,Exit.then]);have xo:bJ r lb cap T (i+1) w u:=⟨H4.out,((Ext.of_below_size (M:=(·=r)) (show bh w.heap.size w q by rw[f];exact we.out)).trans (Ext.of_below_size (M:=(·=r)) ws.out) (λk d=> .inl d)).trans xj.out (λk d=> .inl d)⟩
 have vr:Ext (·=N) u (((u.setCell ⟨N,0,tD⟩ (Z U t.ln)).setCell ⟨N,1,tD⟩ (Z U t.cl)).drew):=((Ext.set1 u N 0 _).trans (Ext.set1 _ N 1 _) (λk d=> .inl d)).drew;refine dv (iw rfl _ _ N 40 _ (0,0) _ rfl (bv xl.out) m5 (by kernel_rfl)) rfl ?_;refine⟨rfl,H4.out.ext vr (by omega) (λe=> ?_),xo.2.trans vr (λk d=> .inr (by omega))⟩;have:=vx.out;omega
def mZ (t:Tok)(l:bm aE):nj:=l.any λs=>dK t s
def pU (w:World)(b:bx)(l:bm aE):Prop:=∀(k:bx)(x:aE),l[k]?=tB x->w.cell? ⟨b,k,tD⟩=tB (tM x)
theorem iy {r lb cap:bx}{T:bm Tok}{i:bx}{t:Tok}(b c:bx)(l:bm aE)(w:World)(h:Rd r lb cap T i w)(ht:T[i]?=tB t)(hl:l.length<=20)(hb:b<w.heap.size)(ud:pU w b l):
  zP 260 #[tR (tB ⟨r,0,tD⟩),tP (tB ⟨b,0,tD⟩) l.length c] w (tU (mZ t l)):=by
 have uv:cm (∀s W,bh w.heap.size w W->zP 172 #[tR (tB ⟨r,0,tD⟩),tM s] W (tU (dK t s))):=λs W hW=>bg s W (h.grow hW) ht;have ux:=zH ud;have HB:=zH hb;clear h ht ud;go_enter func260,ntmps260;go_wp2
 go_loopw [5] (λk wr=>∃j:bx,k= Z U (j:bp)/\j<=l.length/\(∀x∈l.take j,dK t x=tG)/\bh w.heap.size w wr) (λk _=>l.length-(intOf k).toNat)
 case atStart=>exact⟨0,rfl,cN _,by simp,aq _ _⟩
 case round=>
  obtain⟨j,rfl,hj,A,d⟩:=hrel;have HZ:=zH A;have f:=zH d
  by_cases ue:j<l.length
  ·have va:(j:bp)<(l.length:bp):=by omega
   obtain⟨x,u⟩:∃x,l[j]?=tB x:=⟨_,am ue⟩
   have hc:wr.cell? ⟨b,j,tD⟩=tB (tM x):=(d.cell (p:=⟨b,j,tD⟩) HB.out).trans (ux.out j x u);have D:=zH (uv.out x wr d);obtain⟨q,G⟩:=zE (dK t x);rw[G] at D;have HQ:=zH G;have HX:=zH u;clear A d u G;cases q with
   |true=>
    have J:cm (tE=mZ t l):=by unfold cm mZ;rw[eq_comm,kq];exact⟨x,cf HX.out,HQ.out⟩
    go_wp2_with (go_at_call 172;refine D.out.mono ?_;rintro e w2 ⟨rfl,v⟩;have uc:=zH (f.out.trans (v.mono f.out.size));clear v)
    go_ret;rw[<-J.out];exact⟨rfl,uc.out⟩
   |false=>
    go_wp2_with (go_at_call 172;refine D.out.mono ?_;rintro e w2 ⟨rfl,v⟩;have uc:=zH (f.out.trans (v.mono f.out.size));clear v)
    go_roundw
    case rel=>
     refine⟨j+1,by go_num,ue,λy hy=> ?_,uc.out⟩;rw[mT,HX.out] at hy;rcases cT.1 hy with h|h
     ·exact HZ.out y h
     ·have e:y=x:=by simpa using h
      rw[e];exact HQ.out
    case measure=>simp[intOf];omega
  ·have ur:j=l.length:=by omega
   have J:cm (tG=mZ t l):=by
    unfold cm mZ;rw[eq_comm,lz];intro x u;rw[A x (by rw[ur,de];exact u)];simp
   clear A d;subst ur;go_wp2;go_ret;rw[<-J.out];exact⟨rfl,f.out⟩
def jZ:aE:=⟨#[42]⟩
def xw:aE:=⟨#[105,110,116]⟩
theorem xx {r lb cap:bx}{T:bm Tok}{i:bx}{u:Tok}(w:World)(h:Rd r lb cap T i w)(d:T[i+1]?=tB u)(q:u.kind=4):
  zP 262 #[tR (tB ⟨r,0,tD⟩)] w (tU (u.text==jZ)):=by
 obtain⟨c0,c1,_,_,G⟩:=h.cells;have J:i+1<T.length:=(ap.1 d).1;have hT:=h.short;have v:=h.toks (i+1) u d 0 _ rfl;have k1:=h.toks (i+1) u d 1 _ rfl;rw[mx] at v;rw[q] at v;have hw:me.wrap ((i:bp)+1)=(i:bp)+1:=IntWalk.i64_in _ (by omega);have uc:decide ((i:bp)+1<(T.length:bp))=tE:=by rw[ly];omega
 have ud:(i:bp)+1<(T.length:bp):=by omega
 have ue:0<=(i:bp)+1:=by omega
 have ur:((i:bp)+1).toNat=i+1:=by omega
 obtain⟨b,f⟩:=zE (u.text==jZ);have D:(u.text.toList==jZ.toList)=b:=by rw[<-fY];exact f
 rw[f];have A:jZ.toList=[42]:=by rw[pi];rfl
 rw[A] at D;clear h d q f A;cases b<;>(
  go_enter func262,ntmps262
  go_upto_region 1 with(fail)
  go_quiet (fail)
  go_wp2;go_ret;exact⟨rfl,qy (aq _ _) _⟩)
inductive xz (T:bm Tok) (i:bx):Ty->bx->Prop
 |int (t:Tok):T[i]?=tB t->dK t xw=tE->xz T i bI (i+1)
 |ptr (t u:Tok):T[i]?=tB t->t.kind=1->T[i+1]?=tB u->dK u jZ=tE->xz T i (tE,t.text) (i+2)
def Hg (t:Ty):cd:= tW #[tU t.1,tM t.2]
theorem mM {t:Tok}{s:aE}(h:t.kind=1):dK t s=tG:=by unfold dK;rw[h];rfl
theorem CO {r lb cap:bx}{T:bm Tok}{i:bx}{t:Tok}(w:World)(h:Rd r lb cap T i w)(G:T[i]?=tB t)(d:dK t xw=tE):
  gd ac 209 #[tR (tB ⟨r,0,tD⟩)] w λe w'=>e= ub (tW #[tU tG,tM ⟨#[]⟩])/\bJ r lb cap T (i+1) w w':=by
 obtain⟨N,f⟩:=zE w.heap.size;obtain⟨A,q⟩:=zE (w.alloc (ua #[tU tG,tM ⟨#[]⟩] 32));have J:=iV q f;have ud:A.heap[N]?=tB (ua #[tU tG,tM ⟨#[]⟩] 32 (0,0)):=by rw[<-q,<-f];exact alloc_at _ _
 have ue:A.heap.size=N+1:=by rw[<-q];simp[f]
 have h1:=h.grow (by rw[f];exact J);have uc:=zH (bg xw A h1 G);rw[d] at uc;unfold xw at uc;have vj:i<T.length:=(ap.1 G).1;have hT:=h.short;have vm:r<N:=by rw[<-f];exact h.rlt
 have ux:cm (lb<N):=by unfold cm;rw[<-f];exact h.lt
 have va:=zH q;have vc:=zH J;have vd:=zH ud;have vf:=zH ue;have H1:=zH h1;clear h G d q J ud h1 ue;go_enter func209,ntmps209
 go_upto_region 2 with(go_at_call 172;rw[va.out];refine uc.out.mono ?_;rintro e w2 ⟨rfl,D⟩;have vh:=zH D;have H2:=zH (H1.out.grow D);have ur:=zH ((D.block N (by rw[vf.out];omega)).trans vd.out);clear D)
 obtain⟨c0,c1,c3,f1,hr⟩:=H2.out.cells;obtain⟨⟨p0,p1⟩,⟨q0,q1⟩,vp⟩:=cB ur.out;have vi:N≠r:=by omega
 go_wp2;(try simp only[db,Exit.then]);refine dv (eI (P:=ac) rfl _ _ N 32 _ (0,0) _ rfl (bv ((dl _ _ _ N vi).trans ur.out)) ey rfl (by kernel_rfl)) rfl ?_;have hM:bJ r lb cap T (i+1) w (w2.setCell ⟨r,1,tD⟩ (Z U ((i:bp)+1))):=⟨H2.out.step,((Ext.of_below_size (M:=(·=r)) (show bh w.heap.size w A by rw[f];exact vc.out)).trans (Ext.of_below_size (M:=(·=r)) vh.out) (λk d=> .inl d)).trans (Ext.set1 w2 r 1 _) (λk d=> .inl d)⟩
 have uv:∀W u v,Ext (·=N) W ((W.setCell ⟨N,0,tD⟩ u).setCell ⟨N,1,tD⟩ v):=λW u v=>(Ext.set1 W N 0 u).trans (Ext.set1 _ N 1 v) (λk d=> .inl d);exact⟨rfl,hM.1.ext (uv _ _ _) (by omega) (by have:=ux.out;omega),hM.2.trans (uv _ _ _) (λk d=> .inr (by omega))⟩
theorem vZ {r lb cap:bx}{T:bm Tok}{i:bx}{t u:Tok}(w:World)(h:Rd r lb cap T i w)(D:T[i]?=tB t)(f:t.kind=1)(hu:T[i+1]?=tB u)(hs:dK u jZ=tE):
  gd ac 209 #[tR (tB ⟨r,0,tD⟩)] w λe w'=>e= ub (tW #[tU tE,tM t.text])/\bJ r lb cap T (i+2) w w':=by
 obtain⟨N,d⟩:=zE w.heap.size;obtain⟨q,A⟩:=zE (w.alloc (ua #[tU tG,tM ⟨#[]⟩] 32));have G:=iV A d;have ur:q.heap[N]?=tB (ua #[tU tG,tM ⟨#[]⟩] 32 (0,0)):=by rw[<-A,<-d];exact alloc_at _ _
 have uv:q.heap.size=N+1:=by rw[<-A];simp[d]
 have J:=h.grow (by rw[d];exact G);have uc:=zH (bg xw q J D);rw[mM f] at uc;unfold xw at uc;have vq:cm (∀W,bh q.heap.size q W->gd ac 208 #[tR (tB ⟨r,0,tD⟩)] W λe w'=>e= ub (.tuple #[tM t.text,tW #[Z U t.ln,Z U t.cl]])/\bJ r lb cap T (i+1) W w'):=λW hW=>dZ W (J.grow hW) D f;have ux:cm (∀W,Rd r lb cap T (i+1) W->gd ac 207 #[tR (tB ⟨r,0,tD⟩),tM jZ] W λe w'=>e= ub (.tuple #[])/\bJ r lb cap T (i+1+1) W w'):=λW hW=>aY jZ W hW hu hs;unfold jZ at ux;have wk:r<N:=by rw[<-d];exact h.rlt
 have vr:cm (lb<N):=by unfold cm;rw[<-d];exact h.lt
 have hst:∀(w:World)(c:da cd),c.size=2->(dr ⟨w.heap.size,0,tD⟩ [Z U t.ln,Z U t.cl] 0).run ac (w.alloc (ua c 40))= .ok () (w.alloc (ua #[Z U t.ln,Z U t.cl] 40)):=λw c hc=>
  ct (P:=ac) w 40 c #[Z U t.ln,Z U t.cl] (by show _=tB 2;kernel_rfl) hc (by simp[cj])
 have vu:=zH hst;have vx:=zH A;have vy:=zH G;have we:=zH ur;have wl:=zH uv;clear h D f hu hs A G ur J uv hst;go_enter func209,ntmps209
 go_upto_region 5 with(first
  |(go_at_call 172;rw[vx.out];refine uc.out.mono ?_;rintro e w2 ⟨rfl,va⟩;have vc:=zH va;clear va)
  |(go_at_call 208;refine(vq.out _ vc.out).mono ?_;rintro e w3 ⟨rfl,vd⟩;have wg:=zH vd;have wi:=vu.out w3;clear vd))
 clear wi;obtain⟨W4,ud⟩:=zE (w3.alloc (ua #[Z U t.ln,Z U t.cl] 40));rw[ud];have vf:=iq ud;have vh:bJ r lb cap T (i+1) q W4:=(bJ.grown vc.out wg.out).grow vf;have vi:=zH vh;clear ud vf vh
 go_upto_region 6 with(go_at_call 207;refine(ux.out _ vi.out.1).mono ?_;rintro e w5 ⟨rfl,vj⟩;have vm:=zH (vi.out.trans vj);clear vj)
 have ue:=vm.out.2.heap we.out (by omega);have wj:=zH ue;obtain⟨⟨p0,p1⟩,⟨q0,q1⟩,ws⟩:=cB ue;clear ue;go_wp2;(try simp only[db,Exit.then]);refine dv (eI (P:=ac) rfl _ _ N 32 _ (0,0) _ rfl (bv wj.out) ey rfl (by kernel_rfl)) rfl ?_;have hM:bJ r lb cap T (i+1+1) w w5:=bJ.grown (by rw[d];exact vy.out) vm.out;have vp:∀W u v,Ext (·=N) W ((W.setCell ⟨N,0,tD⟩ u).setCell ⟨N,1,tD⟩ v):=λW u v=>(Ext.set1 W N 0 u).trans (Ext.set1 _ N 1 v) (λk f=> .inl f);exact⟨rfl,hM.1.ext (vp _ _ _) (by omega) (by have:=vr.out;omega),hM.2.trans (vp _ _ _) (λk f=> .inr (by omega))⟩
theorem qB {r lb cap:bx}{T:bm Tok}{i k:bx}{y:Ty}(w:World)(h:Rd r lb cap T i w)(q:xz T i y k):
  gd ac 209 #[tR (tB ⟨r,0,tD⟩)] w λe w'=>e= ub (Hg y)/\bJ r lb cap T k w w':=by
 cases q with
 |int t d f=>exact CO w h d f
 |ptr t u d f v A=>exact vZ w h d f v A
structure Ex where
 kind:bp
 n:bp
 nm:aE
 ln:bp
 cl:bp
def Ex.cells (e:Ex):da cd:=#[Z U e.kind,Z U e.n,tM e.nm,tM ⟨#[]⟩,tP tD 0 0,Z U e.ln,Z U e.cl]
theorem rP (e:Ex)(w:World):gd ac 277 #[tW e.cells] w λu w'=>u= ub (Z U 1)/\bh w.heap.size w w':=by
 obtain⟨N,f⟩:=zE w.heap.size;unfold Ex.cells;go_enter func277,ntmps277;go_wp2;obtain⟨v,d⟩:=zE (w.alloc (ua #[Z U e.kind,Z U e.n,tM e.nm,tM ⟨#[]⟩,tP tD 0 0,Z U e.ln,Z U e.cl] 313));have h:=iV d f;have q:v.heap[N]?=tB (ua #[Z U e.kind,Z U e.n,tM e.nm,tM ⟨#[]⟩,tP tD 0 0,Z U e.ln,Z U e.cl] 313 (0,0)):=by rw[<-d,<-f];exact alloc_at _ _
 obtain⟨⟨c0,c1,c2,c3,c4,D,G⟩,_,J⟩:=dY q;rw[d];have A:=zH h;clear d h q
 go_loop [3,4] (λn i=>n= Z U 0/\i= Z U 0) (λ_ _=>0)
 case atStart=>exact⟨rfl,rfl⟩
 case round=>
  obtain⟨rfl,rfl⟩:=hrel;go_wp2;go_ret;(try rw[f]);exact⟨rfl,A.out⟩
theorem jN {r lb cap:bx}{T:bm Tok}{i:bx}(e:Ex)(w:World)(h:Rd r lb cap T i w):
  gd ac 273 #[tR (tB ⟨r,0,tD⟩),tW e.cells] w λen w'=>en= ub (tW e.cells)/\bh w.heap.size w w':=by
 obtain⟨N,d⟩:=zE w.heap.size;obtain⟨v,f⟩:=zE ((w.alloc (ua #[Z U e.kind,Z U e.n,tM e.nm,tM ⟨#[]⟩,tP tD 0 0,Z U e.ln,Z U e.cl] 313)).alloc (ua #[Z U 0,Z U 0,tM ⟨#[]⟩,tM ⟨#[]⟩,tP tD 0 0,Z U 0,Z U 0] 313));have D:=uF f d;have q:=yP f d;have u:=AO f d;have uc:v.heap.size=N+2:=by rw[<-f];simp[d]
 have h1:=h.grow (by rw[d];exact D);have ud:cm (∀W,bh v.heap.size v W->zS 171 #[tR (tB ⟨r,0,tD⟩)] W (tU tG)):=λW hW=>bB W (h1.grow hW);have G:=λW=>rP e W;unfold Ex.cells at G⊢;have uv:=zH G;obtain⟨⟨c0,c1,c2,c3,c4,c5,c6⟩,_,vi⟩:=dY q;have ux:=zH f;have va:=zH D;have vc:=zH q;have vd:=zH u;have J:=zH uc;clear h f D q u uc h1 G;go_enter func273,ntmps273
 go_upto_region 1 with(fail)
 rw[ux.out]
 go_upto_region 3 with(first
  |(go_at_call 171;refine(ud.out v (aq _ _)).mono ?_;rintro e w2 ⟨rfl,rfl⟩)
  |(go_at_call 277;refine(uv.out _).mono ?_;rintro e w2 ⟨rfl,ue⟩;have A:=zH ue;clear ue))
 have q:=(A.out.block N (by rw[J.out];omega)).trans vc.out;have u:=(A.out.block (N+1) (by rw[J.out];omega)).trans vd.out;obtain⟨⟨c0,c1,c2,c3,c4,c5,c6⟩,_,vj⟩:=dY q;obtain⟨⟨g0,g1,g2,g3,g4,g5,g6⟩,⟨f0,f1,f2,f3,f4,f5,f6⟩,vm⟩:=dY u;have vf:=zH u;have ur:cm (bh N w w2):=va.out.trans (A.out.mono (by rw[J.out];omega));have vh:=zH (ud.out w2 A.out);clear q u
 go_wp2_with (go_at_call 171;refine vh.out.mono ?_;rintro e w3 ⟨rfl,rfl⟩)
 (try simp only[db,Exit.then]);refine dv (eI (P:=ac) rfl _ _ (N+1) 313 _ (0,0) _ rfl (gF vf.out) i5 rfl (by kernel_rfl)) rfl ?_;(try rw[d]);exact⟨rfl,ur.out.trans ((cK _ _ _ _ _ _ _ _ _).below (cY (by omega) ur.out.size) (λk hk=>by omega))⟩
end Go.Proofs.YtjomgckjhcfbgaaGreat
