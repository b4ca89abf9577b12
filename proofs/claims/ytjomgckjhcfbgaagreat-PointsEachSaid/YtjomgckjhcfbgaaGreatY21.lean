/- Walks. -/
import Derived.Test.YtjomgckjhcfbgaaGreatY19
import Derived.Test.YtjomgckjhcfbgaaGreatY20
set_option maxRecDepth 100000
set_option maxHeartbeats 64000000
set_option linter.all false
namespace Go.Proofs.YtjomgckjhcfbgaaGreat
open Go.RowKit
open Go.Proofs.Tryz renaming prog→ac
open _root_.List renaming getElem?_eq_getElem→am,getElem?_eq_some_iff→ap,mem_of_getElem?→cf,mem_singleton→cH,take_length→de,range→ej,flatMap_cons→el,mem_flatMap→em,mem_append_right→ep,getElem?_append_right→et,flatMap_append→eK,getElem?_map→fj,mem_cons→fy,mem_range→jn,any_eq_true→kq,any_eq_false→lz,filter_cons→oY
open Go.RowKit.Below renaming refl→aq
open Go.RowKit renaming Below→bh,Hid→cm
open _root_.Array renaming getElem?_eq_some_iff→bj,getElem?_eq_none→nt
open _root_.Nat renaming lt_of_lt_of_le→bl,le_refl→ce,zero_le→cN,zero_add→cV,not_lt_zero→kh,add_zero→mx,sub_self→m6
open _root_ renaming List→bm,Int→bp,Nat→bx,if_neg→cE,if_pos→cR,Array→da,Option→eA,absurd→fW,beq_false_of_ne→gb,False→mb,beq_iff_eq→mN,Bool→nj,and_true→pc
open Go renaming cell_of_row→cc,Value→cd,maxLen→dT,frozen_of_row→eq,heap_setCell_same→eL,Calls→gd
open _root_.Option.some renaming inj→cD,injEq→dt
open _root_.Int renaming toNat_natCast→cP,toNat_of_nonneg→gS
open _root_.Prod.mk renaming injEq→cU
open _root_.Classical renaming byContradiction→er
open _root_.Bool renaming and_eq_true→eN,or_eq_true→hU,or_eq_false_iff→ij,or_false→lO,or_true→tf,true→tE,false→tG
open Go.Addr.mk renaming injEq→eW
open Go.Value.slice renaming injEq→gj
open _root_.Prod renaming fst→lE
open Go.Lib renaming hid→oS
open _root_.Option renaming some→tB,none→tD
open Go.Value renaming slice→tP,pointer→tR,bool→tU,agg→tW,int→Z
open Go.Obj renaming cells→ua
open Go.Ending renaming returned→ub
open Go.IntKind renaming i64→U
open Tryz
def qm (P:bx)(x z:bx->nj):nj:=(ej P).any λn=>z n&& !x n
def Joined (K:Gd)(w:World)(b P:bx)(x z:bx->nj)(e:Ending)(w':World):Prop:=
 e= ub (tU (qm P x z))/\K.ok w' b P (λn=>x n||z n)/\Ext (·=b) w w'
def boolRow (P:bx)(x:bx->nj):da cd:=((ej P).map λn=>tU (x n)).toArray
def aL (w:World)(b P:bx)(x:bx->nj):Prop:=w.heap[b]?=tB (ua (boolRow P x) 4 (0,0))
theorem fJ {P:bx}{x y:bx->nj}(e:∀n,n<P->x n=y n):boolRow P x=boolRow P y:=by
 unfold boolRow;congr 1;exact List.map_congr_left λn d=>by rw[e n (jn.1 d)]
theorem jK {P n:bx}(x:bx->nj)(h:n<P):(boolRow P x)[n]?=tB (tU (x n)):=by
 unfold boolRow;simp[h]
theorem qP {P i:bx}(x:bx->nj)(v:nj):(boolRow P x).setIfInBounds i (tU v)=boolRow P (λn=>if n=i then v else x n):=by
 refine Array.ext_getElem? λk=> ?_;rw[Array.getElem?_setIfInBounds];have d:(boolRow P x).size=P:=by unfold boolRow;simp
 by_cases f:k<P
 ·rw[jK _ f,jK _ f,d]
  by_cases e:i=k
  ·rw[cR e,cR (by omega),cR e.symm]
  ·rw[cE e,cE (λh=>e h.symm)]
 ·have q:∀y:bx->nj,(boolRow P y)[k]?=tD:=λy=>by rw[nt];unfold boolRow;simp;omega
  rw[q,q,d]
  by_cases e:i=k
  ·rw[cR e,cE (by omega)]
  ·rw[cE e]
theorem aL.cell {w:World}{b P n:bx}{x:bx->nj}(h:aL w b P x)(d:n<P):w.cell? ⟨b,n,tD⟩=tB (tU (x n)):=by
 rw[cc _ _ _ _ _ _ h];exact jK x d
theorem aL.lt {w:World}{b P:bx}{x:bx->nj}(h:aL w b P x):b<w.heap.size:=(bj.1 h).1
def aC:Gd where
 enc b P:= tP (tB ⟨b,0,tD⟩) P P
 ok:=aL
 keep:=λh e=>by unfold aL at h⊢;rw[e];exact h
 lt:=λh=>(bj.1 h).1
 congr:=λh e=>by unfold aL at h⊢;rw[<-fJ e];exact h
 one:=λ_ _=>rfl
theorem DK (p:bx->nj)(i:bx):((ej (i+1)).any p)=((ej i).any p||p i):=by
 rw[List.range_succ,List.any_append];simp
theorem fB (w:World)(b c P:bx)(x z:bx->nj)(J:aL w b P x)(hz:aL w c P z)(hP:P<=90000):
  gd ac 165 #[aC.enc b P,aC.enc c P] w (Joined aC w b P x z):=by
 show gd _ _ #[tP (tB ⟨b,0,tD⟩) P P,tP (tB ⟨c,0,tD⟩) P P] w _
 have ue:cm (∀w' t,t=qm P x z->aL w' b P (λn=>x n||z n)->Ext (·=b) w w'->Joined aC w b P x z (ub (tU t)) w'):=λw' t h0 d u=>⟨by rw[h0],d,u⟩
 have ur:cm (qm P x z=(ej P).any λn=>z n&& !x n):=rfl;have uv:cm (c=b->∀i,i<P->z i=x i):=by
  rintro rfl i hi;have d:=(J.cell hi).symm.trans (hz.cell hi);have u:x i=z i:=by simpa using d
  exact u.symm
 have HX:=oS J;have HZ:=oS hz;clear J hz;go_enter func165,ntmps165
 go_wp2_with fail
 go_loopw [5,6] (λs k wr=>∃i:bx,i<=P/\k= Z U (i:bp)/\s= tU ((ej i).any λn=>z n&& !x n)/\aL wr b P (λn=>if n<i then x n||z n else x n)/\Ext (·=b) w wr) (λ_ k _=>P-(intOf k).toNat)
 case atStart=>exact⟨0,cN _,rfl,rfl,by
  have:=HX.out;unfold aL at this⊢;rw[fJ (y:=x) (λn _=>by rw[cE (kh n)])];exact this,Ext.refl _ _⟩
 case round=>
  obtain⟨i,hi,rfl,rfl,q,A⟩:=hrel;have ux:=oS q;have ud:=oS A
  by_cases uc:i<P
  ·have vd:(i:bp)<(P:bp):=by omega
   have c0:wr.cell? ⟨b,i,tD⟩=tB (tU (x i)):=by
    rw[q.cell uc,cE (by omega)]
   have f0:=eq _ _ i _ _ q;have c1:wr.cell? ⟨c,i,tD⟩=tB (tU (z i)):=by
    by_cases e:c=b
    ·rw[e,c0,uv.out e i uc]
    ·have d:wr.heap[c]?=w.heap[c]? :=A.block c HZ.out.lt (by exact e)
     have u:wr.cell? ⟨c,i,tD⟩=w.cell? ⟨c,i,tD⟩:=World.cell?_of_block (w:=w) d;rw[u];exact HZ.out.cell uc
   obtain⟨xi,D⟩:∃t,x i=t:=⟨_,rfl⟩
   obtain⟨zi,G⟩:∃t,z i=t:=⟨_,rfl⟩
   obtain⟨s,f⟩:∃s,((ej i).any λn=>z n&& !x n)=s:=⟨_,rfl⟩
   have HN:cm (((ej (i+1)).any λn=>z n&& !x n)=(s||(zi&& !xi))):=by unfold cm;rw[DK,f,G,D]
   have va:cm (∀v,v=(xi||zi)->aL (wr.setCell ⟨b,i,tD⟩ (tU v)) b P (λn=>if n<i+1 then x n||z n else x n)/\Ext (·=b) w (wr.setCell ⟨b,i,tD⟩ (tU v))):=by
    intro v hv;refine⟨?_,ud.out.trans (Ext.set1 _ _ _ _) (λ_ h=> .inl h)⟩;have d:=eL wr b i _ _ (tU v) ux.out;unfold aL;rw[d,qP];congr 2;refine fJ λn _=> ?_
    by_cases e:n=i
    ·rw[cR e,cR (by omega),e,D,G,hv]
    ·rw[cE e]
     by_cases h:n<i
     ·rw[cR h,cR (by omega)]
     ·rw[cE h,cE (by omega)]
   rw[D] at c0;rw[G] at c1;rw[f];clear q A D G f;cases s<;>cases zi<;>cases xi
   all_goals
    go_wp2;go_roundw
    case rel=>exact⟨i+1,by omega,by go_num,by rw[HN.out];rfl,va.out _ rfl⟩
    case measure=>simp[intOf];omega
  ·have vc:i=P:=by omega
   subst vc;have HR:cm (aL wr b i (λn=>x n||z n)):=by
    unfold cm aL;rw[<-fJ (x:=λn=>if n<i then x n||z n else x n) (λn hn=>by rw[cR hn])];exact q
   obtain⟨s,f⟩:∃s,((ej i).any λn=>z n&& !x n)=s:=⟨_,rfl⟩
   have HS:=oS f;rw[f];clear q A f;go_wp2;go_ret;exact ue.out _ _ (by rw[ur.out,HS.out]) HR.out ud.out
def dm (n:Nd):bx×bx:=if n.1<0 then(2000000+n.2.1.toNat,n.2.2.toNat) else if n.2.1= -1 then(1000000,n.1.toNat) else(n.1.toNat,n.2.1.toNat)
theorem ig {f v:bp}(d:0<=f)(h:0<=v):dm (av f v)=(f.toNat,v.toNat):=by
 unfold dm av;rw[cE (by omega),cE (by simp only;omega)]
theorem ik {f:bp}(d:0<=f):dm (cZ f)=(1000000,f.toNat):=by
 unfold dm cZ;rw[cE (by omega),cR rfl]
theorem il {x k:bp}:dm (bN x k)=(2000000+x.toNat,k.toNat):=by
 unfold dm bN;rw[cR (by omega)]
abbrev X3:=bx->bx->bx->nj
def X3.at_ (x:X3)(n:Nd)(y:bx):nj:=x (dm n).1 (dm n).2 y
def X3.join (x:X3)(b a:Nd):X3:=λr u y=>if r=(dm b).1/\u=(dm b).2 then x r u y||x.at_ a y else x r u y
def Gy (m:Mo)(n:bx)(x:X3):Prop:=∀d y,y<n->NTyC m d->x.at_ d y=tE->m.lf d y
where NTyC (m:Mo) (d:Nd):Prop:=∃t,pF m d t
structure Stp (m:Mo)(n:bx)(Co:bx->bx->Prop)(x x':X3)(t:nj):Prop where
 mono:∀r u y,x r u y=tE->x' r u y=tE
 snd:Gy m n x->Gy m n x'
 same:t=tG->∀r u y,y<n->x' r u y=x r u y
 new:t=tE->∃r u y,Co r u/\y<n/\x' r u y=tE/\x r u y=tG
theorem Stp.refl (m:Mo)(n:bx)(Co:bx->bx->Prop)(x:X3):Stp m n Co x x tG:=⟨λ_ _ _ h=>h,λh=>h,λ_ _ _ _ _=>rfl,λh=>by cases h⟩
theorem Stp.trans {m:Mo}{n:bx}{Co:bx->bx->Prop}{x v A:X3}{t1 t2:nj}(f:Stp m n Co x v t1)(q:Stp m n Co v A t2):Stp m n Co x A (t1||t2):=by
 refine⟨λr u y h=>q.mono r u y (f.mono r u y h),λh=>q.snd (f.snd h),λh r u y D=> ?_,λh=> ?_⟩
 ·rw[ij] at h
  rw[q.same h.2 r u y D,f.same h.1 r u y D]
 ·rw[hU] at h
  rcases h with h|h
  ·obtain⟨r,u,y,a,b,c,d⟩:=f.new h
   exact⟨r,u,y,a,b,q.mono r u y c,d⟩
  ·obtain⟨r,u,y,a,b,c,d⟩:=q.new h
   refine⟨r,u,y,a,b,c, ?_⟩;cases G:x r u y with
   |false=>rfl
   |true=>rw[f.mono r u y G] at d;cases d
theorem CF {m:Mo}{a b:Nd}{t1 t2:Ty}(hl:m.fs.length<=1000)(h1:pF m a t1)(h2:pF m b t2)(h:dm a=dm b):a=b:=by
 have A:∀{f:bx}{g:Fn},m.fs[f]?=tB g->f<1000:=λh=>by have:=(ap.1 h).1;omega
 cases h1 with
 |@var f g v J a2 a3=>
  have:=A J;rw[ig (by omega) a2] at h;cases h2 with
  |@var u D v' d q b3=>
   have:=A d;rw[ig (by omega) q] at h;simp only[cU] at h;have G:f=u:=by omega
   have e2:v=v':=by omega
   rw[G,e2]
  |@res u D d=>
   rw[ik (by omega)] at h;simp only[cU] at h;omega
  |fld d q=>
   rw[il] at h;simp only[cU] at h;omega
 |@res f g J=>
  have:=A J;rw[ik (by omega)] at h;cases h2 with
  |@var u D v' d q b3=>
   have:=A d;rw[ig (by omega) q] at h;simp only[cU] at h;omega
  |@res u D d=>
   rw[ik (by omega)] at h;simp only[cU] at h;have G:f=u:=by omega
   rw[G]
  |fld d q=>
   rw[il] at h;simp only[cU] at h;omega
 |@fld y k s x J a2=>
  rw[il] at h;cases h2 with
  |@var u D v' d q b3=>
   have:=A d;rw[ig (by omega) q] at h;simp only[cU] at h;omega
  |@res u D d=>
   rw[ik (by omega)] at h;simp only[cU] at h;omega
  |@fld y' k' s' x' d q=>
   rw[il] at h;simp only[cU] at h;have G:y=y':=by omega
   have e2:k=k':=by omega
   rw[G,e2]
theorem Stp.join {m:Mo}{n:bx}{Co:bx->bx->Prop}{x:X3}{a b:Nd}{A D:Ty}(G:m.fs.length<=1000)(J:pF m a A)(hb:pF m b D)(uc:Co (dm b).1 (dm b).2)(ud:∀y,m.lf a y->m.lf b y):Stp m n Co x (x.join b a) (qm n (x (dm b).1 (dm b).2) (x (dm a).1 (dm a).2)):=by
 refine⟨λr u y h=> ?_,λq v y d ⟨t,ht⟩ h=> ?_,λh r u y d=> ?_,λh=> ?_⟩
 ·unfold X3.join
  split
  ·rw[h,Bool.true_or]
  ·exact h
 ·unfold X3.at_ X3.join at h
  split at h
  ·rename_i e
   have e2:v=b:=CF G ht hb (Prod.ext e.1 e.2);subst e2;rw[hU] at h;rcases h with h|h
   ·exact q v y d ⟨t,ht⟩ h
   ·exact ud y (q a y d ⟨A,J⟩ h)
  ·exact q v y d ⟨t,ht⟩ h
 ·unfold X3.join
  split
  ·rename_i e
   rw[e.1,e.2];unfold qm at h;have f:=lz.1 h y (jn.2 d);unfold X3.at_;cases h3:x (dm a).1 (dm a).2 y with
   |false=>rw[lO]
   |true=>
    rw[h3] at f;simp at f;rw[f];rfl
  ·rfl
 ·unfold qm at h
  obtain⟨y,d,f⟩:=kq.1 h;rw[eN] at f;refine⟨(dm b).1,(dm b).2,y,uc,jn.1 d, ?_,by simpa using f.2⟩;unfold X3.join X3.at_;rw[cR ⟨rfl,rfl⟩,f.1,tf]
structure Ay (m:Mo)(n:bx)(j k:bx)(i:Ins)(x:X3):Prop where
 e:∀e∈iU (j:bp) i,∀y,y<n->x.at_ e.1 y=tE->x.at_ e.2 y=tE
 t:∀t∈jo (j:bp) i,∀s,s<n->x.at_ t.1 s=tE->∀y,y<n->x.at_ (bQ s t.2).1 y=tE->x.at_ (bQ s t.2).2 y=tE
 b:i.op=12->∀y,(aj m.xi)[y]?=tB ((j:bp),(k:bp))->x.at_ (av j i.d) y=tE
theorem Ay.congr {m:Mo}{n j k:bx}{i:Ins}{x x':X3}(h:Ay m n j k i x)(hn:(aj m.xi).length<=n)(J:∀r u y,y<n->x' r u y=x r u y):Ay m n j k i x':=by
 have v:∀A y,y<n->x'.at_ A y=x.at_ A y:=λA y d=>J _ _ _ d;refine⟨λe f y d q=> ?_,λt f s D q y d G=> ?_,λf y d=> ?_⟩
 ·rw[v _ _ d] at q⊢;exact h.e e f y d q
 ·rw[v _ _ D] at q
  rw[v _ _ d] at G⊢;exact h.t t f s D q y d G
 ·have:=(ap.1 d).1
  rw[v _ _ (by omega)];exact h.b f y d
theorem E8 {m:Mo}{n:bx}{x:X3}(hn:(aj m.xi).length<=n)(h:∀(j k:bx)(g:Fn)(i:Ins),m.fs[j]?=tB g->g.c.ins[k]?=tB i->Ay m n j k i x){nd:Nd}{y:bx}(G:m.lf nd y):x.at_ nd y=tE:=by
 induction G with
 |base hb=>
  obtain⟨z,q,d,ue,A,D,h3⟩:=ql hb;obtain⟨j,k,g,i,f,u,rfl⟩:=kZ d;simp only at ue A h3;rw[cV] at D;rw[A,D];exact(h j k g i f u).b ue q h3
 |edge J G ih=>
  obtain⟨z,d,J⟩:=em.1 J;obtain⟨j,k,g,i,f,u,rfl⟩:=kZ d;exact(h j k g i f u).e _ J _ (by have:=ed G;omega) ih
 |out v A D uc ud=>
  obtain⟨z,d,v⟩:=em.1 v;obtain⟨j,k,g,i,f,u,rfl⟩:=kZ d;exact(h j k g i f u).t _ v _ (by have:=ed A;omega) uc _ (by have:=ed D;omega) ud
 |into v A D uc ud=>
  obtain⟨z,d,v⟩:=em.1 v;obtain⟨j,k,g,i,f,u,rfl⟩:=kZ d;exact(h j k g i f u).t _ v _ (by have:=ed A;omega) uc _ (by have:=ed D;omega) ud
noncomputable def ui (NL:bm (bx×bx×bx))(x:X3):bx:=(NL.filter λp=> !(x p.1 p.2.1 p.2.2)).length
theorem DL {NL:bm (bx×bx×bx)}{x x':X3}(h:∀r u y,x r u y=tE->x' r u y=tE):ui NL x'<=ui NL x:=by
 unfold ui
 induction NL with
 |nil=>simp
 |cons p r ih=>
  rw[oY,oY];have d:=h p.1 p.2.1 p.2.2;cases f:x p.1 p.2.1 p.2.2 with
  |true=>rw[d f];simpa using ih
  |false=>
   cases q:x' p.1 p.2.1 p.2.2 with
   |true=>simp;omega
   |false=>simp;omega
theorem DN {NL:bm (bx×bx×bx)}{x x':X3}(h:∀r u y,x r u y=tE->x' r u y=tE){r u y:bx}(d:(r,u,y)∈NL)(f:x' r u y=tE)(q:x r u y=tG):ui NL x'<ui NL x:=by
 induction NL with
 |nil=>simp at d
 |cons p l ih=>
  have v:=DL (NL:=l) h;unfold ui at ih v⊢;rw[oY,oY];rcases fy.1 d with e|d
  ·subst e
   simp only[f,q];simp;omega
  ·have ih:=ih d
   have A:=h p.1 p.2.1 p.2.2;cases D:x p.1 p.2.1 p.2.2 with
   |true=>rw[A D];simpa using ih
   |false=>
    cases G:x' p.1 p.2.1 p.2.2 with
    |true=>simp;omega
    |false=>simp;omega
structure fV (w:World)(n o:bx)(c:bx×bx×bx)(vv:cd)(vt:bm (cd×bm bx))(x:X3)(tag:Tag):Prop where
 own:w.ownsRow 0 97 1 vv vt.length (vt.map lE)
 row:∀(f:bx)(r:cd×bm bx),vt[f]?=tB r->kF aC 50 w (o+f) r.1 r.2 n (x (o+f)) tag
 tr:∀k,vv.ownBlock=tB k->tag k=c
structure eQ (w:World)(m:Mo)(n S B:bx)(sv vv rv gv:cd)(vt gt:bm (cd×bm bx))(rl:bm bx)(x:X3)(tag:Tag):Prop where
 rec_:w.heap[S]?=tB (ua #[sv,vv,rv,gv] 99 (0,0))
 sites:w.ownsRow B 67 2 sv (aj m.xi).length ((aj m.xi).flatMap pR)
 vars:fV w n 0 (1,0,0) vv vt x tag
 res:kF aC 50 w 1000000 rv rl n (x 1000000) tag
 flds:fV w n 2000000 (2,0,0) gv gt x tag
 tS:tag S=(5,0,0)
 ts:∀k,sv.ownBlock=tB k->tag k=(6,0,0)
 low:∀k,tag k≠(0,0,0)->B<=k/\k<w.heap.size
 lv:vt.length<=1000
structure lC (m:Mo)(n:bx)(vt gt:bm (cd×bm bx))(rl:bm bx):Prop where
 ns:(aj m.xi).length=n
 nv:vt.length=m.fs.length
 v:∀(f:bx)(r:cd×bm bx)(g:Fn),vt[f]?=tB r->m.fs[f]?=tB g->r.2.length=g.vs.length
 nr:rl.length=m.fs.length
 ng:gt.length=n
 g:∀(f:bx)(r:cd×bm bx)(s:St),gt[f]?=tB r->m.siteS f=tB s->r.2.length=s.fs.length
section
variable {w w':World}{m:Mo}{n S B o:bx}{sv vv rv gv:cd}{vt gt:bm (cd×bm bx)}{rl:bm bx}{x x':X3}{tag:Tag}{c:bx×bx×bx}
theorem fV.ext {M:bx->Prop}(h:fV w n o c vv vt x tag)(A:Ext M w w')(v:∀k,M k->k<w.heap.size->tag k≠c/\∀f u,tag k≠(3,f,0)/\tag k≠(4,f,u)):fV w' n o c vv vt x tag:=
 ⟨pK h.own A h.tr λk d q=>(v k d q).1,λf r D=>(h.row f r D).ext A (λk d q=>⟨((v k d q).2 _ 0).1,λu=>((v k d q).2 _ u).2⟩) (λ_ _=>rfl),h.tr⟩
theorem eQ.grow (h:eQ w m n S B sv vv rv gv vt gt rl x tag)(q:bh w.heap.size w w'):eQ w' m n S B sv vv rv gv vt gt rl x tag:=by
 have d:Ext (λ_=>mb) w w':=Ext.of_below_size q;exact⟨d.heap h.rec_ (λh=>h),af h.sites d (λ_ _ h=>h),h.vars.ext d (λ_ h=>h.elim),h.res.ext d (λ_ h=>h.elim) (λ_ _=>rfl),h.flds.ext d (λ_ h=>h.elim),h.tS,h.ts,λk f=>⟨(h.low k f).1,bl (h.low k f).2 d.size⟩,h.lv⟩
theorem fV.at_ (h:fV w n o c vv vt x tag){f u b:bx}{r:cd×bm bx}(D:vt[f]?=tB r)(G:r.2[u]?=tB b):
  ∃d q g v,vv= tP (tB ⟨d,0,tD⟩) vt.length q/\d<w.heap.size/\w.cell? ⟨d,f,tD⟩=tB (tP (tB ⟨g,0,tD⟩) r.2.length v)/\g<w.heap.size/\w.cell? ⟨g,u,tD⟩=tB (tP (tB ⟨b,0,tD⟩) n n)/\aL w b n (x (o+f) u)/\tag b=(4,o+f,u):=by
 obtain⟨ao,q,J⟩:=ai h.own;have ho:=h.own;rw[J] at ho;obtain⟨d,rfl,h1,h2⟩:=di ho (j:=f) (u:=r.1) (by rw[fj,D];rfl);have A:=h.row f r D;obtain⟨bo,v,e2⟩:=ai A.own;have uc:=A.own;rw[e2] at uc;obtain⟨g,rfl,h3,h4⟩:=di uc (j:=u) (u:=aC.enc b n) (by rw[fj,G];rfl);obtain⟨h5,h6⟩:=A.leaf u b G;exact⟨d,q,g,v,J,h1,by rw[<-e2];exact h2,h3,h4,h5,h6⟩
theorem eQ.resAt (h:eQ w m n S B sv vv rv gv vt gt rl x tag){u b:bx}(f:rl[u]?=tB b):
  ∃g d,rv= tP (tB ⟨g,0,tD⟩) rl.length d/\g<w.heap.size/\w.cell? ⟨g,u,tD⟩=tB (tP (tB ⟨b,0,tD⟩) n n)/\aL w b n (x 1000000 u)/\tag b=(4,1000000,u):=by
 obtain⟨bo,d,q⟩:=ai h.res.own;have v:=h.res.own;rw[q] at v;obtain⟨g,rfl,A,D⟩:=di v (j:=u) (u:=aC.enc b n) (by rw[fj,f];rfl);obtain⟨G,J⟩:=h.res.leaf u b f;exact⟨g,d,q,A,D,G,J⟩
theorem kF.set12 {f r u b:bx}{tv:cd}{q:bm bx}{z A:bx->bx->nj}(h:kF aC 50 w f tv q n z tag)(D:tag b=(4,r,u))(G:Ext (·=b) w w')(he:∀v,¬(f=r/\v=u)->A v=z v)(hb:f=r->∀c,q[u]?=tB c->c=b)(uc:f=r->aL w' b n (A u)):kF aC 50 w' f tv q n A tag:=by
 refine⟨pK h.own G h.tr (by rintro k rfl _ e;rw[D] at e;simp at e),λv c J=> ?_,h.tr⟩;obtain⟨h1,h2⟩:=h.leaf v c J;refine⟨?_,h2⟩
 by_cases e:f=r/\v=u
 ·obtain⟨e1,rfl⟩:=e
  rw[hb e1 c J];exact uc e1
 ·rw[he v e]
  exact Cb h1 G h2 (by
   rintro k rfl _ d;rw[D] at d;simp only[cU,true_and] at d;exact e ⟨d.1.symm,d.2.symm⟩)
theorem eQ.set {r u b:bx}(h:eQ w m n S B sv vv rv gv vt gt rl x tag)(G:tag b=(4,r,u))(d:Ext (·=b) w w')(J:aL w' b n (x' r u))(he:∀f v,¬(f=r/\v=u)->x' f v=x f v)
  (hv:∀(f:bx)(q:cd×bm bx)(c:bx),vt[f]?=tB q->0+f=r->q.2[u]?=tB c->c=b)(hr:∀c,1000000=r->rl[u]?=tB c->c=b)(hg:∀(f:bx)(q:cd×bm bx)(c:bx),gt[f]?=tB q->2000000+f=r->q.2[u]?=tB c->c=b):
  eQ w' m n S B sv vv rv gv vt gt rl x' tag:=by
 have A:∀{k:bx}{c:bx×bx×bx},tag k=c->c≠(4,r,u)->¬k=b:=λh1 h2 e=>h2 (by rw[<-h1,e,G]);have uc:∀{o:bx}{c:bx×bx×bx}{vv:cd}{vt:bm (cd×bm bx)},c≠(4,r,u)->fV w n o c vv vt x tag->(∀(f:bx)(q:cd×bm bx)(c:bx),vt[f]?=tB q->o+f=r->q.2[u]?=tB c->c=b)->fV w' n o c vv vt x' tag:=λD h hq=>
  ⟨pK h.own d h.tr (by rintro k rfl _ e;rw[G] at e;exact D e.symm),λf q hf=>(h.row f q hf).set12 G d (λv e=>he _ v e) (λe c D=>hq f q c hf e D) (λe=>by rw[e];exact J),h.tr⟩
 exact⟨d.heap h.rec_ (A h.tS (by simp)),af h.sites d (λk q e=>A (h.ts k q) (by simp) e),uc (by simp) h.vars hv,h.res.set12 G d (λv e=>he _ v e) (λe c D=>hr c e D) (λe=>by rw[e];exact J),uc (by simp) h.flds hg,h.tS,h.ts,λk A=>⟨(h.low k A).1,bl (h.low k A).2 d.size⟩,h.lv⟩
inductive uj (m:Mo) (vt gt:bm (cd×bm bx)) (rl:bm bx):Nd->bx->Prop
 |var {f v b:bx} {r:cd×bm bx}:vt[f]?=tB r->r.2[v]?=tB b->uj m vt gt rl (av (f:bp) (v:bp)) b
 |res {f b:bx}:rl[f]?=tB b->uj m vt gt rl (cZ (f:bp)) b
 |fld {s k b:bx} {r:cd×bm bx}:gt[s]?=tB r->r.2[k]?=tB b->uj m vt gt rl (bN (s:bp) (k:bp)) b
theorem eQ.leaf (h:eQ w m n S B sv vv rv gv vt gt rl x tag){d:Nd}{b:bx}(u:uj m vt gt rl d b):aL w b n (x (dm d).1 (dm d).2)/\tag b=(4,(dm d).1,(dm d).2):=by
 cases u with
 |var f q=>
  obtain⟨_,_,_,_,_,_,_,_,_,a,b⟩:=h.vars.at_ f q;rw[ig (by omega) (by omega),cP,cP];rw[cV] at a b;exact⟨a,b⟩
 |res f=>
  obtain⟨_,_,_,_,_,a,b⟩:=h.resAt f;rw[ik (by omega),cP];exact⟨a,b⟩
 |fld f q=>
  obtain⟨_,_,_,_,_,_,_,_,_,a,b⟩:=h.flds.at_ f q;rw[il,cP,cP];exact⟨a,b⟩
theorem eQ.turned (h:eQ w m n S B sv vv rv gv vt gt rl x tag){J:Nd}{b:bx}(hl:uj m vt gt rl J b)(hx:Ext (·=b) w w')(uc:aL w' b n (x' (dm J).1 (dm J).2))(he:∀f v,¬(f=(dm J).1/\v=(dm J).2)->x' f v=x f v):eQ w' m n S B sv vv rv gv vt gt rl x' tag:=by
 have lt:∀{f:bx}{q:cd×bm bx},vt[f]?=tB q->f<1000:=λd=>by have:=(ap.1 d).1;have:=h.lv;omega
 refine h.set (h.leaf hl).2 hx uc he (λf q c hf e u=> ?_) (λc e u=> ?_) (λf q c hf e u=> ?_)
 ·have:=lt hf
  cases hl with
  |@var G v' D r' d A=>
   rw[ig (by omega) (by omega),cP,cP] at e u;simp only at e u;obtain rfl:f=G:=by omega
   rw[hf] at d;obtain rfl:=cD d;rw[u] at A;exact cD A
  |@res G D d=>
   rw[ik (by omega)] at e;simp only at e;omega
  |@fld s k D r' d A=>
   rw[il] at e;simp only at e;omega
 ·cases hl with
  |@var G v' D r' d A=>
   have:=lt d;rw[ig (by omega) (by omega),cP] at e;simp only at e;omega
  |@res G D d=>
   rw[ik (by omega),cP] at u;simp only at u;rw[u] at d;exact cD d
  |@fld s k D r' d A=>
   rw[il] at e;simp only at e;omega
 ·cases hl with
  |@var G v' D r' d A=>
   have:=lt d;rw[ig (by omega) (by omega),cP] at e;simp only at e;omega
  |@res G D d=>
   rw[ik (by omega)] at e;simp only at e;omega
  |@fld s k D r' d A=>
   rw[il,cP,cP] at e u;simp only at e u;obtain rfl:f=s:=by omega
   rw[hf] at d;obtain rfl:=cD d;rw[u] at A;exact cD A
theorem eQ.joined (h:eQ w m n S B sv vv rv gv vt gt rl x tag){d nb:Nd}{b:bx}{e:Ending}(q:uj m vt gt rl nb b)(u:Joined aC w b n (x (dm nb).1 (dm nb).2) (x (dm d).1 (dm d).2) e w'):eQ w' m n S B sv vv rv gv vt gt rl (x.join nb d) tag:=by
 obtain⟨_,A,D⟩:=u;refine h.turned q D ?_ (λf v G=> ?_)
 ·have J:(x.join nb d) (dm nb).1 (dm nb).2=λy=>x (dm nb).1 (dm nb).2 y||x (dm d).1 (dm d).2 y:=by
   funext y
   unfold X3.join X3.at_;rw[cR ⟨rfl,rfl⟩]
  rw[J];exact A
 ·funext y
  unfold X3.join;rw[cE G]
end
theorem Cc (w:World){B S:bx}{sv vv rv gv:cd}(v:w.heap[S]?=tB (ua #[sv,vv,rv,gv] 99 (0,0)))(l:bm (bp×bp))(f k:bp)(h:w.ownsRow B 67 2 sv l.length (l.flatMap pR))(hl:l.length<=1000000){y:bx}(J:l[y]?=tB (f,k))(hn:l.Nodup):
  zS 164 #[tR (tB ⟨S,0,tD⟩),Z U f,Z U k] w (Z U (y:bp)):=by
 obtain⟨ao,c,rfl⟩:=ai h;have s0:w.cell? ⟨S,0,tD⟩=tB (tP ao l.length c):=zR v 0 _;have sl:=ae v;have H:=zH h;have HN:=zH hn;have HY:=zH J;clear h hn v J;go_enter func164,ntmps164
 go_upto_region 2 with(fail)
 go_loopw [7] (λq wr=>∃j:bx,j<=l.length/\q= Z U (j:bp)/\(f,k)∉l.take j/\wr=w) (λq _=>l.length-(intOf q).toNat)
 case atStart=>exact⟨0,cN _,rfl,by simp,rfl⟩
 case round=>
  obtain⟨j,hj,rfl,d,rfl⟩:=hrel
  by_cases uc:j<l.length
  ·obtain⟨⟨a,b⟩,A⟩:∃y,l[j]?=tB y:=⟨_,am uc⟩
   have ux:(j:bp)<(l.length:bp):=by omega
   obtain⟨g,rfl,hg,D⟩:=iI pR 2 (λ_=>rfl) H.out A;have e0:wr.cell? ⟨g,j*2,tD⟩=tB (Z U a):=D 0 _ rfl;have e1:wr.cell? ⟨g,j*2+1,tD⟩=tB (Z U b):=D 1 _ rfl;have ud:=Ar a b f k;have va:ac.eqGuardType ac.depth 67=tG:=by kernel_rfl
   obtain⟨q,G⟩:=zE (a==f&&b==k);rw[G] at ud;have HQ:=zH G;have HZ:=zH A;have HX:=zH d;clear D G A d;cases q with
   |true=>
    have u:=HQ.out;rw[eN,mN,mN] at u;have ue:cm (j=y):=by
     have h1:=HZ.out;rw[u.1,u.2] at h1;have h2:=jy h1 HN.out;rw[jy HY.out HN.out] at h2;unfold cm;omega
    clear u;go_wp2;go_ret;exact⟨by rw[ue.out];rfl,rfl⟩
   |false=>
    have ur:cm ((f,k)∉l.take (j+1)):=jS HZ.out HX.out (λe=>by
     have:=HQ.out;simp only[cU] at e;rw[e.1,e.2] at this;simp at this)
    go_wp2;go_roundw
    case rel=>exact⟨j+1,by omega,by go_num,ur.out,trivial⟩
    case measure=>simp[intOf];omega
  ·have uv:j=l.length:=by omega
   rw[uv,de] at d;exact fW (cf HY.out) d
def X3.bit (x:X3)(d:Nd)(y:bx):X3:=λr u z=>if r=(dm d).1/\u=(dm d).2/\z=y then tE else x r u z
section
variable {m:Mo}{n j k:bx}{g:Fn}{i:Ins}{x:X3}{Co:bx->bx->Prop}
theorem Gf (d:m.fs[j]?=tB g)(f:g.c.ins[k]?=tB i)(h:i.op=12):∃y:bx,(aj m.xi)[y]?=tB ((j:bp),(k:bp)):=by
 refine⟨(aj (m.upto j k g)).length, ?_⟩;obtain⟨r,e⟩:=mI d f;rw[e];unfold aj;rw[eK,el,et (ce _),m6];unfold iK;simp only[h];rfl
theorem Gg (f:m.fs[j]?=tB g)(q:g.c.ins[k]?=tB i)(h:i.op=12){y:bx}(u:(aj m.xi)[y]?=tB ((j:bp),(k:bp))):m.lf (av j i.d) y:=by
 obtain⟨r,e⟩:=mI f q;have v:(aj m.xi)[(aj (m.upto j k g)).length]?=tB ((j:bp),(k:bp)):=by
  rw[e];unfold aj;rw[eK,el,et (ce _),m6];unfold iK;simp only[h];rfl
 have A:=jy u (gy m);rw[jy v (gy m)] at A;have D:y=(aj (m.upto j k g)).length:=by omega
 rw[D];refine .base ?_;rw[e,kY,cV];refine ep _ ?_;unfold aN mi;simp only[h];simp
theorem Stp.bit {d:Nd}{t:Ty}{y:bx}(v:m.fs.length<=1000)(A:pF m d t)(D:Co (dm d).1 (dm d).2)(G:y<n)(J:m.lf d y):Stp m n Co x (x.bit d y) (!x.at_ d y):=by
 refine⟨λr u z h=> ?_,λhs f z q ⟨t',ht'⟩ h=> ?_,λh r u z q=> ?_,λh=> ?_⟩
 ·unfold X3.bit
  split
  ·rfl
  ·exact h
 ·unfold X3.at_ X3.bit at h
  split at h
  ·rename_i e
   have e2:f=d:=CF v ht' A (Prod.ext e.1 e.2.1);rw[e2,e.2.2];exact J
  ·exact hs f z q ⟨t',ht'⟩ h
 ·unfold X3.bit
  split
  ·rename_i e
   rw[e.1,e.2.1,e.2.2];unfold X3.at_ at h;simpa using h
  ·rfl
 ·refine⟨(dm d).1,(dm d).2,y,D,G, ?_, ?_⟩
  ·unfold X3.bit;rw[cR ⟨rfl,rfl,rfl⟩]
  ·unfold X3.at_ at h
   simpa using h
theorem Az {f:bp}(d:¬i.op=10)(h:¬i.op=11):jo f i=[]:=by unfold jo;rw[cE d,cE h]
theorem pM {f:bp}(d:¬i.op=9)(h:¬i.op=15)(q:¬i.op=18):iU f i=[]:=by unfold iU;rw[cE d,cE h,cE q]
theorem Ig (h:i.op=12){y:bx}(u:(aj m.xi)[y]?=tB ((j:bp),(k:bp)))(v:x.at_ (av j i.d) y=tE):Ay m n j k i x:=by
 refine⟨λe f=> ?_,λt q=> ?_,λ_ z A=> ?_⟩
 ·rw[pM (by omega) (by omega) (by omega)] at f;simp at f
 ·rw[Az (by omega) (by omega)] at q;simp at q
 ·have D:=jy u (gy m)
  rw[jy A (gy m)] at D;have G:z=y:=by omega
  rw[G];exact v
theorem mX (f:¬i.op=12)(q:¬i.op=10)(u:¬i.op=11)(h:∀e∈iU (j:bp) i,∀y,y<n->x.at_ e.1 y=tE->x.at_ e.2 y=tE):Ay m n j k i x:=
 ⟨h,λt d=>by rw[Az q u] at d;simp at d,λe=>fW e f⟩
theorem E9 (f:¬i.op=12)(h:¬i.op=10)(q:¬i.op=11)(u:¬i.op=9)(v:¬i.op=15)(A:¬i.op=18):Ay m n j k i x:=
 mX f h q λe d=>by rw[pM u v A] at d;simp at d
theorem IL (h:i.op=9)(q:∀y,y<n->x.at_ (av j i.a) y=tE->x.at_ (av j i.d) y=tE):Ay m n j k i x:=
 mX (by omega) (by omega) (by omega) λe f=>by
  unfold iU at f;rw[cR h,cH] at f;subst f;exact q
theorem Ih (h:i.op=18)(f:∀y,y<n->x.at_ (av j i.a) y=tE->x.at_ (cZ j) y=tE):Ay m n j k i x:=
 mX (by omega) (by omega) (by omega) λe d=>by
  unfold iU at d;rw[cE (by omega),cE (by omega),cR h,cH] at d;subst d;exact f
theorem Ii (h:i.op=15)(u:∀(q:bx)(a:bp),i.args[q]?=tB a->∀y,y<n->x.at_ (av j a) y=tE->x.at_ (av i.f (q:bp)) y=tE)(v:∀y,y<n->x.at_ (cZ i.f) y=tE->x.at_ (av j i.d) y=tE):Ay m n j k i x:=
 mX (by omega) (by omega) (by omega) λe A=>by
  rcases ug A with⟨q,_⟩|⟨_,q⟩|⟨q,_⟩
  ·omega
  ·rcases q with⟨n,a,D,rfl⟩|rfl
   ·exact u n a D
   ·exact v
  ·omega
theorem Ij (h:i.op=10)(v:∀s,s<n->x.at_ (av j i.a) s=tE->∀y,y<n->x.at_ (bN s i.f) y=tE->x.at_ (av j i.d) y=tE):Ay m n j k i x:=by
 refine⟨λe u=> ?_,λt q=> ?_,λe=>by omega⟩
 ·rw[pM (by omega) (by omega) (by omega)] at u;simp at u
 ·unfold jo at q
  rw[cR h,cH] at q;subst q;exact v
theorem Ik (h:i.op=11)(u:∀s,s<n->x.at_ (av j i.a) s=tE->∀y,y<n->x.at_ (av j i.b) y=tE->x.at_ (bN s i.f) y=tE):Ay m n j k i x:=by
 refine⟨λe q=> ?_,λt d=> ?_,λe=>by omega⟩
 ·rw[pM (by omega) (by omega) (by omega)] at q;simp at q
 ·unfold jo at d
  rw[cE (by omega),cR h,cH] at d;subst d;exact u
end
def bG (tag:Tag)(k:bx):Prop:=∃r u,tag k=(4,r,u)
def vP (m:Mo)(vt gt:bm (cd×bm bx))(rl:bm bx)(r u:bx):Prop:=∃d b,uj m vt gt rl d b/\r=(dm d).1/\u=(dm d).2
section
variable {m:Mo}{n:bx}{vt gt:bm (cd×bm bx)}{rl:bm bx}
theorem lC.var (h:lC m n vt gt rl){j v:bx}{g:Fn}(f:m.fs[j]?=tB g)(u:isVar g.vs.length (v:bp)=tE):∃r b,vt[j]?=tB r/\r.2[v]?=tB b/\uj m vt gt rl (av (j:bp) (v:bp)) b:=by
 have A:=(ap.1 f).1;obtain⟨r,d⟩:∃r,vt[j]?=tB r:=⟨_,am (by rw[h.nv];exact A)⟩
 have D:=(bU u).2;obtain⟨b,q⟩:∃b,r.2[v]?=tB b:=⟨_,am (by rw[h.v j r g d f];omega)⟩
 exact⟨r,b,d,q,.var d q⟩
theorem lC.res (h:lC m n vt gt rl){j:bx}{g:Fn}(f:m.fs[j]?=tB g):∃b,rl[j]?=tB b/\uj m vt gt rl (cZ (j:bp)) b:=by
 have q:=(ap.1 f).1;obtain⟨b,d⟩:∃b,rl[j]?=tB b:=⟨_,am (by rw[h.nr];exact q)⟩
 exact⟨b,d,.res d⟩
theorem lC.fld (h:lC m n vt gt rl){y k:bx}{s:St}{x:Fd}(d:m.siteS y=tB s)(v:s.fs[k]?=tB x):∃r b,gt[y]?=tB r/\r.2[k]?=tB b/\uj m vt gt rl (bN (y:bp) (k:bp)) b:=by
 have A:y<n:=by
  unfold Mo.siteS Mo.siteI at d;rw[<-h.ns];cases q:(aj m.xi)[y]? with
  |none=>rw[q] at d;simp at d
  |some p=>exact(ap.1 q).1
 have D:=(ap.1 v).1;obtain⟨r,f⟩:∃r,gt[y]?=tB r:=⟨_,am (by rw[h.ng];exact A)⟩
 obtain⟨b,u⟩:∃b,r.2[k]?=tB b:=⟨_,am (by rw[h.g y r s f d];exact D)⟩
 exact⟨r,b,f,u,.fld f u⟩
theorem jT {v:bp}{n:bx}(h:isVar n v=tE):∃k:bx,v=(k:bp):=⟨v.toNat,(gS (bU h).1).symm⟩
theorem gW {P:bx}{x z:bx->nj}(h:qm P x z=tG):∀y,y<P->z y=tE->x y=tE:=λy f q=>by
 have d:=lz.1 h y (jn.2 f);rw[q] at d;simpa using d
end
section
variable {m:Mo}{n S B:bx}{sv vv rv gv:cd}{vt gt:bm (cd×bm bx)}{rl:bm bx}{x:X3}{tag:Tag}
theorem eQ.varCell {W:World}(h:eQ W m n S B sv vv rv gv vt gt rl x tag){j u b G:bx}{r:cd×bm bx}{f:eA Addr}(J:vt[j]?=tB r)(v:r.1= tP f r.2.length G)(hu:r.2[u]?=tB b):
  ∃d,f=tB ⟨d,0,tD⟩/\d<W.heap.size/\W.cell? ⟨d,u,tD⟩=tB (tP (tB ⟨b,0,tD⟩) n n)/\¬bG tag d:=by
 have A:=h.vars.row j r J;have D:=A.own;rw[v] at D;obtain⟨g,rfl,h3,h4⟩:=di D (j:=u) (u:=aC.enc b n) (by rw[fj,hu];rfl);refine⟨g,rfl,h3,h4, ?_⟩;rintro⟨p,q,e⟩;have:=A.tr g (by rw[v];rfl);rw[this] at e;simp at e
theorem eQ.fldCell {W:World}(h:eQ W m n S B sv vv rv gv vt gt rl x tag){q u b:bx}{r:cd×bm bx}(G:gt[q]?=tB r)(hu:r.2[u]?=tB b):
  ∃d cG f c3,gv= tP (tB ⟨d,0,tD⟩) gt.length cG/\d<W.heap.size/\W.cell? ⟨d,q,tD⟩=tB (tP (tB ⟨f,0,tD⟩) r.2.length c3)/\f<W.heap.size/\W.cell? ⟨f,u,tD⟩=tB (tP (tB ⟨b,0,tD⟩) n n)/\¬bG tag d/\¬bG tag f:=by
 obtain⟨ao,cv,v⟩:=ai h.flds.own;have J:=h.flds.own;rw[v] at J;obtain⟨d,rfl,h1,h2⟩:=di J (j:=q) (u:=r.1) (by rw[fj,G];rfl);have A:=h.flds.row q r G;obtain⟨bo,cg,D⟩:=ai A.own;have uc:=A.own;rw[D] at uc;obtain⟨g,rfl,h3,h4⟩:=di uc (j:=u) (u:=aC.enc b n) (by rw[fj,hu];rfl);refine⟨d,cv,g,cg,v,h1,by rw[<-D];exact h2,h3,h4, ?_, ?_⟩
 ·rintro⟨p,q,e⟩
  have:=h.flds.tr d (by rw[v];rfl);rw[this] at e;simp at e
 ·rintro⟨p,q,e⟩
  have:=A.tr g (by rw[D];rfl);rw[this] at e;simp at e
theorem eQ.bit {W:World}(h:eQ W m n S B sv vv rv gv vt gt rl x tag){d:Nd}{b y:bx}(u:uj m vt gt rl d b):eQ (W.setCell ⟨b,y,tD⟩ (tU tE)) m n S B sv vv rv gv vt gt rl (x.bit d y) tag:=by
 obtain⟨A,_⟩:=h.leaf u;refine h.turned u (Ext.set1 W b y _) ?_ (λf v D=> ?_)
 ·have G:=eL W b y _ _ (tU tE) A
  unfold aL;rw[G,qP];congr 2;refine fJ λz _=> ?_;unfold X3.bit
  by_cases e:z=y
  ·rw[cR e,cR ⟨rfl,rfl,e⟩]
  ·rw[cE e,cE (λq=>e q.2.2)]
 ·funext z
  unfold X3.bit;rw[cE (λq=>D ⟨q.1,q.2.1⟩)]
def Il (m:Mo)(n S B:bx)(sv vv rv gv:cd)(vt gt:bm (cd×bm bx))(rl:bm bx)(x:X3)(tag:Tag)(j k:bx)(i:Ins)(w:World)(e:Ending)(w':World):Prop:=
 ∃t x',e= ub (tU t)/\Stp m n (vP m vt gt rl) x x' t/\(t=tG->Ay m n j k i x)/\eQ w' m n S B sv vv rv gv vt gt rl x' tag/\Ext (bG tag) w w'
theorem uk (w w0:World)(h:eQ w m n S B sv vv rv gv vt gt rl x tag)(hf:lC m n vt gt rl)(C3:m.inn w0)(hB:w0.heap.size<=B)(C4:bh w0.heap.size w0 w)(hr:bf m=0){j k:bx}{g:Fn}{i:Ins}(hg:m.fs[j]?=tB g)(hi:g.c.ins[k]?=tB i)(hs:Gy m n x)(hn:n<=90000):
  gd ac 124 #[tR (tB ⟨S,0,tD⟩),tW m.cells,Z U (j:bp),Z U (k:bp)] w (Il m n S B sv vv rv gv vt gt rl x tag j k i w):=by
 obtain⟨N,hN⟩:=zE w.heap.size;obtain⟨W1,yv⟩:=zE (w.alloc (ua m.cells 25));have B8:=iq yv;have C5:W1.heap[N]?=tB (ua m.cells 25 (0,0)):=by rw[<-yv,<-hN];exact alloc_at _ _
 have D0:W1.heap.size=N+1:=by rw[<-yv];simp[hN]
 have AG:=cf hg;have AH:=cf hi;have D1:m.fs≠[]:=λe=>by rw[e] at AG;simp at AG
 have B9:bh w0.heap.size w0 W1:=C4.trans (B8.mono C4.size);have Cd:=C3.below B9;obtain⟨fb,fo,C6,Hb,D2⟩:=Cd.frow D1;have Cl:=Cd.fin g AG;have D3:g.c.ins≠[]:=λe=>by rw[e] at AH;simp at AH
 obtain⟨ib,io,D4,Hc,Ek⟩:=Cl.code.row D3;have EV:=D2 j g hg 7 _ rfl;rw[D4] at EV;have Hh:j<m.fs.length:=(ap.1 hg).1;have I8:k<g.c.ins.length:=(ap.1 hi).1;have I9:(j:bp)<(m.fs.length:bp):=by omega
 have Ja:(k:bp)<(g.c.ins.length:bp):=by omega
 have c1:W1.cell? ⟨N,1,tD⟩=tB (tP (tB ⟨fb,fo,tD⟩) m.fs.length m.fC):=by rw[<-C6];exact zR C5 1 _
 have Hi:=ae C5;obtain⟨E0,ga,gc,Cp,Hj⟩:=Cl.code.args i AH;have hst:=tQ (i:=i) E0 (w:=W1);obtain⟨_,mo,mn,mc,C7⟩:=E0;have wx:∀(q:bx)(u:cd),i.cells.toList[q]?=tB u->W1.cell? ⟨ib,io+k*13+q,tD⟩=tB u:=λq u hu=>Ek k i hi q u hu;have x0:=wx 0 _ rfl;have x1:=wx 1 _ rfl;have x2:=wx 2 _ rfl;have x3:=wx 3 _ rfl;have x4:=wx 4 _ rfl;have x5:=wx 5 _ rfl;have x6:=wx 6 _ rfl;have x7:=wx 7 _ rfl;have x8:=wx 8 _ rfl;have x9:=wx 9 _ rfl;have E3:=wx 10 _ rfl;have E4:=wx 11 _ rfl;have E6:=wx 12 _ rfl;rw[mx] at x0;rw[Cp] at x7;rw[C7] at x8;obtain⟨G,AI⟩:=zE (W1.alloc (ua i.cells 42));have Dd:=iq AI;have Dg:G.heap[N+1]?=tB (ua i.cells 42 (0,0)):=by rw[<-AI,<-D0];exact alloc_at _ _
 have CA:bh w.heap.size w G:=B8.trans (Dd.mono B8.size);have h2:=h.grow CA;have E7:∀k,w.heap.size<=k->tag k=(0,0,0):=λk hk=>er λe=>by have:=(h.low k e).2;omega
 obtain⟨r,xl⟩:∃r,vt[j]?=tB r:=⟨_,am (by rw[hf.nv];exact Hh)⟩
 have HW:cm (∀W,Ext (bG tag) G W->Ext (bG tag) w W):=λW D=>(Ext.of_below_size CA).trans D (λk hk=> .inl hk);have HD:cm (tag (N+1)=(0,0,0)):=E7 _ (by omega);have Fc:i.args≠[]->∃ag xt,ga=tB ⟨ag,xt,tD⟩/\ag<G.heap.size/\¬bG tag ag/\∀q y,i.args[q]?=tB y->G.cell? ⟨ag,xt+q,tD⟩=tB (Z U y):=λHk=>by
  obtain⟨_,Jb,Jc,Do,Hn⟩:=(C3.fin g AG).code.args i AH;rw[Cp] at Do;simp only[gj] at Do;obtain⟨ag,xt,e1,e2,e3⟩:=Hn.at_ Hk;have Fi:bh w0.heap.size w0 G:=B9.trans (Dd.mono B9.size);refine⟨ag,xt,Do.1.trans e1,bl e2 Fi.size, ?_,λq y hq=>by rw[Fi.cell (p:=⟨ag,xt+q,tD⟩) e2];exact e3 q y hq⟩;rintro⟨p,q,e⟩;have:=(h.low ag (by rw[e];simp)).1;omega
 have h0:=dw hr hg hi;have J:=zH h2;have HF:=zH hf;have HR:=zH hr;have HG:=zH hg;have HI:=zH hi;have HS:=zH hs;have H0:=zH h0;have Jd:=zH CA;have Fk:=zH Fc;have Je:j<1000:=by have:=h.lv;rw[hf.nv] at this;omega
 obtain⟨ao,cg,Ds⟩:=ai (h2.vars.row j r xl).own;obtain⟨VA,cv,AK,CC,Hp⟩:∃VA cv,vv= tP (tB ⟨VA,0,tD⟩) vt.length cv/\VA<G.heap.size/\G.cell? ⟨VA,j,tD⟩=tB (tP ao r.2.length cg):=by
  obtain⟨a1,a2,e1⟩:=ai h2.vars.own;have ho:=h2.vars.own;rw[e1] at ho;obtain⟨VA,rfl,q1,q2⟩:=di ho (j:=j) (u:=r.1) (by rw[fj,xl];rfl);exact⟨VA,a2,e1,q1,by rw[<-Ds];exact q2⟩
 have t1:G.cell? ⟨S,1,tD⟩=tB (tP (tB ⟨VA,0,tD⟩) vt.length cv):=by rw[<-AK];exact zR h2.rec_ 1 _
 have vp:=ae h2.rec_;have Hs:(j:bp)<(vt.length:bp):=by rw[hf.nv];omega
 have vi:=zH xl;have xT:=zH Ds;obtain⟨IC,hIC⟩:=zE i;have yy:=zH hIC;rw[hIC] at HI H0 Fk;obtain⟨op,d,a,b,ff,nn,Jf,Jg,Jh,Ji,Jj,ln,cl,args⟩:=i;simp only at Cp C7;simp only[Ins.cells] at hst AI Dg x0 x1 x2 x3 x4 x5 x6 x7 x8 x9 E3 E4 E6;have Hv:g.c.ins.length<=dT:=Cl.code.len;have Hx:=Cd.nf;unfold dT at Hv Hx;subst Cp C7;have HU:=zH AI;have vj:=zH Dg;unfold Mo.cells at yv;have Fl:=zH yv;have Fm:cm (IC.args=args):=by unfold cm;rw[<-yy.out]
 have Fo:IC.op=op:=by rw[<-yy.out]
 have Fr:IC.d=d:=by rw[<-yy.out]
 have Ft:IC.a=a:=by rw[<-yy.out]
 have FA:IC.b=b:=by rw[<-yy.out]
 have FF:IC.f=ff:=by rw[<-yy.out]
 have FG:cm (IC.op=op/\IC.d=d/\IC.a=a/\IC.b=b/\IC.f=ff/\IC.args=args):=⟨Fo,Fr,Ft,FA,FF,Fm.out⟩
 unfold Mo.cells;rw[C6] at yv Fl⊢;rw[hIC];clear h hf C3 C4 hr hg hi hs B8 C5 B9 Cd C6 D2 Cl D4 Ek Hj wx Dd Dg CA h2 E7 xl Fc h0 Ds AK Fo Fr Ft FA FF hIC yy Fm yv AI AG AH D1 D3;go_enter func124,ntmps124
 go_upto_region 1 with(fail)
 rw[Fl.out];(try rw[hN])
 go_upto_region 2 with(fail)
 (try simp only[D0]);rw[HU.out];clear x0 x1 x2 x3 x4 x5 x6 x7 x8 x9 E3 E4 E6 EV c1 hst Hi Hc Hb
 go_upto_region 4 with(fail)
 obtain⟨o1,o2,o3,o4,o5,o6⟩:=FG.out;obtain⟨_,_,q3,q4,q5⟩:=bK H0.out;have yW:m.fs.length<=1000:=by have:=J.out.lv;rw[HF.out.nv] at this;exact this
 have If:∀v∈readsOf IC,isVar g.vs.length v=tE:=q3;obtain⟨i0,i1,i2,i3,i4,i7⟩:G.cell? ⟨N+1,0,tD⟩=tB (Z U op)/\G.cell? ⟨N+1,1,tD⟩=tB (Z U d)/\G.cell? ⟨N+1,2,tD⟩=tB (Z U a)/\G.cell? ⟨N+1,3,tD⟩=tB (Z U b)/\G.cell? ⟨N+1,4,tD⟩=tB (Z U ff)/\G.cell? ⟨N+1,7,tD⟩=tB (tP ga args.length gc):=⟨zR vj.out 0 _,zR vj.out 1 _,zR vj.out 2 _,zR vj.out 3 _,zR vj.out 4 _,zR vj.out 7 _⟩
 have iD:=ae vj.out;have AE:=zH q3;have CD:=zH q4;have In:=zH q5;have HO:=FG;clear q3 q4 q5 If t1 vp Hs CC Hp
 by_cases AM:op=12
 ·as_aux_lemma=>
   have ud:=CD.out (by rw[o1,AM];rfl);rw[o2] at ud;obtain⟨dn,rfl⟩:=jT ud;obtain⟨r',b',ue,DA,wk⟩:=HF.out.var HG.out ud;obtain rfl:r=r':=by have:=vi.out;rw[ue] at this;exact(cD this).symm
   obtain⟨g0,rfl,vf,xo,_⟩:=J.out.varCell vi.out xT.out DA;obtain⟨xp,F0⟩:=J.out.leaf wk;obtain⟨y,hy⟩:=Gf HG.out HI.out (o1.trans AM);have F2:y<n:=by have:=(ap.1 hy).1;rw[HF.out.ns] at this;exact this
   have e1:=xp.cell F2;have f1:=eq _ _ y _ _ xp;have Jk:b'<G.heap.size:=xp.lt;have CH:dn<r.2.length:=(ap.1 DA).1;have CM:(dn:bp)<(r.2.length:bp):=by omega
   have Jl:(y:bp)<(n:bp):=by omega
   have Is:=zH (Cc G J.out.rec_ (aj m.xi) (j:bp) (k:bp) J.out.sites (by rw[HF.out.ns];omega) hy (gy m));obtain⟨t,ht⟩:=zE (x.at_ (av (j:bp) (dn:bp)) y);have e2:G.cell? ⟨b',y,tD⟩=tB (tU t):=by rw[<-ht];exact e1
   have Ge:=zH ht;have Gk:=zH wk;have HY:=zH hy;have It:=zH F0;have DB:=zH ud;subst AM;clear e1 xp ht wk hy F0 ud ue DA i2 i3 i4 i7
   go_wp2_with (go_at_call 164;refine Is.out.mono ?_;rintro e w3 ⟨rfl,rfl⟩)
   go_ret;refine⟨!t,x.bit (av (j:bp) (dn:bp)) y,rfl, ?_,λh=> ?_,J.out.bit Gk.out,HW.out _ ((Ext.set1 _ b' y _).mono λq e=> ?_)⟩
   ·rw[<-Ge.out]
    refine Stp.bit yW (bH HG.out DB.out) ⟨_,_,Gk.out,rfl,rfl⟩ F2 ?_;rw[<-o2];exact Gg HG.out HI.out o1 HY.out
   ·exact Ig o1 HY.out (by rw[o2,Ge.out];simpa using h)
   ·rw[e];exact⟨_,_,It.out⟩
 have Jm:((op:bp)==12)=tG:=gb AM
 by_cases h9:op=9
 ·as_aux_lemma=>
   have ud:=CD.out (by rw[o1,h9];rfl);have uv:=AE.out IC.a (by unfold readsOf;rw[o1,h9];simp[oH]);rw[o2] at ud;rw[o3] at uv;obtain⟨dn,rfl⟩:=jT ud;obtain⟨an,rfl⟩:=jT uv;obtain⟨r',bd,ue,wl,vh⟩:=HF.out.var HG.out ud;obtain rfl:r=r':=by have:=vi.out;rw[ue] at this;exact(cD this).symm
   obtain⟨r',ba,ue,vx,wk⟩:=HF.out.var HG.out uv;obtain rfl:r=r':=by have:=vi.out;rw[ue] at this;exact(cD this).symm
   obtain⟨g0,rfl,vf,xo,xf⟩:=J.out.varCell vi.out xT.out wl;have xr:G.cell? ⟨g0,an,tD⟩=tB (tP (tB ⟨ba,0,tD⟩) n n):=by
    obtain⟨g1,e,_,h,_⟩:=J.out.varCell vi.out xT.out vx;simp only[dt,eW,pc] at e;rw[e];exact h
   have CH:dn<r.2.length:=(ap.1 wl).1;have DE:an<r.2.length:=(ap.1 vx).1;have CM:(dn:bp)<(r.2.length:bp):=by omega
   have DG:(an:bp)<(r.2.length:bp):=by omega
   have vr:=(J.out.leaf vh).2;have vm:¬bG tag (N+1):=by rintro⟨p,q,e⟩;rw[HD.out] at e;simp at e
   subst h9;clear ue;obtain⟨V,hV⟩:=zE G.drew;obtain⟨SR,ux⟩:=zE ((λY=>Ext (bG tag) G Y):World->Prop);have vq:cm (∀Y,Ext (bG tag) G Y->SR Y):=λY hY=>by rw[<-ux];exact hY
   have va:cm (∀Y,SR Y->Ext (bG tag) G Y):=λY hY=>by rw[<-ux] at hY;exact hY
   have vy:bh G.heap.size G V:=by rw[<-hV];exact(aq _ _).drew
   have we:SR V:=vq.out _ (Ext.of_below_size vy);have A:cm (∀Y,SR Y->Y.cell? ⟨N+1,1,tD⟩=tB (Z U (dn:bp))/\Y.cell? ⟨N+1,2,tD⟩=tB (Z U (an:bp))/\N+1<Y.heap.size/\Y.cell? ⟨g0,dn,tD⟩=tB (tP (tB ⟨bd,0,tD⟩) n n)/\Y.cell? ⟨g0,an,tD⟩=tB (tP (tB ⟨ba,0,tD⟩) n n)/\g0<Y.heap.size):=λY hY=>by
    have D:=va.out Y hY;exact⟨by rw[D.cell (a:=⟨N+1,1,tD⟩) iD vm];exact i1,by rw[D.cell (a:=⟨N+1,2,tD⟩) iD vm];exact i2,bl iD D.size,by rw[D.cell (a:=⟨g0,dn,tD⟩) vf xf];exact xo,by rw[D.cell (a:=⟨g0,an,tD⟩) vf xf];exact xr,bl vf D.size⟩
   have uc:=(J.out).grow vy;have HV:=zH hV;clear hV ux
   go_upto_region 10 with(fail)
   refine bL SR (by kernel_rfl) ?_;rw[HV.out];refine yT 0 rfl A.out ?_;(try go_simp);refine yT 1 rfl A.out ?_;(try go_simp);refine yT 2 rfl A.out ?_;(try go_simp);refine yT 3 rfl A.out ?_;(try go_simp);refine yT 4 rfl A.out ?_;(try go_simp);refine yT 5 rfl A.out ?_;(try go_simp);refine yT 6 rfl A.out ?_;(try go_simp);refine yT 7 rfl A.out ?_;(try go_simp);refine yT 8 rfl A.out ?_;(try go_simp);refine yT 9 rfl A.out ?_;(try go_simp);refine yO 10 rfl λK' hK=> ?_;go_simp;go_at_call 165;refine(fB V bd ba n (x (dm (av (j:bp) (dn:bp))).1 (dm (av (j:bp) (dn:bp))).2) (x (dm (av (j:bp) (an:bp))).1 (dm (av (j:bp) (an:bp))).2) (uc.leaf vh).1 (uc.leaf wk).1 hn).mono ?_;rintro e w3 hj;obtain⟨tj,vc⟩:=zE (qm n (x (dm (av (j:bp) (dn:bp))).1 (dm (av (j:bp) (dn:bp))).2) (x (dm (av (j:bp) (an:bp))).1 (dm (av (j:bp) (an:bp))).2));have wg:Ext (bG tag) V w3:=hj.2.2.mono (λq e=>by rw[e];exact⟨_,_,vr⟩);obtain rfl:e= ub (tU tj):=by rw[<-vc];exact hj.1
   have vd:SR w3:=vq.out _ ((va.out V we).trans wg (λq e=> .inl e));have HJ:=zH hj;have wi:=zH vc;clear hj vc;refine hK _ _ vd ?_;clear hK;(try go_simp);refine yT 11 rfl A.out ?_;(try go_simp);refine⟨by kernel_rfl, ?_⟩;have DH:=zH uc;have xj:cm (Ext (bG tag) G w3):=va.out w3 vd;have AN:=zH vh;have DB:=zH ud;have DM:=zH uv;clear uc vd wg we vh wk ud uv wl vx xo xr i1 i2 vr;go_wp2;go_ret;have hh:=(DF HR.out HG.out HI.out o1).2.2;rw[o3,o2] at hh;refine⟨tj,x.join (av (j:bp) (dn:bp)) (av (j:bp) (an:bp)),rfl, ?_,λh=> ?_,DH.out.joined AN.out HJ.out,HW.out _ xj.out⟩
   ·rw[<-wi.out]
    exact Stp.join yW (bH HG.out DM.out) (bH HG.out DB.out) ⟨_,_,AN.out,rfl,rfl⟩ hh
   ·refine IL o1 ?_
    rw[o3,o2];exact gW (wi.out.trans h)
 have e9:((op:bp)==9)=tG:=gb h9
 by_cases CN:op=18
 ·as_aux_lemma=>
   have uv:=AE.out IC.a (by unfold readsOf;rw[o1,CN];simp[oH]);rw[o3] at uv;obtain⟨an,rfl⟩:=jT uv;obtain⟨r',ba,ue,vx,wk⟩:=HF.out.var HG.out uv;obtain rfl:r=r':=by have:=vi.out;rw[ue] at this;exact(cD this).symm
   obtain⟨g0,rfl,vf,xo,xf⟩:=J.out.varCell vi.out xT.out vx;obtain⟨bd,wl,vh⟩:=HF.out.res HG.out;obtain⟨gr,cr,xl,AS,xr,_,vr⟩:=J.out.resAt wl;have t2:G.cell? ⟨S,2,tD⟩=tB (tP (tB ⟨gr,0,tD⟩) rl.length cr):=by rw[<-xl];exact zR J.out.rec_ 2 _
   have DO:¬bG tag gr:=by
    rintro⟨p,q,e⟩;have:=J.out.res.tr gr (by rw[xl];rfl);rw[this] at e;simp at e
   have vr:=(J.out.leaf vh).2;have vp:=ae J.out.rec_;have ya:¬bG tag S:=by rintro⟨p,q,e⟩;rw[J.out.tS] at e;simp at e
   have DE:an<r.2.length:=(ap.1 vx).1;have Jn:(j:bp)<(rl.length:bp):=by have:=(ap.1 wl).1;omega
   have DG:(an:bp)<(r.2.length:bp):=by omega
   have vm:¬bG tag (N+1):=by rintro⟨p,q,e⟩;rw[HD.out] at e;simp at e
   subst CN;clear ue;obtain⟨V,hV⟩:=zE G.drew;obtain⟨SR,ux⟩:=zE ((λY=>Ext (bG tag) G Y):World->Prop);have vq:cm (∀Y,Ext (bG tag) G Y->SR Y):=λY hY=>by rw[<-ux];exact hY
   have va:cm (∀Y,SR Y->Ext (bG tag) G Y):=λY hY=>by rw[<-ux] at hY;exact hY
   have vy:bh G.heap.size G V:=by rw[<-hV];exact(aq _ _).drew
   have we:SR V:=vq.out _ (Ext.of_below_size vy);have A:cm (∀Y,SR Y->Y.cell? ⟨S,2,tD⟩=tB (tP (tB ⟨gr,0,tD⟩) rl.length cr)/\S<Y.heap.size/\Y.cell? ⟨gr,j,tD⟩=tB (tP (tB ⟨bd,0,tD⟩) n n)/\gr<Y.heap.size/\Y.cell? ⟨N+1,2,tD⟩=tB (Z U (an:bp))/\N+1<Y.heap.size/\Y.cell? ⟨g0,an,tD⟩=tB (tP (tB ⟨ba,0,tD⟩) n n)/\g0<Y.heap.size):=λY hY=>by
    have D:=va.out Y hY;exact⟨by rw[D.cell (a:=⟨S,2,tD⟩) vp ya];exact t2,bl vp D.size,by rw[D.cell (a:=⟨gr,j,tD⟩) AS DO];exact xr,bl AS D.size,by rw[D.cell (a:=⟨N+1,2,tD⟩) iD vm];exact i2,bl iD D.size,by rw[D.cell (a:=⟨g0,an,tD⟩) vf xf];exact xo,bl vf D.size⟩
   have uc:=(J.out).grow vy;have HV:=zH hV;clear hV ux
   go_upto_region 31 with(fail)
   refine bL SR (by kernel_rfl) ?_;rw[HV.out];refine yT 0 rfl A.out ?_;(try go_simp);refine yT 1 rfl A.out ?_;(try go_simp);refine yT 2 rfl A.out ?_;(try go_simp);refine yT 3 rfl A.out ?_;(try go_simp);refine yT 4 rfl A.out ?_;(try go_simp);refine yT 5 rfl A.out ?_;(try go_simp);refine yT 6 rfl A.out ?_;(try go_simp);refine yT 7 rfl A.out ?_;(try go_simp);refine yT 8 rfl A.out ?_;(try go_simp);refine yT 9 rfl A.out ?_;(try go_simp);refine yT 10 rfl A.out ?_;(try go_simp);refine yT 11 rfl A.out ?_;(try go_simp);refine yO 12 rfl λK' hK=> ?_;go_simp;go_at_call 165;refine(fB V bd ba n (x (dm (cZ (j:bp))).1 (dm (cZ (j:bp))).2) (x (dm (av (j:bp) (an:bp))).1 (dm (av (j:bp) (an:bp))).2) (uc.leaf vh).1 (uc.leaf wk).1 hn).mono ?_;rintro e w3 hj;obtain⟨tj,vc⟩:=zE (qm n (x (dm (cZ (j:bp))).1 (dm (cZ (j:bp))).2) (x (dm (av (j:bp) (an:bp))).1 (dm (av (j:bp) (an:bp))).2));have wg:Ext (bG tag) V w3:=hj.2.2.mono (λq e=>by rw[e];exact⟨_,_,vr⟩);obtain rfl:e= ub (tU tj):=by rw[<-vc];exact hj.1
   have vd:SR w3:=vq.out _ ((va.out V we).trans wg (λq e=> .inl e));have HJ:=zH hj;have wi:=zH vc;clear hj vc;refine hK _ _ vd ?_;clear hK;(try go_simp);refine yT 13 rfl A.out ?_;(try go_simp);refine⟨by kernel_rfl, ?_⟩;have DH:=zH uc;have xj:cm (Ext (bG tag) G w3):=va.out w3 vd;have AN:=zH vh;have DM:=zH uv;clear uc vd wg we vh wk uv wl vx xo xr i1 i2 vr t2 xl;go_wp2;go_ret;have hh:=(EX HR.out HG.out HI.out o1).2;rw[o3] at hh;refine⟨tj,x.join (cZ (j:bp)) (av (j:bp) (an:bp)),rfl, ?_,λh=> ?_,DH.out.joined AN.out HJ.out,HW.out _ xj.out⟩
   ·rw[<-wi.out]
    exact Stp.join yW (bH HG.out DM.out) (.res HG.out) ⟨_,_,AN.out,rfl,rfl⟩ hh
   ·refine Ih o1 ?_
    rw[o3];exact gW (wi.out.trans h)
 have Jo:((op:bp)==18)=tG:=gb CN
 by_cases AT:op=15
 ·as_aux_lemma=>
   have ud:=CD.out (by rw[o1,AT];rfl);rw[o2] at ud;obtain⟨dn,rfl⟩:=jT ud;obtain⟨r',bd,ue,wl,vh⟩:=HF.out.var HG.out ud;obtain rfl:r=r':=by have:=vi.out;rw[ue] at this;exact(cD this).symm
   obtain⟨g0,rfl,vf,xo,xf⟩:=J.out.varCell vi.out xT.out wl;obtain⟨GB,g',yb,Iv,Jp,_,_⟩:=nW (In.out (by rw[o1,AT]));rw[o5] at GB yb;rw[o6] at Iv;obtain⟨fn,rfl⟩:∃fn:bx,ff=(fn:bp):=⟨ff.toNat,(gS GB).symm⟩
   rw[cP] at yb;obtain⟨br,GC,ID⟩:=HF.out.res yb;have IF:fn<m.fs.length:=(ap.1 yb).1;obtain⟨r2,AF⟩:∃r2,vt[fn]?=tB r2:=⟨_,am (by rw[HF.out.nv];exact IF)⟩
   obtain⟨VA,cv,AK,CC,GE,IH⟩:∃VA cv,vv= tP (tB ⟨VA,0,tD⟩) vt.length cv/\VA<G.heap.size/\G.cell? ⟨VA,fn,tD⟩=tB r2.1/\¬bG tag VA:=by
    obtain⟨a1,a2,e1⟩:=ai J.out.vars.own;have ho:=J.out.vars.own;rw[e1] at ho;obtain⟨VA,rfl,q1,q2⟩:=di ho (j:=fn) (u:=r2.1) (by rw[fj,AF];rfl);refine⟨VA,a2,e1,q1,q2, ?_⟩;rintro⟨p,q,e⟩;have:=J.out.vars.tr VA (by rw[e1];rfl);rw[this] at e;simp at e
   obtain⟨Jq,c2,GF⟩:=ai (J.out.vars.row fn r2 AF).own;rw[GF] at GE;have t1:G.cell? ⟨S,1,tD⟩=tB (tP (tB ⟨VA,0,tD⟩) vt.length cv):=by rw[<-AK];exact zR J.out.rec_ 1 _
   clear AK;have Jr:(fn:bp)<(vt.length:bp):=by have:=(ap.1 AF).1;omega
   have GO:cm (r2.2.length=g'.vs.length):=HF.out.v fn r2 g' AF yb;have vp:=ae J.out.rec_;have ya:¬bG tag S:=by rintro⟨p,q,e⟩;rw[J.out.tS] at e;simp at e
   have vm:¬bG tag (N+1):=by rintro⟨p,q,e⟩;rw[HD.out] at e;simp at e
   have CH:dn<r.2.length:=(ap.1 wl).1;have CM:(dn:bp)<(r.2.length:bp):=by omega
   have Js:args.length<=g'.vs.length:=by omega
   have Jt:g'.vs.length<=300:=(jm ((dJ HR.out).2.2.2.2.1 g' (cf yb))).1;subst AT;clear ue
   go_upto_region 24 with(fail)
   clear i0 i1 i2 i3 i4 i7
   go_loopw [11,15] (λAW DP wr=>∃q:bx,q<=args.length/\DP= Z U (q:bp)/\∃(t:nj) (x':X3),AW= tU t/\Stp m n (vP m vt gt rl) x x' t/\(t=tG->∀(p:bx)(y:bp),p<q->args[p]?=tB y->∀z,z<n->x.at_ (av (j:bp) y) z=tE->x.at_ (av (fn:bp) (p:bp)) z=tE)/\eQ wr m n S B sv vv rv gv vt gt rl x' tag/\Ext (bG tag) G wr) (λ_ DP _=>args.length-(intOf DP).toNat)
   case atStart=>exact⟨0,cN _,rfl,tG,x,rfl,Stp.refl _ _ _ _,λ_ p y hp=>fW hp (kh _),J.out,Ext.refl _ _⟩
   case round=>
    obtain⟨q,hq,rfl,t,x',rfl,ur,vu,hP,hE⟩:=hrel
    by_cases yd:q<args.length
    ·obtain⟨y,hy⟩:∃y,args[q]?=tB y:=⟨_,am yd⟩
     have A0:(q:bp)<(args.length:bp):=by omega
     have CT:=AE.out y (by unfold readsOf;rw[cR o1,o6];simp[cf hy]);obtain⟨yn,rfl⟩:=jT CT;obtain⟨r',ba,ue,vx,wk⟩:=HF.out.var HG.out CT;obtain rfl:r=r':=by have:=vi.out;rw[ue] at this;exact(cD this).symm
     have xr:G.cell? ⟨g0,yn,tD⟩=tB (tP (tB ⟨ba,0,tD⟩) n n):=by
      obtain⟨g1,e,_,h,_⟩:=J.out.varCell vi.out xT.out vx;simp only[dt,eW,pc] at e;rw[e];exact h
     have Ju:yn<r.2.length:=(ap.1 vx).1;have Jv:(yn:bp)<(r.2.length:bp):=by omega
     have GP:isVar g'.vs.length (q:bp)=tE:=sN.2 ⟨by omega,by omega⟩;obtain⟨IN,bq,GS,GT,A2⟩:=HF.out.var yb GP;obtain rfl:r2=IN:=by rw[AF] at GS;exact cD GS
     obtain⟨g2,rfl,GW,G0,IS⟩:=J.out.varCell AF GF GT;have Jw:(q:bp)<(r2.2.length:bp):=by have:=GO.out;omega
     obtain⟨ag,xt,rfl,G1,IT,G2⟩:=Fk.out (by rw[o6];intro e;rw[e] at yd;simp at yd);have G3:=G2 q (yn:bp) (by rw[o6];exact hy);have vr:=(J.out.leaf A2).2;have i4:G.cell? ⟨N+1,4,tD⟩=tB (Z U (fn:bp)):=zR vj.out 4 _;have i7:G.cell? ⟨N+1,7,tD⟩=tB (tP (tB ⟨ag,xt,tD⟩) args.length gc):=zR vj.out 7 _;clear ue;obtain⟨V,hV⟩:=zE wr.drew;obtain⟨SR,ux⟩:=zE ((λY=>Ext (bG tag) wr Y):World->Prop);have vq:cm (∀Y,Ext (bG tag) wr Y->SR Y):=λY hY=>by rw[<-ux];exact hY
     have va:cm (∀Y,SR Y->Ext (bG tag) wr Y):=λY hY=>by rw[<-ux] at hY;exact hY
     have vy:bh wr.heap.size wr V:=by rw[<-hV];exact(aq _ _).drew
     have we:SR V:=vq.out _ (Ext.of_below_size vy);have A:cm (∀Y,SR Y->Y.cell? ⟨S,1,tD⟩=tB (tP (tB ⟨VA,0,tD⟩) vt.length cv)/\S<Y.heap.size/\Y.cell? ⟨N+1,4,tD⟩=tB (Z U (fn:bp))/\Y.cell? ⟨N+1,7,tD⟩=tB (tP (tB ⟨ag,xt,tD⟩) args.length gc)/\N+1<Y.heap.size/\Y.cell? ⟨VA,fn,tD⟩=tB (tP (tB ⟨g2,0,tD⟩) r2.2.length c2)/\VA<Y.heap.size/\Y.cell? ⟨g2,q,tD⟩=tB (tP (tB ⟨bq,0,tD⟩) n n)/\g2<Y.heap.size/\Y.cell? ⟨ag,xt+q,tD⟩=tB (Z U (yn:bp))/\ag<Y.heap.size/\Y.cell? ⟨g0,yn,tD⟩=tB (tP (tB ⟨ba,0,tD⟩) n n)/\g0<Y.heap.size):=λY hY=>by
      have D:=hE.trans (va.out Y hY) (λ_ e=> .inl e);exact⟨by rw[D.cell (a:=⟨S,1,tD⟩) vp ya];exact t1,bl vp D.size,by rw[D.cell (a:=⟨N+1,4,tD⟩) iD vm];exact i4,by rw[D.cell (a:=⟨N+1,7,tD⟩) iD vm];exact i7,bl iD D.size,by rw[D.cell (a:=⟨VA,fn,tD⟩) CC IH];exact GE,bl CC D.size,by rw[D.cell (a:=⟨g2,q,tD⟩) GW IS];exact G0,bl GW D.size,by rw[D.cell (a:=⟨ag,xt+q,tD⟩) G1 IT];exact G3,bl G1 D.size,by rw[D.cell (a:=⟨g0,yn,tD⟩) vf xf];exact xr,bl vf D.size⟩
     have uc:=(hP).grow vy;have HV:=zH hV;clear hV ux;obtain⟨d1,d4,d7,dD,dS⟩:wr.cell? ⟨S,1,tD⟩=tB (tP (tB ⟨VA,0,tD⟩) vt.length cv)/\wr.cell? ⟨N+1,4,tD⟩=tB (Z U (fn:bp))/\wr.cell? ⟨N+1,7,tD⟩=tB (tP (tB ⟨ag,xt,tD⟩) args.length gc)/\N+1<wr.heap.size/\S<wr.heap.size:=by
      have:=A.out wr (vq.out _ (Ext.refl _ _));exact⟨this.1,this.2.2.1,this.2.2.2.1,this.2.2.2.2.1,this.2.1⟩
     go_upto_region 26 with(fail)
     clear d1 d4 d7 dD dS;refine bL SR (by kernel_rfl) ?_;rw[HV.out];refine yT 0 rfl A.out ?_;(try go_simp);refine yT 1 rfl A.out ?_;(try go_simp);refine yT 2 rfl A.out ?_;(try go_simp);refine yT 3 rfl A.out ?_;(try go_simp);refine yT 4 rfl A.out ?_;(try go_simp);refine yT 5 rfl A.out ?_;(try go_simp);refine yT 6 rfl A.out ?_;(try go_simp);refine yT 7 rfl A.out ?_;(try go_simp);refine yT 8 rfl A.out ?_;(try go_simp);refine yT 9 rfl A.out ?_;(try go_simp);refine yT 10 rfl A.out ?_;(try go_simp);refine yT 11 rfl A.out ?_;(try go_simp);refine yT 12 rfl A.out ?_;(try go_simp);refine yT 13 rfl A.out ?_;(try go_simp);refine yT 14 rfl A.out ?_;(try go_simp);refine yT 15 rfl A.out ?_;(try go_simp);refine yT 16 rfl A.out ?_;(try go_simp);refine yT 17 rfl A.out ?_;(try go_simp);refine yT 18 rfl A.out ?_;(try go_simp);refine yO 19 rfl λK' hK=> ?_;go_simp;go_at_call 165;refine(fB V bq ba n (x' (dm (av (fn:bp) (q:bp))).1 (dm (av (fn:bp) (q:bp))).2) (x' (dm (av (j:bp) (yn:bp))).1 (dm (av (j:bp) (yn:bp))).2) (uc.leaf A2).1 (uc.leaf wk).1 hn).mono ?_;rintro e w3 hj;obtain⟨tj,vc⟩:=zE (qm n (x' (dm (av (fn:bp) (q:bp))).1 (dm (av (fn:bp) (q:bp))).2) (x' (dm (av (j:bp) (yn:bp))).1 (dm (av (j:bp) (yn:bp))).2));have wg:Ext (bG tag) V w3:=hj.2.2.mono (λq e=>by rw[e];exact⟨_,_,vr⟩);obtain rfl:e= ub (tU tj):=by rw[<-vc];exact hj.1
     have vd:SR w3:=vq.out _ ((va.out V we).trans wg (λq e=> .inl e));have HJ:=zH hj;have wi:=zH vc;clear hj vc;refine hK _ _ vd ?_;clear hK;(try go_simp);refine⟨by kernel_rfl, ?_⟩;have xj:cm (Ext (bG tag) G w3):=hE.trans (va.out w3 vd) (λ_ e=> .inl e);have A4:=wT HR.out HG.out HI.out o1;have zc:=(A4.2.2.2 q (yn:bp) (by rw[o6];exact hy)).2;rw[o5] at zc;have wj:cm (Stp m n (vP m vt gt rl) x (x'.join (av (fn:bp) (q:bp)) (av (j:bp) (yn:bp))) (t||tj)):=by
      rw[<-wi.out];exact ur.trans (Stp.join yW (bH HG.out CT) (bH yb GP) ⟨_,_,A2,rfl,rfl⟩ zc)
     have ws:cm ((t||tj)=tG->∀(p:bx)(y:bp),p<q+1->args[p]?=tB y->∀z,z<n->x.at_ (av (j:bp) y) z=tE->x.at_ (av (fn:bp) (p:bp)) z=tE):=λh p y' hp zd z hz zj=>by
      rw[ij] at h
      by_cases e:p<q
      ·exact vu h.1 p y' e zd z hz zj
      ·obtain rfl:p=q:=by omega
       rw[hy] at zd;obtain rfl:=cD zd;have xF:=ur.same h.1;have h5:=gW (wi.out.trans h.2) z hz;have h6:x'.at_ (av (j:bp) (yn:bp)) z=tE:=by unfold X3.at_;rw[xF _ _ _ hz];exact zj
       have h7:=h5 h6;rw[xF _ _ _ hz] at h7;exact h7
     have ye:=zH (uc.joined A2 HJ.out);clear uc vd wg we A2 wk CT vx GT xr G0 G3 G2 vr i4 i7 A4 zc ur vu hP hE hy;cases tj with
     |true=>
      go_wp2;go_roundw
      case rel=>exact⟨q+1,by omega,by go_num,tE,_,rfl,by have:=wj.out;rw[tf] at this;exact this,(λh=>by cases h),ye.out,xj.out⟩
      case measure=>simp[intOf];omega
     |false=>
      go_wp2;go_roundw
      case rel=>exact⟨q+1,by omega,by go_num,t,_,rfl,by have:=wj.out;rw[lO] at this;exact this,by have:=ws.out;rw[lO] at this;exact this,ye.out,xj.out⟩
      case measure=>simp[intOf];omega
    ·have A5:q=args.length:=by omega
     subst A5;have A0:¬((args.length:bx):bp)<(args.length:bp):=by omega
     obtain⟨gr,cr,xl,AS,G4,_,_⟩:=J.out.resAt GC;have t2:G.cell? ⟨S,2,tD⟩=tB (tP (tB ⟨gr,0,tD⟩) rl.length cr):=by rw[<-xl];exact zR J.out.rec_ 2 _
     have DO:¬bG tag gr:=by
      rintro⟨p,q,e⟩;have:=J.out.res.tr gr (by rw[xl];rfl);rw[this] at e;simp at e
     have Jy:(fn:bp)<(rl.length:bp):=by have:=(ap.1 GC).1;omega
     have vr:=(J.out.leaf vh).2;have i1:G.cell? ⟨N+1,1,tD⟩=tB (Z U (dn:bp)):=zR vj.out 1 _;have i4:G.cell? ⟨N+1,4,tD⟩=tB (Z U (fn:bp)):=zR vj.out 4 _;have i7:G.cell? ⟨N+1,7,tD⟩=tB (tP ga args.length gc):=zR vj.out 7 _;clear GO;obtain⟨V,hV⟩:=zE wr.drew;obtain⟨SR,ux⟩:=zE ((λY=>Ext (bG tag) wr Y):World->Prop);have vq:cm (∀Y,Ext (bG tag) wr Y->SR Y):=λY hY=>by rw[<-ux];exact hY
     have va:cm (∀Y,SR Y->Ext (bG tag) wr Y):=λY hY=>by rw[<-ux] at hY;exact hY
     have vy:bh wr.heap.size wr V:=by rw[<-hV];exact(aq _ _).drew
     have we:SR V:=vq.out _ (Ext.of_below_size vy);have A:cm (∀Y,SR Y->Y.cell? ⟨S,2,tD⟩=tB (tP (tB ⟨gr,0,tD⟩) rl.length cr)/\S<Y.heap.size/\Y.cell? ⟨N+1,1,tD⟩=tB (Z U (dn:bp))/\Y.cell? ⟨N+1,4,tD⟩=tB (Z U (fn:bp))/\Y.cell? ⟨N+1,7,tD⟩=tB (tP ga args.length gc)/\N+1<Y.heap.size/\Y.cell? ⟨gr,fn,tD⟩=tB (tP (tB ⟨br,0,tD⟩) n n)/\gr<Y.heap.size/\Y.cell? ⟨g0,dn,tD⟩=tB (tP (tB ⟨bd,0,tD⟩) n n)/\g0<Y.heap.size):=λY hY=>by
      have D:=hE.trans (va.out Y hY) (λ_ e=> .inl e);exact⟨by rw[D.cell (a:=⟨S,2,tD⟩) vp ya];exact t2,bl vp D.size,by rw[D.cell (a:=⟨N+1,1,tD⟩) iD vm];exact i1,by rw[D.cell (a:=⟨N+1,4,tD⟩) iD vm];exact i4,by rw[D.cell (a:=⟨N+1,7,tD⟩) iD vm];exact i7,bl iD D.size,by rw[D.cell (a:=⟨gr,fn,tD⟩) AS DO];exact G4,bl AS D.size,by rw[D.cell (a:=⟨g0,dn,tD⟩) vf xf];exact xo,bl vf D.size⟩
     have uc:=(hP).grow vy;have HV:=zH hV;clear hV ux;obtain⟨_,_,_,_,d7,dD,_⟩:=A.out wr (vq.out _ (Ext.refl _ _))
     go_upto_region 28 with(fail)
     clear d7 dD;refine bL SR (by kernel_rfl) ?_;rw[HV.out];refine yT 0 rfl A.out ?_;(try go_simp);refine yT 1 rfl A.out ?_;(try go_simp);refine yT 2 rfl A.out ?_;(try go_simp);refine yT 3 rfl A.out ?_;(try go_simp);refine yT 4 rfl A.out ?_;(try go_simp);refine yT 5 rfl A.out ?_;(try go_simp);refine yT 6 rfl A.out ?_;(try go_simp);refine yT 7 rfl A.out ?_;(try go_simp);refine yT 8 rfl A.out ?_;(try go_simp);refine yT 9 rfl A.out ?_;(try go_simp);refine yT 10 rfl A.out ?_;(try go_simp);refine yT 11 rfl A.out ?_;(try go_simp);refine yT 12 rfl A.out ?_;(try go_simp);refine yO 13 rfl λK' hK=> ?_;go_simp;go_at_call 165;refine(fB V bd br n (x' (dm (av (j:bp) (dn:bp))).1 (dm (av (j:bp) (dn:bp))).2) (x' (dm (cZ (fn:bp))).1 (dm (cZ (fn:bp))).2) (uc.leaf vh).1 (uc.leaf ID).1 hn).mono ?_;rintro e w3 hj;obtain⟨tj,vc⟩:=zE (qm n (x' (dm (av (j:bp) (dn:bp))).1 (dm (av (j:bp) (dn:bp))).2) (x' (dm (cZ (fn:bp))).1 (dm (cZ (fn:bp))).2));have wg:Ext (bG tag) V w3:=hj.2.2.mono (λq e=>by rw[e];exact⟨_,_,vr⟩);obtain rfl:e= ub (tU tj):=by rw[<-vc];exact hj.1
     have vd:SR w3:=vq.out _ ((va.out V we).trans wg (λq e=> .inl e));have HJ:=zH hj;have wi:=zH vc;clear hj vc;refine hK _ _ vd ?_;clear hK;(try go_simp);refine⟨by kernel_rfl, ?_⟩;have xj:cm (Ext (bG tag) G w3):=hE.trans (va.out w3 vd) (λ_ e=> .inl e);have A4:=wT HR.out HG.out HI.out o1;have zc:=A4.2.2.1;rw[o5,o2] at zc;have wj:cm (Stp m n (vP m vt gt rl) x (x'.join (av (j:bp) (dn:bp)) (cZ (fn:bp))) (t||tj)):=by
      rw[<-wi.out];exact ur.trans (Stp.join yW (.res yb) (bH HG.out ud) ⟨_,_,vh,rfl,rfl⟩ zc)
     have ws:cm ((t||tj)=tG->Ay m n j k IC x):=λh=>by
      rw[ij] at h;refine Ii o1 (λp y' zd z hz zj=> ?_) (λz hz zj=> ?_)
      ·rw[o6] at zd
       rw[o5];exact vu h.1 p y' (ap.1 zd).1 zd z hz zj
      ·rw[o5] at zj
       rw[o2];have xF:=ur.same h.1;have h5:=gW (wi.out.trans h.2) z hz;have h6:x'.at_ (cZ (fn:bp)) z=tE:=by unfold X3.at_;rw[xF _ _ _ hz];exact zj
       have h7:=h5 h6;rw[xF _ _ _ hz] at h7;exact h7
     have ye:=zH (uc.joined vh HJ.out);clear uc vd wg we vr i1 i4 i7 A4 zc ur vu hP hE t2 xl G4;cases tj with
     |true=>
      go_wp2;go_ret;exact⟨tE,_,rfl,by have:=wj.out;rw[tf] at this;exact this,(λh=>by cases h),ye.out,HW.out _ xj.out⟩
     |false=>
      go_wp2;go_ret;exact⟨t,_,rfl,by have:=wj.out;rw[lO] at this;exact this,by have:=ws.out;rw[lO] at this;exact this,ye.out,HW.out _ xj.out⟩
 have Jz:((op:bp)==15)=tG:=gb AT
 by_cases zp:op=10
 ·as_aux_lemma=>
   have uv:=AE.out IC.a (by unfold readsOf;rw[o1,zp];simp[oH]);rw[o3] at uv;have ud:=CD.out (by rw[o1,zp];rfl);rw[o2] at ud;obtain⟨an,rfl⟩:=jT uv;obtain⟨dn,rfl⟩:=jT ud;obtain⟨r',ba,ue,vx,wk⟩:=HF.out.var HG.out uv;obtain rfl:r=r':=by have:=vi.out;rw[ue] at this;exact(cD this).symm
   obtain⟨r',bd,ue,wl,vh⟩:=HF.out.var HG.out ud;obtain rfl:r=r':=by have:=vi.out;rw[ue] at this;exact(cD this).symm
   obtain⟨g0,rfl,vf,xo,xf⟩:=J.out.varCell vi.out xT.out wl;have xr:G.cell? ⟨g0,an,tD⟩=tB (tP (tB ⟨ba,0,tD⟩) n n):=by
    obtain⟨g1,e,_,h,_⟩:=J.out.varCell vi.out xT.out vx;simp only[dt,eW,pc] at e;rw[e];exact h
   have CH:dn<r.2.length:=(ap.1 wl).1;have DE:an<r.2.length:=(ap.1 vx).1;have CM:(dn:bp)<(r.2.length:bp):=by omega
   have DG:(an:bp)<(r.2.length:bp):=by omega
   have zr:=pI (m:=m) H0.out (.inl (o1.trans zp));rw[cR (o1.trans zp)] at zr;obtain⟨_,A6,s',fd,zv,yi,IZ,_⟩:=pG zr;rw[o3] at zv;rw[o5] at A6 yi;obtain⟨fn,rfl⟩:∃fn:bx,ff=(fn:bp):=⟨ff.toNat,(gS A6).symm⟩
   rw[cP] at yi;obtain⟨sa,sc,yk⟩:=ai J.out.sites;rw[HF.out.ns] at yk;have t0:G.cell? ⟨S,0,tD⟩=tB (tP sa n sc):=by rw[<-yk];exact zR J.out.rec_ 0 _
   have vp:=ae J.out.rec_;have ya:¬bG tag S:=by rintro⟨p,q,e⟩;rw[J.out.tS] at e;simp at e
   have vm:¬bG tag (N+1):=by rintro⟨p,q,e⟩;rw[HD.out] at e;simp at e
   have I0:=zH yk;subst zp;have hh:=(DI HR.out HG.out HI.out o1).2.2.2;rw[o3,o5,o2] at hh;clear ue yk zr
   go_upto_region 14 with(fail)
   clear i0 i1 i2 i3 i4 i7
   go_loopw [11,13] (λAW An wr=>∃q:bx,q<=n/\An= Z U (q:bp)/\∃(t:nj) (x':X3),AW= tU t/\Stp m n (vP m vt gt rl) x x' t/\(t=tG->∀p:bx,p<q->x.at_ (av (j:bp) (an:bp)) p=tE->∀y,y<n->x.at_ (bN (p:bp) (fn:bp)) y=tE->x.at_ (av (j:bp) (dn:bp)) y=tE)/\eQ wr m n S B sv vv rv gv vt gt rl x' tag/\Ext (bG tag) G wr) (λ_ An _=>n-(intOf An).toNat)
   case atStart=>exact⟨0,cN _,rfl,tG,x,rfl,Stp.refl _ _ _ _,λ_ p hp=>fW hp (kh _),J.out,Ext.refl _ _⟩
   case round=>
    obtain⟨q,hq,rfl,t,x',rfl,ur,vu,hP,hE⟩:=hrel;have d0:wr.cell? ⟨S,0,tD⟩=tB (tP sa n sc):=by rw[hE.cell (a:=⟨S,0,tD⟩) vp ya];exact t0
    have dS:S<wr.heap.size:=bl vp hE.size
    by_cases yd:q<n
    rotate_left
    ·have A5:q=n:=by omega
     subst A5;have A0:¬(q:bp)<(q:bp):=by omega
     have wj:=zH ur;have ws:cm (t=tG->Ay m q j k IC x):=λh=>by
      refine Ij o1 ?_;rw[o3,o5,o2];exact vu h
     have HP:=zH hP;have HE:=zH hE;clear ur vu hP hE;go_wp2;go_ret;exact⟨t,x',rfl,wj.out,ws.out,HP.out,HW.out _ HE.out⟩
    have A0:(q:bp)<(n:bp):=by omega
    have d1:wr.cell? ⟨N+1,2,tD⟩=tB (Z U (an:bp)):=by rw[hE.cell (a:=⟨N+1,2,tD⟩) iD vm];exact zR vj.out 2 _
    have d2:wr.cell? ⟨g0,an,tD⟩=tB (tP (tB ⟨ba,0,tD⟩) n n):=by rw[hE.cell (a:=⟨g0,an,tD⟩) vf xf];exact xr
    have dD:N+1<wr.heap.size:=bl iD hE.size;have dg:g0<wr.heap.size:=bl vf hE.size;obtain⟨xp,_⟩:=hP.leaf wk;have I4:=xp.lt;have d3:=xp.cell yd;obtain⟨z,hz⟩:=zE (x'.at_ (av (j:bp) (an:bp)) q);have d4:wr.cell? ⟨ba,q,tD⟩=tB (tU z):=by rw[<-hz];exact d3
    have d6:wr.cell? ⟨N+1,0,tD⟩=tB (Z U 10):=by rw[hE.cell (a:=⟨N+1,0,tD⟩) iD vm];exact zR vj.out 0 _
    clear d3 xp;cases z with
    |false=>
     have wj:=zH ur;have ws:cm (t=tG->∀p:bx,p<q+1->x.at_ (av (j:bp) (an:bp)) p=tE->∀y,y<n->x.at_ (bN (p:bp) (fn:bp)) y=tE->x.at_ (av (j:bp) (dn:bp)) y=tE):=λh p hp yp=>by
      by_cases e:p<q
      ·exact vu h p e yp
      ·obtain rfl:p=q:=by omega
       have:=ur.mono _ _ _ yp;unfold X3.at_ at hz;rw[this] at hz;cases hz
     have HP:=zH hP;have HE:=zH hE;clear ur vu hP hE hz;go_wp2;go_roundw
     case rel=>exact⟨q+1,by omega,by go_num,t,x',rfl,wj.out,ws.out,HP.out,HE.out⟩
     case measure=>simp[intOf];omega
    |true=>
     have As:m.lf (av (j:bp) (an:bp)) q:=ur.snd HS.out _ q yd ⟨_,bH HG.out uv⟩ hz;obtain⟨st,yq,Bk⟩:=Aw HR.out As;have Bm:=gZ (bH HG.out uv) Bk;rw[Bm] at zv;obtain⟨p,hp⟩:=pJ yq;obtain rfl:=mW HR.out hp zv;obtain⟨r3,b3,At,Ax,yr⟩:=HF.out.fld yq yi;obtain⟨GA,cG,g3,c3,By,BE,BT,BY,B4,DQ,DS⟩:=J.out.fldCell At Ax;have t3:G.cell? ⟨S,3,tD⟩=tB (tP (tB ⟨GA,0,tD⟩) gt.length cG):=by rw[<-By];exact zR J.out.rec_ 3 _
     have I5:(q:bp)<(gt.length:bp):=by have:=(ap.1 At).1;omega
     have I6:(fn:bp)<(r3.2.length:bp):=by have:=(ap.1 Ax).1;omega
     have B5:pF m (bN (q:bp) (fn:bp)) fd.ty:= .fld yq yi;have vr:=(J.out.leaf vh).2;clear By Bm hp Bk;obtain⟨V,hV⟩:=zE wr.drew;obtain⟨SR,ux⟩:=zE ((λY=>Ext (bG tag) wr Y):World->Prop);have vq:cm (∀Y,Ext (bG tag) wr Y->SR Y):=λY hY=>by rw[<-ux];exact hY
     have va:cm (∀Y,SR Y->Ext (bG tag) wr Y):=λY hY=>by rw[<-ux] at hY;exact hY
     have vy:bh wr.heap.size wr V:=by rw[<-hV];exact(aq _ _).drew
     have we:SR V:=vq.out _ (Ext.of_below_size vy);have A:cm (∀Y,SR Y->Y.cell? ⟨S,3,tD⟩=tB (tP (tB ⟨GA,0,tD⟩) gt.length cG)/\S<Y.heap.size/\Y.cell? ⟨N+1,1,tD⟩=tB (Z U (dn:bp))/\Y.cell? ⟨N+1,4,tD⟩=tB (Z U (fn:bp))/\N+1<Y.heap.size/\Y.cell? ⟨GA,q,tD⟩=tB (tP (tB ⟨g3,0,tD⟩) r3.2.length c3)/\GA<Y.heap.size/\Y.cell? ⟨g3,fn,tD⟩=tB (tP (tB ⟨b3,0,tD⟩) n n)/\g3<Y.heap.size/\Y.cell? ⟨g0,dn,tD⟩=tB (tP (tB ⟨bd,0,tD⟩) n n)/\g0<Y.heap.size):=λY hY=>by
      have D:=hE.trans (va.out Y hY) (λ_ e=> .inl e);exact⟨by rw[D.cell (a:=⟨S,3,tD⟩) vp ya];exact t3,bl vp D.size,by rw[D.cell (a:=⟨N+1,1,tD⟩) iD vm];exact zR vj.out 1 _,by rw[D.cell (a:=⟨N+1,4,tD⟩) iD vm];exact zR vj.out 4 _,bl iD D.size,by rw[D.cell (a:=⟨GA,q,tD⟩) BE DQ];exact BT,bl BE D.size,by rw[D.cell (a:=⟨g3,fn,tD⟩) BY DS];exact B4,bl BY D.size,by rw[D.cell (a:=⟨g0,dn,tD⟩) vf xf];exact xo,bl vf D.size⟩
     have uc:=(hP).grow vy;have HV:=zH hV;clear hV ux
     go_upto_region 19 with(fail)
     refine bL SR (by kernel_rfl) ?_;rw[HV.out];refine yT 0 rfl A.out ?_;(try go_simp);refine yT 1 rfl A.out ?_;(try go_simp);refine yT 2 rfl A.out ?_;(try go_simp);refine yT 3 rfl A.out ?_;(try go_simp);refine yT 4 rfl A.out ?_;(try go_simp);refine yT 5 rfl A.out ?_;(try go_simp);refine yT 6 rfl A.out ?_;(try go_simp);refine yT 7 rfl A.out ?_;(try go_simp);refine yT 8 rfl A.out ?_;(try go_simp);refine yT 9 rfl A.out ?_;(try go_simp);refine yT 10 rfl A.out ?_;(try go_simp);refine yT 11 rfl A.out ?_;(try go_simp);refine yT 12 rfl A.out ?_;(try go_simp);refine yT 13 rfl A.out ?_;(try go_simp);refine yT 14 rfl A.out ?_;(try go_simp);refine yT 15 rfl A.out ?_;(try go_simp);refine yO 16 rfl λK' hK=> ?_;go_simp;go_at_call 165;refine(fB V bd b3 n (x' (dm (av (j:bp) (dn:bp))).1 (dm (av (j:bp) (dn:bp))).2) (x' (dm (bN (q:bp) (fn:bp))).1 (dm (bN (q:bp) (fn:bp))).2) (uc.leaf vh).1 (uc.leaf yr).1 hn).mono ?_;rintro e w3 hj;obtain⟨tj,vc⟩:=zE (qm n (x' (dm (av (j:bp) (dn:bp))).1 (dm (av (j:bp) (dn:bp))).2) (x' (dm (bN (q:bp) (fn:bp))).1 (dm (bN (q:bp) (fn:bp))).2));have wg:Ext (bG tag) V w3:=hj.2.2.mono (λq e=>by rw[e];exact⟨_,_,vr⟩);obtain rfl:e= ub (tU tj):=by rw[<-vc];exact hj.1
     have vd:SR w3:=vq.out _ ((va.out V we).trans wg (λq e=> .inl e));have HJ:=zH hj;have wi:=zH vc;clear hj vc;refine hK _ _ vd ?_;clear hK;(try go_simp);refine yT 17 rfl A.out ?_;(try go_simp);refine⟨by kernel_rfl, ?_⟩;have xj:cm (Ext (bG tag) G w3):=hE.trans (va.out w3 vd) (λ_ e=> .inl e);have wj:cm (Stp m n (vP m vt gt rl) x (x'.join (av (j:bp) (dn:bp)) (bN (q:bp) (fn:bp))) (t||tj)):=by
      rw[<-wi.out];exact ur.trans (Stp.join yW B5 (bH HG.out ud) ⟨_,_,vh,rfl,rfl⟩ (λy hy=>hh q y As hy))
     have ws:cm ((t||tj)=tG->∀p:bx,p<q+1->x.at_ (av (j:bp) (an:bp)) p=tE->∀y,y<n->x.at_ (bN (p:bp) (fn:bp)) y=tE->x.at_ (av (j:bp) (dn:bp)) y=tE):=λh p hp yp y hy B6=>by
      rw[ij] at h
      by_cases e:p<q
      ·exact vu h.1 p e yp y hy B6
      ·obtain rfl:p=q:=by omega
       have xF:=ur.same h.1;have h5:=gW (wi.out.trans h.2) y hy;have h6:x'.at_ (bN (p:bp) (fn:bp)) y=tE:=by unfold X3.at_;rw[xF _ _ _ hy];exact B6
       have h7:=h5 h6;rw[xF _ _ _ hy] at h7;exact h7
     have ye:=zH (uc.joined vh HJ.out);clear uc vd wg we vr ur vu hP hE t3 B4 BT yr At Ax hz As yq B5;cases t<;>cases tj
     all_goals
      go_wp2;go_roundw
      case rel=>exact⟨q+1,by omega,by go_num,_,_,rfl,wj.out,ws.out,ye.out,xj.out⟩
      case measure=>simp[intOf];omega
 have JA:((op:bp)==10)=tG:=gb zp
 by_cases AD:op=11
 ·as_aux_lemma=>
   have uv:=AE.out IC.a (by unfold readsOf;rw[o1,AD];simp[oH]);rw[o3] at uv;have ud:=AE.out IC.b (by unfold readsOf;rw[o1,AD];simp[rz]);rw[o4] at ud;obtain⟨an,rfl⟩:=jT uv;obtain⟨bn,rfl⟩:=jT ud;obtain⟨r',ba,ue,vx,wk⟩:=HF.out.var HG.out uv;obtain rfl:r=r':=by have:=vi.out;rw[ue] at this;exact(cD this).symm
   obtain⟨r',bd,ue,wl,vh⟩:=HF.out.var HG.out ud;obtain rfl:r=r':=by have:=vi.out;rw[ue] at this;exact(cD this).symm
   obtain⟨g0,rfl,vf,xo,xf⟩:=J.out.varCell vi.out xT.out wl;have xr:G.cell? ⟨g0,an,tD⟩=tB (tP (tB ⟨ba,0,tD⟩) n n):=by
    obtain⟨g1,e,_,h,_⟩:=J.out.varCell vi.out xT.out vx;simp only[dt,eW,pc] at e;rw[e];exact h
   have CH:bn<r.2.length:=(ap.1 wl).1;have DE:an<r.2.length:=(ap.1 vx).1;have CM:(bn:bp)<(r.2.length:bp):=by omega
   have DG:(an:bp)<(r.2.length:bp):=by omega
   have zr:=pI (m:=m) H0.out (.inr (o1.trans AD));rw[cE (by rw[o1,AD];decide)] at zr;obtain⟨_,A6,s',fd,zv,yi,IZ,_⟩:=pG zr;rw[o3] at zv;rw[o5] at A6 yi;obtain⟨fn,rfl⟩:∃fn:bx,ff=(fn:bp):=⟨ff.toNat,(gS A6).symm⟩
   rw[cP] at yi;obtain⟨sa,sc,yk⟩:=ai J.out.sites;rw[HF.out.ns] at yk;have t0:G.cell? ⟨S,0,tD⟩=tB (tP sa n sc):=by rw[<-yk];exact zR J.out.rec_ 0 _
   have vp:=ae J.out.rec_;have ya:¬bG tag S:=by rintro⟨p,q,e⟩;rw[J.out.tS] at e;simp at e
   have vm:¬bG tag (N+1):=by rintro⟨p,q,e⟩;rw[HD.out] at e;simp at e
   have I0:=zH yk;subst AD;have hh:=(EW HR.out HG.out HI.out o1).2.2.2;rw[o3,o5,o4] at hh;clear ue yk zr
   go_upto_region 14 with(fail)
   clear i0 i1 i2 i3 i4 i7
   go_loopw [11,13] (λAW An wr=>∃q:bx,q<=n/\An= Z U (q:bp)/\∃(t:nj) (x':X3),AW= tU t/\Stp m n (vP m vt gt rl) x x' t/\(t=tG->∀p:bx,p<q->x.at_ (av (j:bp) (an:bp)) p=tE->∀y,y<n->x.at_ (av (j:bp) (bn:bp)) y=tE->x.at_ (bN (p:bp) (fn:bp)) y=tE)/\eQ wr m n S B sv vv rv gv vt gt rl x' tag/\Ext (bG tag) G wr) (λ_ An _=>n-(intOf An).toNat)
   case atStart=>exact⟨0,cN _,rfl,tG,x,rfl,Stp.refl _ _ _ _,λ_ p hp=>fW hp (kh _),J.out,Ext.refl _ _⟩
   case round=>
    obtain⟨q,hq,rfl,t,x',rfl,ur,vu,hP,hE⟩:=hrel;have d0:wr.cell? ⟨S,0,tD⟩=tB (tP sa n sc):=by rw[hE.cell (a:=⟨S,0,tD⟩) vp ya];exact t0
    have dS:S<wr.heap.size:=bl vp hE.size
    by_cases yd:q<n
    rotate_left
    ·have A5:q=n:=by omega
     subst A5;have A0:¬(q:bp)<(q:bp):=by omega
     have wj:=zH ur;have ws:cm (t=tG->Ay m q j k IC x):=λh=>by
      refine Ik o1 ?_;rw[o3,o5,o4];exact vu h
     have HP:=zH hP;have HE:=zH hE;clear ur vu hP hE;go_wp2;go_ret;exact⟨t,x',rfl,wj.out,ws.out,HP.out,HW.out _ HE.out⟩
    have A0:(q:bp)<(n:bp):=by omega
    have d1:wr.cell? ⟨N+1,2,tD⟩=tB (Z U (an:bp)):=by rw[hE.cell (a:=⟨N+1,2,tD⟩) iD vm];exact zR vj.out 2 _
    have d2:wr.cell? ⟨g0,an,tD⟩=tB (tP (tB ⟨ba,0,tD⟩) n n):=by rw[hE.cell (a:=⟨g0,an,tD⟩) vf xf];exact xr
    have dD:N+1<wr.heap.size:=bl iD hE.size;have dg:g0<wr.heap.size:=bl vf hE.size;obtain⟨xp,_⟩:=hP.leaf wk;have I4:=xp.lt;have d3:=xp.cell yd;obtain⟨z,hz⟩:=zE (x'.at_ (av (j:bp) (an:bp)) q);have d4:wr.cell? ⟨ba,q,tD⟩=tB (tU z):=by rw[<-hz];exact d3
    have d6:wr.cell? ⟨N+1,0,tD⟩=tB (Z U 11):=by rw[hE.cell (a:=⟨N+1,0,tD⟩) iD vm];exact zR vj.out 0 _
    clear d3 xp;cases z with
    |false=>
     have wj:=zH ur;have ws:cm (t=tG->∀p:bx,p<q+1->x.at_ (av (j:bp) (an:bp)) p=tE->∀y,y<n->x.at_ (av (j:bp) (bn:bp)) y=tE->x.at_ (bN (p:bp) (fn:bp)) y=tE):=λh p hp yp=>by
      by_cases e:p<q
      ·exact vu h p e yp
      ·obtain rfl:p=q:=by omega
       have:=ur.mono _ _ _ yp;unfold X3.at_ at hz;rw[this] at hz;cases hz
     have HP:=zH hP;have HE:=zH hE;clear ur vu hP hE hz;go_wp2;go_roundw
     case rel=>exact⟨q+1,by omega,by go_num,t,x',rfl,wj.out,ws.out,HP.out,HE.out⟩
     case measure=>simp[intOf];omega
    |true=>
     have As:m.lf (av (j:bp) (an:bp)) q:=ur.snd HS.out _ q yd ⟨_,bH HG.out uv⟩ hz;obtain⟨st,yq,Bk⟩:=Aw HR.out As;have Bm:=gZ (bH HG.out uv) Bk;rw[Bm] at zv;obtain⟨p,hp⟩:=pJ yq;obtain rfl:=mW HR.out hp zv;obtain⟨r3,b3,At,Ax,yr⟩:=HF.out.fld yq yi;obtain⟨GA,cG,g3,c3,By,BE,BT,BY,B4,DQ,DS⟩:=J.out.fldCell At Ax;have t3:G.cell? ⟨S,3,tD⟩=tB (tP (tB ⟨GA,0,tD⟩) gt.length cG):=by rw[<-By];exact zR J.out.rec_ 3 _
     have I5:(q:bp)<(gt.length:bp):=by have:=(ap.1 At).1;omega
     have I6:(fn:bp)<(r3.2.length:bp):=by have:=(ap.1 Ax).1;omega
     have B5:pF m (bN (q:bp) (fn:bp)) fd.ty:= .fld yq yi;have vr:=(J.out.leaf yr).2;clear By Bm hp Bk;obtain⟨V,hV⟩:=zE wr.drew;obtain⟨SR,ux⟩:=zE ((λY=>Ext (bG tag) wr Y):World->Prop);have vq:cm (∀Y,Ext (bG tag) wr Y->SR Y):=λY hY=>by rw[<-ux];exact hY
     have va:cm (∀Y,SR Y->Ext (bG tag) wr Y):=λY hY=>by rw[<-ux] at hY;exact hY
     have vy:bh wr.heap.size wr V:=by rw[<-hV];exact(aq _ _).drew
     have we:SR V:=vq.out _ (Ext.of_below_size vy);have A:cm (∀Y,SR Y->Y.cell? ⟨S,3,tD⟩=tB (tP (tB ⟨GA,0,tD⟩) gt.length cG)/\S<Y.heap.size/\Y.cell? ⟨N+1,3,tD⟩=tB (Z U (bn:bp))/\Y.cell? ⟨N+1,4,tD⟩=tB (Z U (fn:bp))/\N+1<Y.heap.size/\Y.cell? ⟨GA,q,tD⟩=tB (tP (tB ⟨g3,0,tD⟩) r3.2.length c3)/\GA<Y.heap.size/\Y.cell? ⟨g3,fn,tD⟩=tB (tP (tB ⟨b3,0,tD⟩) n n)/\g3<Y.heap.size/\Y.cell? ⟨g0,bn,tD⟩=tB (tP (tB ⟨bd,0,tD⟩) n n)/\g0<Y.heap.size):=λY hY=>by
      have D:=hE.trans (va.out Y hY) (λ_ e=> .inl e);exact⟨by rw[D.cell (a:=⟨S,3,tD⟩) vp ya];exact t3,bl vp D.size,by rw[D.cell (a:=⟨N+1,3,tD⟩) iD vm];exact zR vj.out 3 _,by rw[D.cell (a:=⟨N+1,4,tD⟩) iD vm];exact zR vj.out 4 _,bl iD D.size,by rw[D.cell (a:=⟨GA,q,tD⟩) BE DQ];exact BT,bl BE D.size,by rw[D.cell (a:=⟨g3,fn,tD⟩) BY DS];exact B4,bl BY D.size,by rw[D.cell (a:=⟨g0,bn,tD⟩) vf xf];exact xo,bl vf D.size⟩
     have uc:=(hP).grow vy;have HV:=zH hV;clear hV ux
     go_upto_region 20 with(fail)
     refine bL SR (by kernel_rfl) ?_;rw[HV.out];refine yT 0 rfl A.out ?_;(try go_simp);refine yT 1 rfl A.out ?_;(try go_simp);refine yT 2 rfl A.out ?_;(try go_simp);refine yT 3 rfl A.out ?_;(try go_simp);refine yT 4 rfl A.out ?_;(try go_simp);refine yT 5 rfl A.out ?_;(try go_simp);refine yT 6 rfl A.out ?_;(try go_simp);refine yT 7 rfl A.out ?_;(try go_simp);refine yT 8 rfl A.out ?_;(try go_simp);refine yT 9 rfl A.out ?_;(try go_simp);refine yT 10 rfl A.out ?_;(try go_simp);refine yT 11 rfl A.out ?_;(try go_simp);refine yT 12 rfl A.out ?_;(try go_simp);refine yT 13 rfl A.out ?_;(try go_simp);refine yT 14 rfl A.out ?_;(try go_simp);refine yT 15 rfl A.out ?_;(try go_simp);refine yO 16 rfl λK' hK=> ?_;go_simp;go_at_call 165;refine(fB V b3 bd n (x' (dm (bN (q:bp) (fn:bp))).1 (dm (bN (q:bp) (fn:bp))).2) (x' (dm (av (j:bp) (bn:bp))).1 (dm (av (j:bp) (bn:bp))).2) (uc.leaf yr).1 (uc.leaf vh).1 hn).mono ?_;rintro e w3 hj;obtain⟨tj,vc⟩:=zE (qm n (x' (dm (bN (q:bp) (fn:bp))).1 (dm (bN (q:bp) (fn:bp))).2) (x' (dm (av (j:bp) (bn:bp))).1 (dm (av (j:bp) (bn:bp))).2));have wg:Ext (bG tag) V w3:=hj.2.2.mono (λq e=>by rw[e];exact⟨_,_,vr⟩);obtain rfl:e= ub (tU tj):=by rw[<-vc];exact hj.1
     have vd:SR w3:=vq.out _ ((va.out V we).trans wg (λq e=> .inl e));have HJ:=zH hj;have wi:=zH vc;clear hj vc;refine hK _ _ vd ?_;clear hK;(try go_simp);refine yT 17 rfl A.out ?_;(try go_simp);refine⟨by kernel_rfl, ?_⟩;have xj:cm (Ext (bG tag) G w3):=hE.trans (va.out w3 vd) (λ_ e=> .inl e);have wj:cm (Stp m n (vP m vt gt rl) x (x'.join (bN (q:bp) (fn:bp)) (av (j:bp) (bn:bp))) (t||tj)):=by
      rw[<-wi.out];exact ur.trans (Stp.join yW (bH HG.out ud) B5 ⟨_,_,yr,rfl,rfl⟩ (λy hy=>hh q y As hy))
     have ws:cm ((t||tj)=tG->∀p:bx,p<q+1->x.at_ (av (j:bp) (an:bp)) p=tE->∀y,y<n->x.at_ (av (j:bp) (bn:bp)) y=tE->x.at_ (bN (p:bp) (fn:bp)) y=tE):=λh p hp yp y hy B6=>by
      rw[ij] at h
      by_cases e:p<q
      ·exact vu h.1 p e yp y hy B6
      ·obtain rfl:p=q:=by omega
       have xF:=ur.same h.1;have h5:=gW (wi.out.trans h.2) y hy;have h6:x'.at_ (av (j:bp) (bn:bp)) y=tE:=by unfold X3.at_;rw[xF _ _ _ hy];exact B6
       have h7:=h5 h6;rw[xF _ _ _ hy] at h7;exact h7
     have ye:=zH (uc.joined yr HJ.out);clear uc vd wg we vr ur vu hP hE t3 B4 BT yr At Ax hz As yq B5;cases t<;>cases tj
     all_goals
      go_wp2;go_roundw
      case rel=>exact⟨q+1,by omega,by go_num,_,_,rfl,wj.out,ws.out,ye.out,xj.out⟩
      case measure=>simp[intOf];omega
 have JB:((op:bp)==11)=tG:=gb AD;have I7:=zH J.out;go_wp2;go_ret;exact⟨tG,x,rfl,Stp.refl _ _ _ _,λ_=>E9 (by rw[o1];exact AM) (by rw[o1];exact zp) (by rw[o1];exact AD) (by rw[o1];exact h9) (by rw[o1];exact AT) (by rw[o1];exact CN),I7.out,HW.out _ (Ext.refl _ _)⟩
end
end Go.Proofs.YtjomgckjhcfbgaaGreat
