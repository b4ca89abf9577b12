/- Walks. -/
import Derived.Test.YtjomgckjhcfbgaaGreatY21
set_option maxRecDepth 100000
set_option maxHeartbeats 64000000
set_option linter.all false
namespace Go.Proofs.YtjomgckjhcfbgaaGreat
open Go.RowKit
open Go.Proofs.Tryz renaming prog→ac,underlying42→cJ,underlying25→fk,underlying62→pL,underlying50→sf,underlying97→sk
open _root_.List renaming getElem?_eq_getElem→am,getElem?_eq_some_iff→ap,mem_of_getElem?→cf,length_append→cw,mem_singleton→cH,take_length→de,mem_map→dy,range→ej,mem_flatMap→em,getElem?_append_right→et,flatMap_append→eK,map_append→fL,getElem?_append_left→gR,mem_range→jn,replicate→nF
open Go.RowKit.Below renaming refl→aq,heap_alloc→cn
open Go.RowKit renaming Below→bh,Hid→cm
open _root_.Array renaming getElem?_eq_some_iff→bj,getElem?_eq_none→nt
open _root_.Nat renaming lt_of_lt_of_le→bl,le_refl→ce,zero_le→cN,zero_add→cV,le_trans→cY,lt_or_ge→j8,not_lt_zero→kh,add_zero→mx,sub_self→m6,lt_succ_self→pf,lt_trans→sq,add_assoc→sB
open _root_ renaming List→bm,Int→bp,Nat→bx,if_neg→cE,if_pos→cR,Array→da,absurd→fW,False→mb
open Go renaming Value→cd,wpList_load_row→ci,storeCells→dr,bodyPost_ret→dv,maxLen→dT,heap_setCell_same→eL,Calls→gd,TypeId→gx,info_parts→gA,Oper→ke,Program→km,bytes→py,results→tz
open Go.Value renaming oneCell'→cj,slice→co,int→eE,ownBlock→eJ,slice→tP,pointer→tR,bool→tU,agg→tW,int→Z
open _root_.Option.some renaming inj→cD
open _root_.Int renaming toNat_natCast→cP,toNat_of_nonneg→gS
open _root_.Prod.mk renaming injEq→cU
open Go.Addr renaming add_lit→dc
open _root_.Classical renaming byContradiction→er
open Go.Result renaming andThen→fX
open _root_.Bool renaming or_eq_false_iff→ij,or_false→lO,or_true→tf,true→tE,false→tG
open _root_.Prod renaming fst→lE
open Go.Oper renaming wp→lR
open _root_.Option renaming bind_some→oT,some→tB,none→tD
open Go.Obj renaming cells→ua
open Go.Ending renaming returned→ub
open Go.IntKind renaming i64→U
open Tryz
section
variable {m:Mo}{n S B:bx}{sv vv rv gv:cd}{vt gt:bm (cd×bm bx)}{rl:bm bx}{x:X3}{tag:Tag}
def He (m:Mo)(n S B:bx)(sv vv rv gv:cd)(vt gt:bm (cd×bm bx))(rl:bm bx)(x:X3)(tag:Tag)(ok:bx->bx->Prop)(d:World)(f:cd)(wr:World):Prop:=
 ∃t x',f= tU t/\Stp m n (vP m vt gt rl) x x' t/\(t=tG->∀(j k:bx)(g:Fn)(i:Ins),m.fs[j]?=tB g->g.c.ins[k]?=tB i->ok j k->Ay m n j k i x)/\eQ wr m n S B sv vv rv gv vt gt rl x' tag/\Ext (bG tag) d wr
theorem ul (w D:World)(h:eQ w m n S B sv vv rv gv vt gt rl x tag)(hf:lC m n vt gt rl)(ur:m.inn D)(hB:D.heap.size<=B)(vi:bh D.heap.size D w)(hr:bf m=0)(hs:Gy m n x)(hn:n<=90000):
  gd ac 80 #[tR (tB ⟨S,0,tD⟩),tW m.cells] w λe w'=>∃v,e= ub v/\He m n S B sv vv rv gv vt gt rl x tag (λ_ _=>True) w v w':=by
 obtain⟨N,hN⟩:=zE w.heap.size;obtain⟨A,ud⟩:=zE (w.alloc (ua m.cells 25));have va:=iq ud;have vx:A.heap[N]?=tB (ua m.cells 25 (0,0)):=by rw[<-ud,<-hN];exact alloc_at _ _
 have vj:bh D.heap.size D A:=vi.trans (va.mono vi.size);have vy:tag N=(0,0,0):=er λe=>by have:=(h.low N e).2;omega
 have we:m.fs≠[]:=by
  intro e;have:=(dJ hr).2.2.2.2.2;unfold Mo.fnIx fT at this;rw[e] at this;simp at this
 obtain⟨fb,fo,vc,vm,wg⟩:=ur.frow we;have wi:∀k,bG tag k->D.heap.size<=k:=λk ⟨p,q,e⟩=>cY hB (h.low k (by rw[e];simp)).1;have vp:cm (∀W,Ext (bG tag) A W->bh D.heap.size D W):=λW J=>vj.trans (J.below vj.size wi);have HK:cm (∀W,Ext (bG tag) A W->W.cell? ⟨N,0,tD⟩=tB (tP m.sA m.ss.length m.sC)/\W.cell? ⟨N,1,tD⟩=tB (tP (tB ⟨fb,fo,tD⟩) m.fs.length m.fC)/\N<W.heap.size/\fb<W.heap.size):=λW J=>by
  have r:=J.heap vx (by rintro⟨p,q,e⟩;rw[vy] at e;simp at e);rw[<-vc];exact⟨zR r 0 _,zR r 1 _,ae r,bl vm (vp.out W J).size⟩
 have xl:cm (∀(j:bx)(g:Fn),m.fs[j]?=tB g->∀W,Ext (bG tag) A W->W.cell? ⟨fb,fo+j*8+7,tD⟩=tB (tP g.c.insA g.c.ins.length g.c.insC)):=λj g d W J=>by
  rw[(vp.out W J).cell (p:=⟨fb,_,tD⟩) vm];exact wg j g d 7 _ rfl
 have xo:cm (∀g∈m.fs,g.c.ins.length<=dT):=λg d=>(ur.fin g d).code.len;have xp:cm (∀(wr:World)(x':X3)(j k:bx)(g:Fn)(i:Ins),eQ wr m n S B sv vv rv gv vt gt rl x' tag->Ext (bG tag) A wr->Gy m n x'->m.fs[j]?=tB g->g.c.ins[k]?=tB i->gd ac 124 #[tR (tB ⟨S,0,tD⟩),tW #[tP m.sA m.ss.length m.sC,tP (tB ⟨fb,fo,tD⟩) m.fs.length m.fC],Z U (j:bp),Z U (k:bp)] wr (Il m n S B sv vv rv gv vt gt rl x' tag j k i wr)):=λwr x' j k g i hP hE hS d f=>by
  have:=uk wr D hP hf ur hB (vp.out wr hE) hr d f hS hn;unfold Mo.cells at this;rw[vc] at this;exact this
 have HH:=zH (h.grow va);have HW:cm (∀W,Ext (bG tag) A W->Ext (bG tag) w W):=λW J=>(Ext.of_below_size va).trans J (λk hk=> .inl hk);have HS:=zH hs;have wj:(aj m.xi).length=n:=hf.ns;have xr:=zH wj;have xt:=ur.nf;unfold dT at xt;unfold Mo.cells at ud⊢;rw[vc] at ud⊢;have xF:=zH ud;clear h hf ur vi hr hs va vx vj vy we vc vm wg wi ud wj;go_enter func80,ntmps80
 go_upto_region 1 with(fail)
 rw[xF.out];(try rw[hN])
 go_upto_region 3 with(fail)
 go_loopw [5,6] (λs5 s6 wr=>∃j:bx,j<=m.fs.length/\s6= Z U (j:bp)/\He m n S B sv vv rv gv vt gt rl x tag (λp _=>p<j) A s5 wr) (λ_ s6 _=>m.fs.length-(intOf s6).toNat)
 case atStart=>exact⟨0,cN _,rfl,tG,x,rfl,Stp.refl _ _ _ _,λ_ _ _ _ _ _ _ hp=>fW hp (kh _),HH.out,Ext.refl _ _⟩
 case round=>
  obtain⟨j,hj,rfl,t,x',rfl,hst,vd,hP,hE⟩:=hrel;obtain⟨k0,k1,k2,k3⟩:=HK.out wr hE
  by_cases wk:j<m.fs.length
  rotate_left
  ·have xT:j=m.fs.length:=by omega
   subst xT;have ya:¬((m.fs.length:bx):bp)<(m.fs.length:bp):=by omega
   have ue:cm (He m n S B sv vv rv gv vt gt rl x tag (λ_ _=>True) w (tU t) wr):=⟨t,x',rfl,hst,λG j k g i d f _=>vd G j k g i d f (ap.1 d).1,hP,HW.out _ hE⟩
   clear hst vd hP hE;go_wp2;go_ret;exact⟨_,rfl,ue.out⟩
  obtain⟨g,d⟩:∃g,m.fs[j]?=tB g:=⟨_,am wk⟩
  have ya:(j:bp)<(m.fs.length:bp):=by omega
  have yb:=xo.out g (cf d);unfold dT at yb;have yd:=zH hst;have ye:=zH vd;have HP:=zH hP;have HE:=zH hE;have HG:=zH d;clear hst vd hP hE d
  go_upto_region 6 with(fail)
  clear k0 k1 k2 k3
  go_loopw [5,7] (λs5 s7 wq=>∃k:bx,k<=g.c.ins.length/\s7= Z U (k:bp)/\He m n S B sv vv rv gv vt gt rl x tag (λp q=>p<j\/(p=j/\q<k)) A s5 wq) (λ_ s7 _=>g.c.ins.length-(intOf s7).toNat)
  case atStart=>exact⟨0,cN _,rfl,t,x',rfl,yd.out,λG p q g i d f vq=>ye.out G p q g i d f (by rcases vq with e|⟨_,e⟩;exact e;exact fW e (kh _)),HP.out,HE.out⟩
  case round=>
   obtain⟨k,hk,rfl,t2,x2,rfl,uv,vf,vh,uc⟩:=hrel;obtain⟨k0,k1,k2,k3⟩:=HK.out wr uc;have k7:=xl.out j g HG.out wr uc
   by_cases vr:k<g.c.ins.length
   rotate_left
   ·have yi:k=g.c.ins.length:=by omega
    have yk:¬(k:bp)<(g.c.ins.length:bp):=by omega
    have ue:cm (He m n S B sv vv rv gv vt gt rl x tag (λp _=>p<j+1) A (tU t2) wr):=⟨t2,x2,rfl,uv,λG p q g' i d f vq=>vf G p q g' i d f (by
     by_cases e:p<j
     ·exact .inl e
     ·obtain rfl:p=j:=by omega
      rw[HG.out] at d;obtain rfl:=cD d;exact .inr ⟨rfl,by rw[yi];exact(ap.1 f).1⟩),vh,uc⟩
    clear uv vf vh uc;go_wp2;go_roundw
    case rel=>exact⟨j+1,wk,by go_num,ue.out⟩
    case measure=>simp[intOf];omega
   obtain⟨i,f⟩:∃i,g.c.ins[k]?=tB i:=⟨_,am vr⟩
   have yk:(k:bp)<(g.c.ins.length:bp):=by omega
   have yp:=zH (xp.out wr x2 j k g i vh uc (uv.snd HS.out) HG.out f);have wl:=zH uv;have yq:=zH vf;have yr:=zH uc;have HI:=zH f;clear uv vf vh uc f
   go_upto_if 30 with(go_at_call 124;refine yp.out.mono ?_;rintro e w3 ⟨t3,x3,rfl,ws,wx,xf,xj⟩;have yv:=zH ws;have yy:=zH wx;have yW:=zH xf;have zc:=zH xj;clear ws wx xf xj)
   have ue:cm (He m n S B sv vv rv gv vt gt rl x tag (λp q=>p<j\/(p=j/\q<k+1)) A (tU (t2||t3)) w3):=by
    refine⟨t2||t3,x3,rfl,wl.out.trans yv.out,λG p q g' i' d vu vq=> ?_,yW.out,yr.out.trans zc.out (λ_ e=> .inl e)⟩;rw[ij] at G
    by_cases e:p<j\/(p=j/\q<k)
    ·exact yq.out G.1 p q g' i' d vu e
    ·have e2:p=j/\q=k:=by omega
     obtain⟨rfl,rfl⟩:=e2;rw[HG.out] at d;obtain rfl:=cD d;rw[HI.out] at vu;obtain rfl:=cD vu;exact(yy.out G.2).congr (by rw[xr.out];exact ce _) (λr u y hy=>(wl.out.same G.1 r u y hy).symm)
   clear k0 k1 k2 k3 k7;cases t3 with
   |true=>
    have ux:=ue;rw[tf] at ux;go_wp2;go_roundw
    case rel=>exact⟨k+1,vr,by go_num,ux.out⟩
    case measure=>simp[intOf];omega
   |false=>
    have ux:=ue;rw[lO] at ux;go_wp2;go_roundw
    case rel=>exact⟨k+1,vr,by go_num,ux.out⟩
    case measure=>simp[intOf];omega
end
section
variable {w w' w2 w5 w8:World}{m:Mo}{n S B o:bx}{sv vv rv gv tv v5:cd}{vt gt:bm (cd×bm bx)}{rl:bm bx}{x:X3}{tag tag':Tag}{c:bx×bx×bx}
theorem fV.ext2 {M:bx->Prop}(h:fV w n o c vv vt x tag)(v:Ext M w w')(A:∀k,M k->k<w.heap.size->tag k≠c/\∀f,f<vt.length->tag k≠(3,o+f,0)/\∀u,tag k≠(4,o+f,u))(J:c≠(0,0,0))(D:∀k,k<w.heap.size->tag' k=tag k):fV w' n o c vv vt x tag':=by
 refine⟨pK h.own v h.tr λk d q=>(A k d q).1,λf r G=>(h.row f r G).ext v (λk d q=> ?_) D,λk d=> ?_⟩
 ·exact(A k d q).2 f (ap.1 G).1
 ·rw[D k (h.own.lt k d).2]
  exact h.tr k d
def CG (vt gt:bm (cd×bm bx))(j:bx):Prop:=(∀f,f<vt.length->f≠j)/\j≠1000000/\∀f,f<gt.length->2000000+f≠j
theorem eQ.ext2 {M:bx->Prop}{j:bx}(h:eQ w m n S B sv vv rv gv vt gt rl x tag)(u:Ext M w w')(A:∀k,M k->k<w.heap.size->tag k=(3,j,0))(G:CG vt gt j)(v:∀k,k<w.heap.size->tag' k=tag k)(uc:∀k,w.heap.size<=k->tag' k≠(0,0,0)->B<=k/\k<w'.heap.size):eQ w' m n S B sv vv rv gv vt gt rl x tag':=by
 have hS:=(bj.1 h.rec_).1;refine⟨u.heap h.rec_ λd=> ?_,af h.sites u λk d ud=> ?_,h.vars.ext2 u (λk d D=> ?_) (by simp) v,h.res.ext u (λk d D=> ?_) v,h.flds.ext2 u (λk d D=> ?_) (by simp) v,by rw[v S hS];exact h.tS,λk d=> ?_,λk d=> ?_,h.lv⟩
 ·have:=A S d hS
  rw[h.tS] at this;simp at this
 ·have:=A k ud (h.sites.lt k d).2
  rw[h.ts k d] at this;simp at this
 ·rw[A k d D]
  refine⟨by simp,λf J=>⟨λe=> ?_,by simp⟩⟩;simp only[cU] at e;exact G.1 f J (by omega)
 ·rw[A k d D]
  refine⟨λe=> ?_,by simp⟩;simp only[cU] at e;exact G.2.1 (by omega)
 ·rw[A k d D]
  refine⟨by simp,λf J=>⟨λe=> ?_,by simp⟩⟩;simp only[cU] at e;exact G.2.2 f J (by omega)
 ·rw[v k (h.sites.lt k d).2]
  exact h.ts k d
 ·rcases j8 k w.heap.size with q|q
  ·rw[v k q] at d
   obtain⟨h1,h2⟩:=h.low k d;exact⟨h1,bl h2 u.size⟩
  ·exact uc k q d
theorem kF.push12 {j nb:bx}{f:bm bx}(A:kF aC 50 w j tv f n (x j) tag)(hb:bh w.heap.size w w2)(uv:w.heap.size<=nb)(uc:nb<w2.heap.size)(ue:aL w2 nb n (x j f.length))
  (ud:w5.ownsRow 0 50 1 v5 (f.length+1) (f.map (λb=>aC.enc b n)++[aC.enc nb n]))(hg:Ext (λk=>tv.ownBlock=tB k) w2 w5)(ur:∀k,v5.ownBlock=tB k->tv.ownBlock=tB k\/w2.heap.size<=k):
  ∃tag',(∀k,k<w.heap.size->tag' k=tag k)/\(∀k,w.heap.size<=k->tag' k≠(0,0,0)->tag k≠(0,0,0)\/k<w5.heap.size)/\kF aC 50 w5 j v5 (f++[nb]) n (x j) tag'/\Ext (λk=>tv.ownBlock=tB k) w w5/\∀k,tv.ownBlock=tB k->tag k=(3,j,0):=by
 have D:Ext (λk=>tv.ownBlock=tB k) w2 w5:=hg;have hx:Ext (λk=>tv.ownBlock=tB k) w w5:=(Ext.of_below_size (M:=λk=>tv.ownBlock=tB k) hb).trans D (λk d=> .inl d);have ux:=hb.size;have va:=D.size;have h:∀k,tv.ownBlock=tB k->tag k=(3,j,0)/\k<w.heap.size:=λk d=>⟨A.tr k d,(A.own.lt k d).2⟩
 have G:∀k,k<w.heap.size->gU (gU tag nb (nb+1) (4,j,f.length)) w2.heap.size w5.heap.size (3,j,0) k=tag k:=λk d=>by
  rw[gV (by omega),gV (by omega)]
 refine⟨_,G,λk d J=> ?_,⟨?_,λu b v=> ?_,λk d=> ?_⟩,hx,λk d=>(h k d).1⟩
 ·by_cases e:k<w5.heap.size
  ·exact .inr e
  ·unfold gU at J
   rw[cE (by omega),cE (by omega)] at J;exact .inl J
 ·rw[cw,fL];exact ud
 ·rcases j8 u f.length with q|q
  ·rw[gR q] at v
   obtain⟨h1,h2⟩:=A.leaf u b v;refine⟨Cb h1 hx h2 λk d _ e=> ?_,by rw[G b (aC.lt h1)];exact h2⟩;rw[(h k d).1] at e;simp at e
  ·have hu:u=f.length:=by
    have:=(ap.1 v).1;rw[cw] at this;simp at this;omega
   subst hu;rw[et (ce _),m6] at v;obtain rfl:nb=b:=by simpa using v
   refine⟨aC.keep (w:=w2) ue (D.block nb uc λd=>by have:=(h nb d).2;omega), ?_⟩;rw[gV uc,nY (ce _) (by omega)]
 ·rcases ur k d with e|e
  ·rw[G k (h k e).2];exact(h k e).1
  ·exact nY (by omega) (ud.lt k d).2
theorem eQ.leafs {j nb:bx}{d:bm bx}(h:eQ w m n S B sv vv rv gv vt gt rl x tag)(A:CG vt gt j)(D:kF aC 50 w j tv d n (x j) tag)(G:bh w.heap.size w w2)(J:w.heap.size<=nb)(uc:nb<w2.heap.size)(ud:aL w2 nb n (x j d.length))
  (ue:w5.ownsRow 0 50 1 v5 (d.length+1) (d.map (λb=>aC.enc b n)++[aC.enc nb n]))(hg:Ext (λk=>tv.ownBlock=tB k) w2 w5)(ur:∀k,v5.ownBlock=tB k->tv.ownBlock=tB k\/w2.heap.size<=k):
  ∃tag',eQ w5 m n S B sv vv rv gv vt gt rl x tag'/\kF aC 50 w5 j v5 (d++[nb]) n (x j) tag'/\Ext (λk=>tv.ownBlock=tB k) w w5/\(∀k,k<w.heap.size->tag' k=tag k)/\∀k,tv.ownBlock=tB k->B<=k:=by
 obtain⟨tag',q,h2,h3,u,v⟩:=D.push12 G J uc ud ue hg ur;refine⟨tag',h.ext2 u (λk f _=>v k f) A q (λk f uv=> ?_),h3,u,q,λk f=>(h.low k (by rw[v k f];simp)).1⟩;have hS:=(h.low S (by rw[h.tS];simp))
 rcases h2 k f uv with e|e
 ·have:=(h.low k e).2;omega
 ·exact⟨by omega,e⟩
theorem fV.push {A:bm bx}{i:bx}(h:fV w n o c vv vt x tag)(ht:kF aC 50 w (o+vt.length) tv A n (x (o+vt.length)) tag)(hc:c=(1,0,0)\/c=(2,0,0))(hS:tag S=(5,0,0))(vd:S<w.heap.size)
  (ue:w5.ownsRow 0 97 1 v5 (vt.length+1) (vt.map lE++[tv]))(hg:Ext (λk=>vv.ownBlock=tB k) w w5)(va:∀k,v5.ownBlock=tB k->vv.ownBlock=tB k\/w.heap.size<=k):
  fV (w5.setCell ⟨S,i,tD⟩ v5) n o c v5 (vt++[(tv,A)]) x (gU tag w.heap.size w5.heap.size c)/\Ext (λk=>vv.ownBlock=tB k\/k=S) w (w5.setCell ⟨S,i,tD⟩ v5):=by
 have ur:Ext (λk=>vv.ownBlock=tB k) w w5:=hg;have uv:Ext (·=S) w5 (w5.setCell ⟨S,i,tD⟩ v5):=Ext.set1 _ _ _ _;have J:Ext (λk=>vv.ownBlock=tB k\/k=S) w (w5.setCell ⟨S,i,tD⟩ v5):=(ur.mono (M':=λk=>vv.ownBlock=tB k\/k=S) (λ_ h=> .inl h)).trans uv (λk d=> .inl (.inr d));have vf:=ur.size;have D:∀k,vv.ownBlock=tB k->tag k=c/\k<w.heap.size:=λk d=>⟨h.tr k d,(h.own.lt k d).2⟩
 have uc:∀k,k<w.heap.size->gU tag w.heap.size w5.heap.size c k=tag k:=λk d=>gV d;have G:∀k,(vv.ownBlock=tB k\/k=S)->∀f u,tag k≠(3,f,0)/\tag k≠(4,f,u):=by
  rintro k (d|d) f u
  ·rw[(D k d).1]
   rcases hc with e|e<;>rw[e]<;>exact⟨by simp,by simp⟩
  ·rw[d,hS];exact⟨by simp,by simp⟩
 have ud:∀k,v5.ownBlock=tB k->(vv.ownBlock=tB k\/w.heap.size<=k)/\k<w5.heap.size:=λk d=>⟨by
  rcases va k d with e|e
  ·exact .inl e
  ·right;exact e,(ue.lt k d).2⟩
 refine⟨⟨?_,λf r v=> ?_,λk d=> ?_⟩,J⟩
 ·rw[cw,fL]
  refine qO ue uv λk d e=> ?_;rw[e] at d;rcases(ud S d).1 with q|q
  ·have:=(D S q).1
   rw[hS] at this;rcases hc with e|e<;>rw[e] at this<;>simp at this
  ·omega
 ·rcases j8 f vt.length with q|q
  ·rw[gR q] at v
   exact(h.row f r v).ext J (λk d _=>⟨(G k d _ 0).1,λu=>(G k d _ u).2⟩) uc
  ·have ux:f<(vt++[(tv,A)]).length:=(ap.1 v).1
   rw[cw] at ux;have vc:f=vt.length:=by simp at ux;omega
   subst vc;rw[et (ce _),m6] at v;obtain rfl:(tv,A)=r:=by simpa using v
   exact ht.ext J (λk d _=>⟨(G k d _ 0).1,λu=>(G k d _ u).2⟩) uc
 ·rcases(ud k d).1 with e|e
  ·rw[uc k (D k e).2];exact(D k e).1
  ·exact nY e (ud k d).2
theorem eQ.pushV {J:bm bx}(h:eQ w m n S B sv vv rv gv vt gt rl x tag)(hl:vt.length<1000)(ht:kF aC 50 w vt.length tv J n (x vt.length) tag)
  (ud:w5.ownsRow 0 97 1 v5 (vt.length+1) (vt.map lE++[tv]))(hg:Ext (λk=>vv.ownBlock=tB k) w w5)(ue:∀k,v5.ownBlock=tB k->vv.ownBlock=tB k\/w.heap.size<=k):
  ∃tag',eQ (w5.setCell ⟨S,1,tD⟩ v5) m n S B sv v5 rv gv (vt++[(tv,J)]) gt rl x tag'/\Ext (λk=>vv.ownBlock=tB k\/k=S) w (w5.setCell ⟨S,1,tD⟩ v5)/\(∀k,k<w.heap.size->tag' k=tag k)/\∀k,(vv.ownBlock=tB k\/k=S)->B<=k:=by
 have hS:=(bj.1 h.rec_).1;obtain⟨G,D⟩:=h.vars.push (S:=S) (i:=1) (by rw[cV];exact ht) (.inl rfl) h.tS hS ud hg ue;have uc:Ext (λk=>vv.ownBlock=tB k) w w5:=hg;have uv:=uc.size;have ux:=World.size_setCell w5 ⟨S,1,tD⟩ v5;have A:∀k,k<w.heap.size->gU tag w.heap.size w5.heap.size (1,0,0) k=tag k:=λk d=>gV d;have hM:∀k,(vv.ownBlock=tB k\/k=S)->tag k=(1,0,0)\/tag k=(5,0,0):=by
  rintro k (d|d)
  ·exact .inl (h.vars.tr k d)
  ·exact .inr (by rw[d];exact h.tS)
 have v:∀k,(vv.ownBlock=tB k\/k=S)->∀f u,tag k≠(2,0,0)/\tag k≠(6,0,0)/\tag k≠(0,0,0)/\tag k≠(3,f,0)/\tag k≠(4,f,u):=by
  intro k d f u;rcases hM k d with e|e<;>rw[e]<;>exact⟨by simp,by simp,by simp,by simp,by simp⟩
 refine⟨_,⟨?_,af h.sites D λk d ur=>(v k ur 0 0).2.1 (h.ts k d),G,h.res.ext D (λk d _=>⟨(v k d _ 0).2.2.2.1,λu=>(v k d _ u).2.2.2.2⟩) A,h.flds.ext2 D (λk d _=>⟨(v k d 0 0).1,λf _=>⟨(v k d _ 0).2.2.2.1,λu=>(v k d _ u).2.2.2.2⟩⟩) (by simp) A,by rw[A S hS];exact h.tS,λk d=>by rw[A k (h.sites.lt k d).2];exact h.ts k d,λk d=> ?_,by rw[cw];exact hl⟩,D,A,λk d=>(h.low k (v k d 0 0).2.2.1).1⟩
 ·have e5:=uc.heap h.rec_ (λd=>by have:=h.vars.tr S d;rw[h.tS] at this;simp at this)
  exact eL w5 S 1 _ _ v5 e5
 ·rcases j8 k w.heap.size with q|q
  ·rw[A k q] at d
   obtain⟨G,h2⟩:=h.low k d;exact⟨G,by omega⟩
  ·by_cases e:k<w5.heap.size
   ·exact⟨by have:=(h.low S (by rw[h.tS];simp));omega,by omega⟩
   ·unfold gU at d
    rw[cE (by omega)] at d;have:=(h.low k d).2;omega
theorem eQ.pushG {J:bm bx}(h:eQ w m n S B sv vv rv gv vt gt rl x tag)(ht:kF aC 50 w (2000000+gt.length) tv J n (x (2000000+gt.length)) tag)
  (ud:w5.ownsRow 0 97 1 v5 (gt.length+1) (gt.map lE++[tv]))(hg:Ext (λk=>gv.ownBlock=tB k) w w5)(ue:∀k,v5.ownBlock=tB k->gv.ownBlock=tB k\/w.heap.size<=k):
  ∃tag',eQ (w5.setCell ⟨S,3,tD⟩ v5) m n S B sv vv rv v5 vt (gt++[(tv,J)]) rl x tag'/\Ext (λk=>gv.ownBlock=tB k\/k=S) w (w5.setCell ⟨S,3,tD⟩ v5)/\(∀k,k<w.heap.size->tag' k=tag k)/\∀k,(gv.ownBlock=tB k\/k=S)->B<=k:=by
 have hS:=(bj.1 h.rec_).1;obtain⟨G,D⟩:=h.flds.push (S:=S) (i:=3) ht (.inr rfl) h.tS hS ud hg ue;have uc:Ext (λk=>gv.ownBlock=tB k) w w5:=hg;have uv:=uc.size;have ux:=World.size_setCell w5 ⟨S,3,tD⟩ v5;have A:∀k,k<w.heap.size->gU tag w.heap.size w5.heap.size (2,0,0) k=tag k:=λk d=>gV d;have hM:∀k,(gv.ownBlock=tB k\/k=S)->tag k=(2,0,0)\/tag k=(5,0,0):=by
  rintro k (d|d)
  ·exact .inl (h.flds.tr k d)
  ·exact .inr (by rw[d];exact h.tS)
 have v:∀k,(gv.ownBlock=tB k\/k=S)->∀f u,tag k≠(1,0,0)/\tag k≠(6,0,0)/\tag k≠(0,0,0)/\tag k≠(3,f,0)/\tag k≠(4,f,u):=by
  intro k d f u;rcases hM k d with e|e<;>rw[e]<;>exact⟨by simp,by simp,by simp,by simp,by simp⟩
 refine⟨_,⟨?_,af h.sites D λk d ur=>(v k ur 0 0).2.1 (h.ts k d),h.vars.ext2 D (λk d _=>⟨(v k d 0 0).1,λf _=>⟨(v k d _ 0).2.2.2.1,λu=>(v k d _ u).2.2.2.2⟩⟩) (by simp) A,h.res.ext D (λk d _=>⟨(v k d _ 0).2.2.2.1,λu=>(v k d _ u).2.2.2.2⟩) A,G,by rw[A S hS];exact h.tS,λk d=>by rw[A k (h.sites.lt k d).2];exact h.ts k d,λk d=> ?_,h.lv⟩,D,A,λk d=>(h.low k (v k d 0 0).2.2.1).1⟩
 ·have e5:=uc.heap h.rec_ (λd=>by have:=h.flds.tr S d;rw[h.tS] at this;simp at this)
  exact eL w5 S 3 _ _ v5 e5
 ·rcases j8 k w.heap.size with q|q
  ·rw[A k q] at d
   obtain⟨G,h2⟩:=h.low k d;exact⟨G,by omega⟩
  ·by_cases e:k<w5.heap.size
   ·exact⟨by have:=(h.low S (by rw[h.tS];simp));omega,by omega⟩
   ·unfold gU at d
    rw[cE (by omega)] at d;have:=(h.low k d).2;omega
theorem eQ.pushR {nb:bx}(h:eQ w m n S B sv vv rv gv vt gt rl x tag)(hb:bh w.heap.size w w2)(ud:w.heap.size<=nb)(ue:nb<w2.heap.size)(ur:aL w2 nb n (x 1000000 rl.length))
  (uv:w5.ownsRow 0 50 1 v5 (rl.length+1) (rl.map (λb=>aC.enc b n)++[aC.enc nb n]))(hg:Ext (λk=>rv.ownBlock=tB k) w2 w5)(ux:∀k,v5.ownBlock=tB k->rv.ownBlock=tB k\/w2.heap.size<=k):
  ∃tag',eQ (w5.setCell ⟨S,2,tD⟩ v5) m n S B sv vv v5 gv vt gt (rl++[nb]) x tag'/\Ext (λk=>rv.ownBlock=tB k\/k=S) w (w5.setCell ⟨S,2,tD⟩ v5)/\(∀k,k<w.heap.size->tag' k=tag k)/\∀k,(rv.ownBlock=tB k\/k=S)->B<=k:=by
 have J:=(bj.1 h.rec_).1;obtain⟨tag',A,h2,h3,G,h5⟩:=h.res.push12 hb ud ue ur uv hg ux;have uc:Ext (·=S) w5 (w5.setCell ⟨S,2,tD⟩ v5):=Ext.set1 _ _ _ _;have D:Ext (λk=>rv.ownBlock=tB k\/k=S) w (w5.setCell ⟨S,2,tD⟩ v5):=(G.mono (M':=λk=>rv.ownBlock=tB k\/k=S) (λ_ h=> .inl h)).trans uc (λk d=> .inl (.inr d));have vc:=G.size;have vd:=World.size_setCell w5 ⟨S,2,tD⟩ v5;have hM:∀k,(rv.ownBlock=tB k\/k=S)->tag k=(3,1000000,0)\/tag k=(5,0,0):=by
  rintro k (d|d)
  ·exact .inl (h5 k d)
  ·exact .inr (by rw[d];exact h.tS)
 have v:∀k,(rv.ownBlock=tB k\/k=S)->∀f u,tag k≠(1,0,0)/\tag k≠(2,0,0)/\tag k≠(6,0,0)/\tag k≠(0,0,0)/\(f≠1000000->tag k≠(3,f,0))/\tag k≠(4,f,u):=by
  intro k d f u;rcases hM k d with e|e<;>rw[e]
  ·exact⟨by simp,by simp,by simp,by simp,λq e=>by simp only[cU] at e;omega,by simp⟩
  ·exact⟨by simp,by simp,by simp,by simp,λ_=>by simp,by simp⟩
 have vf:=h.lv;refine⟨tag',⟨?_,af h.sites D λk d va=>(v k va 0 0).2.2.1 (h.ts k d),h.vars.ext2 D (λk d _=>⟨(v k d 0 0).1,λf hf=>⟨(v k d _ 0).2.2.2.2.1 (by omega),λu=>(v k d _ u).2.2.2.2.2⟩⟩) (by simp) A,h3.ext uc (λk d _=> ?_) (λ_ _=>rfl),h.flds.ext2 D (λk d _=>⟨(v k d 0 0).2.1,λf hf=>⟨(v k d _ 0).2.2.2.2.1 (by omega),λu=>(v k d _ u).2.2.2.2.2⟩⟩) (by simp) A,by rw[A S J];exact h.tS,λk d=>by rw[A k (h.sites.lt k d).2];exact h.ts k d,λk d=> ?_,h.lv⟩,D,A,λk d=>(h.low k (v k d 0 0).2.2.2.1).1⟩
 ·have e5:=G.heap h.rec_ (λd=>by have:=h5 S d;rw[h.tS] at this;simp at this)
  exact eL w5 S 2 _ _ v5 e5
 ·rw[d,A S J,h.tS]
  exact⟨by simp,λu=>by simp⟩
 ·rcases j8 k w.heap.size with q|q
  ·rw[A k q] at d
   obtain⟨h1,h2⟩:=h.low k d;exact⟨h1,by omega⟩
  ·have vh:=h.low S (by rw[h.tS];simp)
   rcases h2 k q d with e|e
   ·have:=(h.low k e).2;omega
   ·exact⟨by omega,by omega⟩
theorem eQ.start12 {sv:cd}(q:w.heap[S]?=tB (ua #[sv,tP tD 0 0,tP tD 0 0,tP tD 0 0] 99 (0,0)))(v:w.ownsRow B 67 2 sv (aj m.xi).length ((aj m.xi).flatMap pR))(D:¬sv.ownBlock=tB S)(G:B<=S):
  eQ w m n S B sv (tP tD 0 0) (tP tD 0 0) (tP tD 0 0) [] [] [] x (λk=>if k=S then(5,0,0) else if sv.ownBlock=tB k then(6,0,0) else(0,0,0)):=by
 refine⟨q,v,⟨World.ownsRow_nil _ _ _ _,λf r h=>by simp at h,λk h=>by simp[eJ] at h⟩,⟨World.ownsRow_nil _ _ _ _,λu b h=>by simp at h,λk h=>by simp[eJ] at h⟩,⟨World.ownsRow_nil _ _ _ _,λf r h=>by simp at h,λk h=>by simp[eJ] at h⟩,cR rfl,λk d=> ?_,λk d=> ?_,by simp⟩
 ·rw[cE (λe=>D (by rw[<-e];exact d)),cR d]
 ·by_cases e:k=S
  ·rw[e];exact⟨G,(bj.1 q).1⟩
  ·rw[cE e] at d
   by_cases A:sv.ownBlock=tB k
   ·exact v.lt k A
   ·rw[cE A] at d;exact fW rfl d
end
theorem lc:(ac.info? 50).map (λi=>(i.zero,i.size,i.bytes))=tB (tB (tP tD 0 0),1,24):=by kernel_rfl
theorem nM:(ac.info? 97).map (λi=>(i.zero,i.size,i.bytes))=tB (tB (tP tD 0 0),1,24):=by kernel_rfl
theorem mK:(ac.info? 4).map (λi=>(i.zero,i.size,i.bytes))=tB (tB (tU tG),1,1):=by kernel_rfl
theorem jU (n:bx):(nF n (tU tG)).toArray=boolRow n (λ_=>tG):=by
 apply Array.ext_getElem?;intro j
 by_cases d:j<n
 ·rw[jK _ d];simp[d]
 ·rw[nt (by simp;omega),nt (by unfold boolRow;simp;omega)]
theorem Im {w d:World}{a b c:da cd}{f q u:gx}(h:((w.alloc (ua a f)).alloc (ua b q)).alloc (ua c u)=d):
  bh w.heap.size w d/\d.heap.size=w.heap.size+3/\d.heap[w.heap.size]?=tB (ua a f (0,0))/\d.heap[w.heap.size+1]?=tB (ua b q (0,0))/\d.heap[w.heap.size+2]?=tB (ua c u (0,0)):=by
 subst h;refine⟨(((aq _ _).alloc (ce _) _).alloc (by simp) _).alloc (by simp;omega) _,by simp, ?_, ?_, ?_⟩
 ·rw[cn _ _ _ (by simp;omega),cn _ _ _ (by simp)];exact alloc_at _ _
 ·rw[cn _ _ _ (by simp)]
  have:=alloc_at (w.alloc (ua a f)) (ua b q)
  rwa [World.size_alloc] at this
 ·have:=alloc_at ((w.alloc (ua a f)).alloc (ua b q)) (ua c u)
  rwa [World.size_alloc,World.size_alloc] at this
abbrev eT:cd:= tP tD 0 0
structure gX (m:Mo)(w:World)(N:bx)(wr:World):Prop where
 below:bh N w wr
 mod:wr.heap[N]?=tB (ua m.cells 25 (0,0))
 res:wr.heap[N+1]?=tB (ua #[eT,eT,eT,eT] 99 (0,0))
theorem gX.ext {m:Mo}{w wr w':World}{N:bx}{M:bx->Prop}(h:gX m w N wr)(u:w.heap.size=N)(f:Ext M wr w')(q:∀k,M k->N+2<=k):gX m w N w':=
 ⟨h.below.trans (f.below (by have:=h.below.size;omega) (λk d=>by have:=q k d;omega)),f.heap h.mod (λd=>by have:=q _ d;omega),f.heap h.res (λd=>by have:=q _ d;omega)⟩
def AL (m:Mo)(w:World)(N:bx)(l:bm XI)(wr:World):Prop:=
 ∃sv,wr.heap[N+2]?=tB (ua #[sv,eT,eT,eT] 99 (0,0))/\wr.ownsRow (N+2) 67 2 sv (aj l).length ((aj l).flatMap pR)/\¬sv.ownBlock=tB (N+2)/\gX m w N wr
theorem AL.start {m:Mo}{w d:World}{N:bx}(h:d.heap[N+2]?=tB (ua #[eT,eT,eT,eT] 99 (0,0)))(f:gX m w N d):AL m w N [] d:=
 ⟨eT,h,World.ownsRow_nil _ _ _ _,by simp[eJ],f⟩
theorem AL.more {m:Mo}{w wr w9:World}{N:bx}{l:bm XI}{x:XI}{sv d:cd}(J:x.2.2.op=12)(h:w.heap.size=N)(u:wr.heap[N+2]?=tB (ua #[sv,eT,eT,eT] 99 (0,0)))(h2:wr.ownsRow (N+2) 67 2 sv (aj l).length ((aj l).flatMap pR))(v:¬sv.ownBlock=tB (N+2))(h4:gX m w N wr)
  (o9:w9.ownsRow (N+2) 67 2 d ((aj l).length+1) ((aj l).flatMap pR++[Z U x.1,Z U x.2.1]))(A:Ext (λk=>sv.ownBlock=tB k) wr w9)(a9:∀k,d.ownBlock=tB k->sv.ownBlock=tB k\/wr.heap.size<=k):
  AL m w N (l++[x]) (w9.setCell ⟨N+2,0,tD⟩ d):=by
 have hs:=(bj.1 u).1;have e:aj (l++[x])=aj l++[(x.1,x.2.1)]:=by
  unfold aj iK;simp[J]
 have D:¬d.ownBlock=tB (N+2):=λe=>by
  rcases a9 _ e with q|q
  ·exact v q
  ·omega
 have G:Ext (·=N+2) w9 (w9.setCell ⟨N+2,0,tD⟩ d):=Ext.set1 _ _ _ _;refine⟨d,eL w9 (N+2) 0 _ _ d (A.heap u v), ?_,D,(h4.ext h A λk f=>(h2.lt k f).1).ext h G λk f=>by rw[f];exact ce _⟩;rw[e,cw,eK];refine af ?_ G λk f e=>D (by rw[<-e];exact f);simpa[pR] using o9
theorem AL.none {m:Mo}{w wr:World}{N:bx}{l:bm XI}{x:XI}(h:AL m w N l wr)(d:¬x.2.2.op=12):AL m w N (l++[x]) wr:=by
 have e:aj (l++[x])=aj l:=by
  unfold aj iK;simp[d]
 unfold AL;rw[e];exact h
theorem DR {P:km}{w:World}{o:ke}{a:Act}{K:Act->World->Prop}{Q:Exit->Act->World->Prop}(l c:Operand)(t:gx)(f:o.op=Op.makeSlice t l c)
  (e:gx)(i:TypeInfo)(z:cd)(q:P.underlying t=tB (.slice e))(u:P.info? e=tB i)(v:i.zero=tB z)(A:i.size=1)(D:z.cells=#[z])
  (n:bx)(G:a.eval l= Z U (n:bp))(J:a.eval c= Z U (n:bp))(b2:i.bytes*n<=281474976710656)(b3:n<=dT)
  (hK:K (a.put o.dst (tP (tB ⟨w.heap.size,0,tD⟩) n n)) (w.alloc (ua (nF n z).toArray e))):o.wp P a w K Q:=by
 have uc:(n:bp)<=9223372036854775807:=by
  have h:=b3;simp[dT] at h;omega
 have ud:(i.bytes:bp)*(n:bp)<=281474976710656:=by
  have h:((i.bytes*n:bx):bp)<=281474976710656:=by omega
  rwa [Int.natCast_mul] at h
 have d:=run_make (P:=P) w t e i z q u v .i64 .i64 n n (by omega) (Int.le_refl _) ud uc;simp only[cP,A,D,Nat.mul_one] at d;have hm:madeCells #[z] n=(nF n z).toArray:=by
  rw[<-toList_madeCells_one]
 rw[hm] at d;unfold lR;simp[execOp,f,G,J,d,fX];simpa[Oper.upon] using hK
theorem Fa {P:km}{W:World}{o:ke}{a:Act}{K:Act->World->Prop}{Q:Exit->Act->World->Prop}(s x:Operand)(t:gx)
  (d:o.op= .call {callee:= .builtin .append,args:=#[s,x],argTypes:=#[t,t]})(e:gx)(i:TypeInfo)(z:cd)(py:bx)(f:P.underlying t=tB (.slice e))(A:P.info? e=tB i)(D:i.zero=tB z)
  (G:i.size=1)(J:i.bytes=py)(uc:z.cells.size=1)
  (v:cd)(n:bx)(xs:bm cd)(hs:a.eval s=v)(ud:W.ownsRow 0 e 1 v n xs)
  (B:bx)(u:cd)(hB:B=W.heap.size)(hx:a.eval x= tP (tB ⟨B,0,tD⟩) 1 1)(h1:u.oneCell'=tE)
  (ue:n+1<=dT)(ur:(n+1)*py<=140737488355328)
  (h:∀g cap w',w'.ownsRow 0 e 1 (tP (tB ⟨g,0,tD⟩) (n+1) cap) (n+1) (xs++[u])->Ext (λk=>v.ownBlock=tB k) W w'->(∀k,(co (tB ⟨g,0,tD⟩) (n+1) cap).ownBlock=tB k->v.ownBlock=tB k\/W.heap.size<=k)->K (a.put o.dst (tP (tB ⟨g,0,tD⟩) (n+1) cap)) w'):
  o.wp P a (W.alloc (ua #[u] e)) K Q:=by
 subst hB;refine wp_append_lies _ s x t d 0 e i z 1 py f A D G J uc (by decide) v n xs hs (ud.alloc _) ⟨W.heap.size,0,tD⟩ 1 1 [u] hx rfl (vW _ _ _) (by simpa using h1) (by decide) ue ur (cN _) _ rfl λg cap w' h2 h3 h4 _=> ?_;refine h g cap w' h2 (DJ ((Ext.refl _ _).alloc _) h3) λk hk=> ?_;have uv:g=k:=by simpa[eJ] using hk
 rw[<-uv];rcases h4 with q|q
 ·exact .inl q
 ·right
  rw[q,World.size_alloc];omega
abbrev AA:X3:=λ_ _ _=>tG
def IM (m:Mo)(w:World)(N n:bx)(j:bx)(wr:World):Prop:=
 ∃(sv vv rv:cd) (vt:bm (cd×bm bx)) (rl:bm bx) (tag:Tag),eQ wr m n (N+2) (N+2) sv vv rv eT vt [] rl AA tag/\vt.length=j/\rl.length=j/\
  (∀(f:bx)(r:cd×bm bx)(g:Fn),vt[f]?=tB r->m.fs[f]?=tB g->r.2.length=g.vs.length)/\gX m w N wr
theorem yI {m:Mo}(G:bf m=0){y:bx}{p:bp×bp}(h:(aj m.xi)[y]?=tB p):∃(j k q:bx) (g:Fn) (i:Ins) (s:St),p=((j:bp),(k:bp))/\m.fs[j]?=tB g/\g.c.ins[k]?=tB i/\i.f=(q:bp)/\m.ss[q]?=tB s/\m.siteS y=tB s:=by
 obtain⟨x,J,d⟩:=em.1 (cf h);obtain⟨j,k,g,i,u,v,rfl⟩:=kZ J;unfold iK at d
 by_cases A:i.op=12
 ·simp only[cR A,cH] at d
  subst d;obtain⟨s,D,_,h0⟩:=CB (dw G u v) A;refine⟨j,k,i.f.toNat,g,i,s,rfl,u,v,(gS h0).symm,D, ?_⟩;unfold Mo.siteS;rw[Av u v h,oT];exact D
 ·simp[A] at d
noncomputable def Gh (n:bx):bm (bx×bx×bx):=(ej 2100000).flatMap λr=>(ej 100000).flatMap λu=>(ej n).map λy=>(r,u,y)
theorem um {n r u y:bx}(d:r<2100000)(f:u<100000)(h:y<n):(r,u,y)∈Gh n:=
 em.2 ⟨r,jn.2 d,em.2 ⟨u,jn.2 f,dy.2 ⟨y,jn.2 h,rfl⟩⟩⟩
theorem Io {m:Mo}{w:World}{n:bx}{vt gt:bm (cd×bm bx)}{rl:bm bx}(h:mF w m)(hr:bf m=0)(D:lC m n vt gt rl)(hn:n<=400){r u y:bx}(hc:vP m vt gt rl r u)(G:y<n):(r,u,y)∈Gh n:=by
 obtain⟨nd,b,hl,rfl,rfl⟩:=hc;have uc:=h.nf;cases hl with
 |@var f v b q d J=>
  have A:=(ap.1 d).1;have a2:=(ap.1 J).1;rw[D.nv] at A;have hg:m.fs[f]?=tB m.fs[f]:=am A;have a3:=D.v f q _ d hg;have a4:=h.ri.vl _ (cf hg);rw[ig (by omega) (by omega)];simp only[cP];exact um (by omega) (by omega) G
 |@res f b d=>
  have A:=(ap.1 d).1;rw[D.nr] at A;rw[ik (by omega)];simp only[cP];exact um (by omega) (by omega) G
 |@fld s k b q d J=>
  have A:=(ap.1 d).1;have a2:=(ap.1 J).1;rw[D.ng] at A;obtain⟨p,hp⟩:∃p,(aj m.xi)[s]?=tB p:=⟨_,am (by rw[D.ns];exact A)⟩
  obtain⟨_,_,_,_,_,st,_,_,_,_,c1,c2⟩:=yI hr hp;have a3:=D.g s q st d c2;have a4:=h.ri.fd st (cf c1);rw[il];simp only[cP];exact um (by omega) (by omega) G
def Gz (m:Mo)(w:World)(e:Ending)(w':World):Prop:=
 ∃(n S B:bx) (sv vv rv gv:cd) (vt gt:bm (cd×bm bx)) (rl:bm bx) (x:X3) (tag:Tag),e= ub (tW #[sv,vv,rv,gv])/\w.heap.size<=B/\eQ w' m n S B sv vv rv gv vt gt rl x tag/\lC m n vt gt rl/\
  (∀d t y,pF m d t->y<n->(x.at_ d y=tE↔m.lf d y))/\bh w.heap.size w w'
theorem AB (m:Mo)(w:World)(h:mF w m)(hr:bf m=0):gd ac 37 #[tW m.cells] w (Gz m w):=by
 obtain⟨N,hN⟩:=zE w.heap.size;obtain⟨W1,uv⟩:=zE (((w.alloc (ua m.cells 25)).alloc (ua #[eT,eT,eT,eT] 99)).alloc (ua #[eT,eT,eT,eT] 99));obtain⟨vp,By,r0,r1,r2⟩:=Im uv;rw[hN] at vp By r0 r1 r2;have A:gX m w N W1:=⟨vp,r0,r1⟩
 have Do:=zH (AL.start r2 A);have zj:=h.ri.mo;have Ds:m.fs≠[]:=by
  intro e;have:=(dJ hr).2.2.2.2.2;unfold Mo.fnIx fT at this;rw[e] at this;simp at this
 obtain⟨fb,fo,zp,zr,DA⟩:=zj.frow Ds;rw[hN] at zr;have vx:cm (∀W,gX m w N W->W.cell? ⟨N,0,tD⟩=tB (tP m.sA m.ss.length m.sC)/\W.cell? ⟨N,1,tD⟩=tB (tP (tB ⟨fb,fo,tD⟩) m.fs.length m.fC)/\N<W.heap.size/\fb<W.heap.size):=λW J=>by
  rw[<-zp];exact⟨zR J.mod 0 _,zR J.mod 1 _,ae J.mod,sq zr (ae J.mod)⟩
 have BE:cm (∀W,gX m w N W->∀(j:bx)(g:Fn),m.fs[j]?=tB g->∀(q:bx)(u:cd),g.c.cells.toList[q]?=tB u->W.cell? ⟨fb,fo+j*8+q,tD⟩=tB u):=λW J j g hj q u hu=>by
  rw[J.below.cell (p:=⟨fb,_,tD⟩) zr];exact DA j g hj q u hu
 have DB:cm (∀(j:bx)(g:Fn),m.fs[j]?=tB g->∃ib io,g.c.insA=tB ⟨ib,io,tD⟩/\(∀W,gX m w N W->ib<W.heap.size/\∀(k:bx)(i:Ins),g.c.ins[k]?=tB i->∀(q:bx)(u:cd),i.cells.toList[q]?=tB u->W.cell? ⟨ib,io+k*13+q,tD⟩=tB u)):=λj g hj=>by
  have xF:=cf hj;have zv:=zj.fin g xF;have GT:g.c.ins≠[]:=by
   have GW:=jm ((dJ hr).2.2.2.2.1 g xF);intro e;have:=GW.2.1;rw[e] at this;simp at this
  obtain⟨ib,io,xT,vd,vq⟩:=zv.code.row GT;rw[hN] at vd;refine⟨ib,io,xT,λW J=>⟨sq vd (ae J.mod),λk i hi q u hu=> ?_⟩⟩;rw[J.below.cell (p:=⟨ib,_,tD⟩) vd];exact vq k i hi q u hu
 have G0:cm (∀g∈m.fs,g.c.ins.length<=dT):=λg hg=>(zj.fin g hg).code.len;have HW:=zH h;have HR:=zH hr;have ur:=zH hN;have It:=h.nf;obtain⟨k0,k1,k2,k3⟩:=vx.out W1 A;have Iv:=zH zp;unfold Mo.cells at uv⊢;rw[zp] at uv⊢;have ya:=zH uv;clear h hr vp By r0 r1 r2 A zj Ds zp zr DA uv;go_enter func37,ntmps37
 go_upto_region 2 with(fail)
 rw[ya.out];(try rw[hN]);(try simp only[sB,Nat.reduceAdd]);clear ya hN
 go_wp2_with fail
 clear k0 k1 k2 k3
 go_loopw [4] (λc wr=>∃j:bx,j<=m.fs.length/\c= Z U (j:bp)/\AL m w N (eZ 0 (m.fs.take j)) wr) (λc _=>m.fs.length-(intOf c).toNat)
 case atStart=>exact⟨0,cN _,rfl,by rw[List.take_zero];exact Do.out⟩
 case round=>
  clear Do;obtain⟨j,hj,rfl,ha⟩:=hrel;have A:gX m w N wr:=by obtain⟨_,_,_,_,h4⟩:=ha;exact h4
  obtain⟨k0,k1,k2,k3⟩:=vx.out wr A
  by_cases vr:j<m.fs.length
  ·obtain⟨g,hg⟩:∃g,m.fs[j]?=tB g:=⟨_,am vr⟩
   have we:(j:bp)<(m.fs.length:bp):=by omega
   have yb:=G0.out g (cf hg);unfold dT at yb;obtain⟨ib,io,xT,vq⟩:=DB.out j g hg;have G1:=zH vq;have HF:=zH (λW J=>BE.out W J j g hg);have HA:=zH ha;have HG:=zH hg;clear ha hg vq A
   go_upto_region 6 with(fail)
   clear k0 k1 k2 k3
   go_loopw [5] (λc wr=>∃k:bx,k<=g.c.ins.length/\c= Z U (k:bp)/\AL m w N (m.upto j k g) wr) (λc _=>g.c.ins.length-(intOf c).toNat)
   case atStart=>exact⟨0,cN _,rfl,by rw[wQ];exact HA.out⟩
   case round=>
    obtain⟨k,hk,rfl,ha⟩:=hrel;obtain⟨sv,a1,a2,a3,a4⟩:=ha;obtain⟨k0,k1,k2,k3⟩:=vx.out wr a4;have x7:=HF.out wr a4 7 _ rfl;rw[xT] at x7
    by_cases BT:k<g.c.ins.length
    ·obtain⟨i,hi⟩:∃i,g.c.ins[k]?=tB i:=⟨_,am BT⟩
     have BY:(k:bp)<(g.c.ins.length:bp):=by omega
     obtain⟨q2,q3⟩:=G1.out wr a4;have x0:=q3 k i hi 0 _ rfl;rw[mx] at x0;obtain⟨op,yd⟩:=zE i.op;rw[yd] at x0
     by_cases DE:op=12
     ·subst DE
      have An:=ae a1;have t0:wr.cell? ⟨N+2,0,tD⟩=tB sv:=zR a1 0 _;obtain⟨j0,wg,wi,wj,wk⟩:=gA sZ;obtain⟨D,hD⟩:=zE wr.heap.size;have G2:N+2<=D:=by omega
      obtain⟨l,hl⟩:=zE (m.upto j k g);rw[hl] at a2;have B4:(aj l).length<=400:=by
       obtain⟨r,e⟩:=pu (k:=k) HG.out;have h1:=HW.out.ni;have h2:=dN (l:=l);rw[e,hl,cw] at h1;omega
      obtain⟨ls,As⟩:=zE (aj l).length;rw[As] at B4;have B5:=a2;rw[As] at B5;have vf:=zH B5;have A1:=zH a1;have A3:=zH a3;have G3:cm (∀v9 w9,w9.ownsRow (N+2) 67 2 v9 (ls+1) ((aj l).flatMap pR++[Z U (j:bp),Z U (k:bp)])->Ext (λk=>sv.ownBlock=tB k) wr w9->(∀k,v9.ownBlock=tB k->sv.ownBlock=tB k\/wr.heap.size<=k)->AL m w N (m.upto j (k+1) g) (w9.setCell ⟨N+2,0,tD⟩ v9)):=λv9 w9 o9 x9 b9=>by
       rw[kE hi,hl];exact AL.more (x:=((j:bp),(k:bp),i)) yd ur.out a1 a2 a3 a4 (by rw[As];exact o9) x9 b9
      clear a1 a2 a3 a4 q3 hi hl As B5 yd
      go_wp2_with (at_builtin;refine bW rfl (.tmp 44) (.tmp 48) 62 rfl (N+2) 67 j0 _ 2 16 pL wg wi wj wk rfl (by decide) sv ls ((aj l).flatMap pR) rfl vf.out D #[Z U (j:bp),Z U (k:bp)] hD.symm rfl rfl (by simp[cj]) (by unfold dT;omega) (by omega) (by omega) ?_;intro v9 w9 o9 x9 b9;obtain⟨ID,c9,G4⟩:=ai o9;subst G4;have DG:=x9.heap A1.out A3.out;obtain⟨t9,IF⟩:=rowAt DG 0 (u:=sv) rfl;have ue:=zH (G3.out _ w9 o9 x9 b9);clear DG o9 x9 b9)
      go_roundw
      case rel=>exact⟨k+1,BT,by go_num,ue.out⟩
      case measure=>simp[intOf];omega
     ·have ue:cm (AL m w N (m.upto j (k+1) g) wr):=by
       unfold cm;rw[kE hi];exact AL.none ⟨sv,a1,a2,a3,a4⟩ (by show¬i.op=12;rw[yd];exact DE)
      clear a1 a2 a3 a4 q3 hi yd
      go_wp2_with fail
      go_roundw
      case rel=>exact⟨k+1,BT,by go_num,ue.out⟩
      case measure=>simp[intOf];omega
    ·have At:k=g.c.ins.length:=by omega
     have BY:¬(k:bp)<(g.c.ins.length:bp):=by omega
     have ue:cm (AL m w N (eZ 0 (m.fs.take (j+1))) wr):=by
      unfold cm;rw[<-qi HG.out,<-At];exact⟨sv,a1,a2,a3,a4⟩
     clear a1 a2 a3 a4;go_wp2;go_roundw
     case rel=>exact⟨j+1,vr,by go_num,ue.out⟩
     case measure=>simp[intOf];omega
  ·have Ax:j=m.fs.length:=by omega
   have we:¬(j:bp)<(m.fs.length:bp):=by omega
   obtain⟨sv,a1,a2,a3,a4⟩:=ha;rw[Ax,de] at a2
   change wr.ownsRow (N+2) 67 2 sv (aj m.xi).length ((aj m.xi).flatMap pR) at a2
   have AD:eQ wr m (aj m.xi).length (N+2) (N+2) sv eT eT eT [] [] [] AA _:=eQ.start12 a1 a2 a3 (ce _);obtain⟨n,hn⟩:=zE (aj m.xi).length;have Hb:n<=400:=by
    have h1:=HW.out.ni;have h2:=dN (l:=m.xi);omega
   rw[hn] at AD;obtain⟨ao,ca,wl⟩:=ai a2;subst wl;rw[hn] at a1 a2 AD;have t0:wr.cell? ⟨N+2,0,tD⟩=tB (tP ao n ca):=zR a1 0 _;have An:=ae a1;have DH:cm (IM m w N n 0 wr):=⟨_,_,_,[],[],_,AD,rfl,rfl,λf r g h _=>by simp at h,a4⟩
   have AE:=zH hn;clear AD a1 a2 a3 a4 A hn
   go_wp2_with fail
   clear t0 An k0 k1 k2 k3
   go_loopw [7] (λc wr=>∃j:bx,j<=m.fs.length/\c= Z U (j:bp)/\IM m w N n j wr) (λc _=>m.fs.length-(intOf c).toNat)
   case atStart=>exact⟨0,cN _,rfl,DH.out⟩
   case round=>
    clear DH hj vr Ax we;rename World=>wo;obtain⟨j,hj,rfl,sv,vv,rv,vt,rl,tag,G,hv,B6,AF,A⟩:=hrel;obtain⟨k0,k1,k2,k3⟩:=vx.out wo A
    by_cases vr:j<m.fs.length
    ·obtain⟨g,hg⟩:∃g,m.fs[j]?=tB g:=⟨_,am vr⟩
     have we:(j:bp)<(m.fs.length:bp):=by omega
     have zv:=HW.out.ri.mo.fin g (cf hg);have DM:=zv.nvars;have IH:g.vs.length<=90000:=HW.out.ri.vl g (cf hg);have HF:cm (∀W,gX m w N W->W.cell? ⟨fb,fo+j*8+2,tD⟩=tB (tP g.c.varsA g.vs.length g.c.varsC)):=λW J=>by
      rw[<-DM];exact BE.out W J j g hg 2 _ rfl
     have HM:=zH G;have HV:=zH hv;have DO:=zH B6;have B8:=zH AF;have ye:=zH A;have HG:=zH hg;clear G hv B6 AF A hg zv DM
     go_upto_region 16 with(fail)
     clear k0 k1 k2 k3
     go_loopw [8,9] (λl c wr=>∃(u:bx) (d:bm bx) (tag:Tag),u<=g.vs.length/\c= Z U (u:bp)/\d.length=u/\eQ wr m n (N+2) (N+2) sv vv rv eT vt [] rl AA tag/\kF aC 50 wr j l d n (AA j) tag/\gX m w N wr) (λ_ c _=>g.vs.length-(intOf c).toNat)
     case atStart=>exact⟨0,[],tag,cN _,rfl,rfl,HM.out,⟨World.ownsRow_nil _ _ _ _,λu b h=>(by simp at h),λk h=>(by simp[eJ] at h)⟩,ye.out⟩
     case round=>
      clear HM ye;obtain⟨u,d,Hc,hu,rfl,hl,G,hT,A⟩:=hrel;obtain⟨k0,k1,k2,k3⟩:=vx.out wr A;have x2:=HF.out wr A
      by_cases B9:u<g.vs.length
      ·have Cd:(u:bp)<(g.vs.length:bp):=by omega
       obtain⟨ib,vd,ws,wx,xf⟩:=gA mK;obtain⟨i0,xj,xl,xo,xp⟩:=gA lc;obtain⟨D,hD⟩:=zE wr.heap.size;obtain⟨W6,ux⟩:=zE (wr.alloc (ua (boolRow n (λ_=>tG)) 4));have vy:=iq ux;have yi:W6.heap.size=D+1:=by rw[<-ux];simp[hD]
       have yk:aL W6 D n (λ_=>tG):=by unfold aL;rw[<-ux,<-hD];exact alloc_at _ _
       have vf:cm (W6.ownsRow 0 50 1 u8 d.length (d.map λb=>aC.enc b n)):=ownsRow_below hT.own vy;have yp:CG vt [] j:=⟨λf hf=>by have:=HV.out;omega,by omega,λf hf=>fW hf (kh _)⟩
       have Cl:cm (∀(v9:cd)(w9:World),w9.ownsRow 0 50 1 v9 (d.length+1) ((d.map λb=>aC.enc b n)++[tP (tB ⟨D,0,tD⟩) n n])->Ext (λk=>u8.ownBlock=tB k) W6 w9->(∀k,v9.ownBlock=tB k->u8.ownBlock=tB k\/W6.heap.size<=k)->
         ∃(u':bx) (d:bm bx) (tag:Tag),u'<=g.vs.length/\eE .i64 ((u:bp)+1)= Z U (u':bp)/\d.length=u'/\eQ w9 m n (N+2) (N+2) sv vv rv eT vt [] rl AA tag/\kF aC 50 w9 j v9 d n (AA j) tag/\gX m w N w9):=by
        intro v9 w9 o9 x9 a9;obtain⟨tag',q1,q2,q3,q4,q5⟩:=G.leafs (nb:=D) yp hT vy (by rw[hD];exact ce _) (by rw[yi];exact pf _) yk o9 x9 a9;exact⟨u+1,_,tag',B9,by go_num,by rw[cw,hl];rfl,q1,q2,A.ext ur.out q3 q5⟩
       have B4:d.length<=g.vs.length:=by omega
       have Cp:=zH ux;clear G hT A ux vy yk yp
       go_wp2_with (first
        |(at_make;refine lK rfl (.tmp 73) (.tmp 73) 50 rfl 4 ib (tU tG) sf vd ws wx rfl .i64 .i64 _ _ n rfl rfl rfl rfl (by rw[xf];omega) (by unfold dT;omega) ?_;rw[jU,Cp.out,hD])
        |(at_builtin;refine bW rfl (.tmp 72) (.tmp 75) 97 rfl 0 50 i0 _ 1 24 sk xj xl xo xp rfl (by decide) u8 d.length (d.map λb=>aC.enc b n) rfl vf.out (D+1) #[tP (tB ⟨D,0,tD⟩) n n] yi.symm rfl rfl (by simp[cj]) (by unfold dT;omega) (by omega) (cN _) ?_;intro v9 w9 o9 x9 b9;have ue:=zH (Cl.out v9 w9 o9 x9 b9);clear o9 x9 b9))
       go_roundw
       case rel=>exact ue.out
       case measure=>simp[intOf];omega
      ·have yq:u=g.vs.length:=by omega
       have Cd:¬(u:bp)<(g.vs.length:bp):=by omega
       obtain⟨vh,c8,CA⟩:=ai hT.own;subst CA;obtain⟨i1,wg,wi,wj,wk⟩:=gA nM;obtain⟨ib,vd,ws,wx,xf⟩:=gA mK;obtain⟨i0,xj,xl,xo,xp⟩:=gA lc;have t1:wr.cell? ⟨N+2,1,tD⟩=tB vv:=zR G.rec_ 1 _;have An:=ae G.rec_;obtain⟨D,hD⟩:=zE wr.heap.size;have vf:cm (wr.ownsRow 0 97 1 vv vt.length (vt.map lE)):=G.vars.own;have AG:cm (∀w5,Ext (λk=>vv.ownBlock=tB k) wr w5->w5.heap[N+2]?=tB (ua #[sv,vv,rv,eT] 99 (0,0))):=λw5 hx=>hx.heap G.rec_ (λhk=>by have:=G.vars.tr _ hk;rw[G.tS] at this;simp at this);have AH:cm (∀v5 w5,w5.ownsRow 0 97 1 v5 (vt.length+1) (vt.map lE++[tP vh d.length c8])->Ext (λk=>vv.ownBlock=tB k) wr w5->(∀k,v5.ownBlock=tB k->vv.ownBlock=tB k\/wr.heap.size<=k)->
         ∃tag,eQ (w5.setCell ⟨N+2,1,tD⟩ v5) m n (N+2) (N+2) sv v5 rv eT (vt++[(tP vh d.length c8,d)]) [] rl AA tag/\gX m w N (w5.setCell ⟨N+2,1,tD⟩ v5)):=by
        intro v5 w5 o5 x5 b5;obtain⟨tag',q1,q2,_,q4⟩:=G.pushV (by have:=HV.out;omega) (by rw[HV.out];exact hT) o5 x5 b5;exact⟨tag',q1,A.ext ur.out q2 q4⟩
       have IN:vt.length<=60:=by have:=HV.out;omega
       have IS:rl.length<=60:=by have:=DO.out;omega
       have Hh:cm (d.length=g.vs.length):=hl.trans yq;clear G hT A hl yq
       go_upto_region 20 with(at_builtin;refine bW rfl (.tmp 78) (.tmp 80) 96 rfl 0 97 i1 _ 1 24 underlying96 wg wi wj wk rfl (by decide) vv vt.length (vt.map lE) rfl vf.out D #[tP vh d.length c8] hD.symm rfl rfl (by simp[cj]) (by unfold dT;omega) (by omega) (cN _) ?_;intro v5 w5 o5 x5 b5;obtain⟨CC,c5,CD⟩:=ai o5;subst CD;obtain⟨t5,DP⟩:=rowAt (AG.out w5 x5) 1 (u:=vv) rfl;have yr:=zH (AH.out _ w5 o5 x5 b5);clear o5 x5 b5)
       clear AH AG vf t1 t5 DP k0 k1 k2 k3 x2 wg wi wj wk;obtain⟨W5,DQ⟩:=zE (w5.setCell ⟨N+2,1,tD⟩ (tP CC (vt.length+1) c5));rw[DQ] at yr⊢;obtain⟨IT,DS,D0⟩:=yr.out;clear yr DQ;obtain⟨V,hV⟩:=zE W5.drew;have vj:bh W5.heap.size W5 V:=by rw[<-hV];exact(aq _ _).drew
       have va:=DS.grow vj;have xr:gX m w N V:=D0.ext ur.out (Ext.of_below_size (M:=λ_=>mb) vj) (λ_ h=>h.elim);obtain⟨Q,hQ⟩:=zE V.heap.size;obtain⟨W7,yv⟩:=zE (V.alloc (ua (boolRow n (λ_=>tG)) 4));have AI:=iq yv;have AK:W7.heap.size=Q+1:=by rw[<-yv];simp[hQ]
       have D1:aL W7 Q n (λ_=>tG):=by unfold aL;rw[<-yv,<-hQ];exact alloc_at _ _
       have D2:cm (W7.ownsRow 0 50 1 rv rl.length (rl.map λb=>aC.enc b n)):=ownsRow_below va.res.own AI;obtain⟨S2,vu⟩:=zE ((λW=>Ext (λk=>rv.ownBlock=tB k) V W):World->Prop);have vi:cm (∀W,Ext (λk=>rv.ownBlock=tB k) V W->S2 W):=λW h=>by rw[<-vu];exact h
       have CH:cm (∀W,Ext (λk=>rv.ownBlock=tB k) V W->W.heap[N+2]?=tB (ua #[sv,tP CC (vt.length+1) c5,rv,eT] 99 (0,0))):=λW J=>
        J.heap va.rec_ (λhk=>by have:=va.res.tr _ hk;rw[va.tS] at this;simp at this)
       have uc:cm (∀W,S2 W->W.cell? ⟨N+2,2,tD⟩=tB rv/\N+2<W.heap.size):=λW J=>by
        rw[<-vu] at J;have h:=CH.out W J;exact⟨zR h 2 _,ae h⟩
       have ue:cm (∀v8 w8,w8.ownsRow 0 50 1 v8 (rl.length+1) ((rl.map λb=>aC.enc b n)++[tP (tB ⟨Q,0,tD⟩) n n])->Ext (λk=>rv.ownBlock=tB k) W7 w8->(∀k,v8.ownBlock=tB k->rv.ownBlock=tB k\/W7.heap.size<=k)->IM m w N n (j+1) (w8.setCell ⟨N+2,2,tD⟩ v8)):=by
        intro v8 w8 o8 x8 b8;obtain⟨tag',q1,q2,_,q4⟩:=va.pushR (nb:=Q) AI (by rw[hQ];exact ce _) (by rw[AK];exact pf _) D1 o8 x8 b8;refine⟨_,_,_,_,_,tag',q1,by rw[cw,HV.out];rfl,by rw[cw,DO.out];rfl,λf r g' hr CM=> ?_,xr.ext ur.out q2 q4⟩;rcases j8 f vt.length with q|q
        ·rw[gR q] at hr
         exact B8.out f r g' hr CM
        ·have yy:f<(vt++[((tP vh d.length c8:cd),d)]).length:=(ap.1 hr).1
         rw[cw] at yy;have CN:f=vt.length:=by simp at yy;omega
         subst CN;rw[et (ce _),m6] at hr;obtain rfl:((tP vh d.length c8:cd),d)=r:=by simpa using hr
         rw[HV.out,HG.out] at CM;obtain rfl:=cD CM;exact Hh.out
       have AM:cm (Ext (λk=>rv.ownBlock=tB k) V W7):=Ext.of_below_size AI;have D3:=zH hV;have D4:=zH yv;have CT:S2 V:=vi.out _ (Ext.refl _ _);clear DS D0 hV vj va xr AI D1 vu yv;refine ak 7 S2 (by kernel_rfl) ?_;rw[D3.out];refine zT 0 rfl uc.out ?_;(try go_simp);refine zT 1 rfl uc.out ?_;(try go_simp);refine zT 2 rfl uc.out ?_;(try go_simp);refine zO 3 rfl λK' hK=> ?_;refine DR (.tmp 85) (.tmp 85) 50 rfl 4 ib (tU tG) sf vd ws wx rfl n rfl rfl (by rw[xf];omega) (by unfold dT;omega) ?_;rw[jU,D4.out,hQ];refine hK _ _ (vi.out _ AM.out) ?_;clear hK;(try go_simp);refine zO 4 rfl λK' hK=> ?_;go_simp;refine hK _ _ (vi.out _ (AM.out.alloc _)) ?_;clear hK;(try go_simp);refine zO 5 rfl λK' hK=> ?_;refine Fa (.tmp 84) (.tmp 87) 97 rfl 50 i0 _ 24 sk xj xl xo xp rfl rv rl.length (rl.map λb=>aC.enc b n) rfl D2.out (Q+1) (tP (tB ⟨Q,0,tD⟩) n n) AK.symm (by first|rfl|(rw[<-AK];rfl)) rfl (by unfold dT;omega) (by omega) ?_;intro g8 IZ w8 o8 x8 b8;have C3:=AM.out.trans x8 (λk hk=> .inl hk);have Hi:=zH (ue.out _ w8 o8 x8 b8);obtain⟨t8,Hj⟩:=rowAt (CH.out w8 C3) 2 (u:=rv) rfl;have Ek:=vi.out _ C3;refine hK _ _ Ek ?_;clear hK o8 x8 b8 C3;(try go_simp);refine zT 6 rfl uc.out ?_;(try go_simp);refine zK rfl λK' hK=> ?_;go_simp;refine hK _ _ ?_;clear hK;refine⟨by kernel_rfl, ?_⟩;clear ue uc CH vi AM D2 CT Ek t8 Hj xj xl xo xp vd ws wx xf D4 D3 hQ AK;go_wp2;go_roundw
       case rel=>exact⟨j+1,vr,by go_num,Hi.out⟩
       case measure=>simp[intOf];omega
    ·have Ax:j=m.fs.length:=by omega
     have we:¬(j:bp)<(m.fs.length:bp):=by omega
     have EV:cm (vt.length=m.fs.length):=by unfold cm;omega
     have Hk:cm (rl.length=m.fs.length):=by unfold cm;omega
     have B8:=zH AF;have E0:cm (∃(gv:cd) (gt:bm (cd×bm bx)) (tag:Tag),eQ wo m n (N+2) (N+2) sv vv rv gv vt gt rl AA tag/\gt.length=0/\(∀(f:bx)(r:cd×bm bx)(s:St),gt[f]?=tB r->m.siteS f=tB s->r.2.length=s.fs.length)/\gX m w N wo):=⟨_,[],tag,G,rfl,λf r s h _=>(by simp at h),A⟩
     clear G hv B6 AF A vr hj
     go_wp2_with fail
     clear k0 k1 k2 k3
     go_loopw [10] (λc wr=>∃k:bx,k<=n/\c= Z U (k:bp)/\∃(gv:cd) (gt:bm (cd×bm bx)) (tag:Tag),eQ wr m n (N+2) (N+2) sv vv rv gv vt gt rl AA tag/\gt.length=k/\(∀(f:bx)(r:cd×bm bx)(s:St),gt[f]?=tB r->m.siteS f=tB s->r.2.length=s.fs.length)/\gX m w N wr) (λc _=>n-(intOf c).toNat)
     case atStart=>exact⟨0,cN _,rfl,E0.out⟩
     case round=>
      clear E0 Ax we;obtain⟨k,hk,rfl,gv,gt,tag,G,AN,AS,A⟩:=hrel
      by_cases E3:k<n
      ·have BY:(k:bp)<(n:bp):=by omega
       obtain⟨p,hp⟩:∃p,(aj m.xi)[k]?=tB p:=⟨_,am (by rw[AE.out];exact E3)⟩
       obtain⟨j,z,q,g,i,st,rfl,hg,hi,hf,E4,E6⟩:=yI HR.out hp;have xF:=cf hg;have E7:=cf hi;have AT:=G.sites;obtain⟨ao,ca,wl⟩:=ai AT;rw[wl] at AT;obtain⟨sg,Fc,C4,xt⟩:=iI pR 2 (λ_=>rfl) AT hp;rw[Fc,AE.out] at wl;obtain⟨ib,io,xT,vq⟩:=DB.out j g hg;obtain⟨C5,ga,gc,Hn,Hp⟩:=(HW.out.ri.mo.fin g xF).code.args i E7;obtain⟨_,mo,mn,mc,Hs⟩:=id C5;have vr:=(ap.1 hg).1;have I0:=(ap.1 hi).1;have we:(j:bp)<(m.fs.length:bp):=by omega
       have I4:(z:bp)<(g.c.ins.length:bp):=by omega
       obtain⟨V,hV⟩:=zE wr.drew;have vj:bh wr.heap.size wr V:=by rw[<-hV];exact(aq _ _).drew
       have va:=G.grow vj;have xr:gX m w N V:=A.ext ur.out (Ext.of_below_size (M:=λ_=>mb) vj) (λ_ h=>h.elim);obtain⟨D,hD⟩:=zE V.heap.size;obtain⟨W1,uv⟩:=zE (V.alloc (ua i.cells 42));have hst:∀c:da cd,c.size=13->(dr ⟨D,0,tD⟩ i.cells.toList 0).run ac (V.alloc (ua c 42))= .ok () W1:=λc hc=>by
        rw[<-hD,<-uv];exact tQ C5 c hc
       have vp:bh V.heap.size V W1:=by rw[<-uv];exact(aq _ _).alloc (ce _) _
       have AW:W1.heap[D]?=tB (ua i.cells 42 (0,0)):=by rw[<-uv,<-hD];exact alloc_at _ _
       obtain⟨S2,vu⟩:=zE ((λW=>bh V.heap.size V W):World->Prop);have vi:cm (∀W,bh V.heap.size V W->S2 W):=λW h=>by rw[<-vu];exact h
       have uc:cm (∀W,S2 W->W.cell? ⟨N,1,tD⟩=tB (tP (tB ⟨fb,fo,tD⟩) m.fs.length m.fC)/\N<W.heap.size/\fb<W.heap.size/\W.cell? ⟨N+2,0,tD⟩=tB (tP (tB ⟨sg,0,tD⟩) n ca)/\N+2<W.heap.size/\sg<W.heap.size/\W.cell? ⟨sg,k*2,tD⟩=tB (Z U (j:bp))/\W.cell? ⟨sg,k*2+1,tD⟩=tB (Z U (z:bp))/\W.cell? ⟨fb,fo+j*8+7,tD⟩=tB (tP (tB ⟨ib,io,tD⟩) g.c.ins.length g.c.insC)/\ib<W.heap.size):=λW J=>by
        rw[<-vu] at J;have yW:=vj.trans (J.mono vj.size);have zc:=A.ext ur.out (Ext.of_below_size (M:=λ_=>mb) yW) (λ_ h=>h.elim);have h1:=vx.out W zc;have h2:=BE.out W zc j g hg 7 _ rfl;rw[xT] at h2;have h3:=(G.grow yW).rec_;rw[wl] at h3;refine⟨h1.2.1,h1.2.2.1,h1.2.2.2,zR h3 0 _,ae h3,bl C4 yW.size, ?_, ?_,h2,(vq W zc).1⟩
        ·rw[yW.cell (p:=⟨sg,_,tD⟩) C4];exact xt 0 _ rfl
        ·rw[yW.cell (p:=⟨sg,_,tD⟩) C4];exact xt 1 _ rfl
       have A0:cm (∀W,S2 W->∀q u,i.cells.toList[q]?=tB u->W.cell? ((⟨ib,io+z*13,tD⟩:Addr).add q)=tB u):=λW J q u hu=>by
        rw[<-vu] at J;have zc:=xr.ext ur.out (Ext.of_below_size (M:=λ_=>mb) J) (λ_ h=>h.elim);rw[dc];exact(vq W zc).2 z i hi q u hu
       have CT:S2 V:=vi.out _ (aq _ _);have Fi:=va.grow vp;have Fk:gX m w N W1:=xr.ext ur.out (Ext.of_below_size (M:=λ_=>mb) vp) (λ_ h=>h.elim);unfold Ins.cells at hst AW A0 uv;rw[Hn,Hs] at hst AW A0 uv;have G2:N+2<D:=by rw[<-hD];exact ae va.rec_
       have Hv:=zH AW;have Fl:cm (tag D=(0,0,0)):=er λe=>by have:=(va.low D e).2;rw[hD] at this;exact Nat.lt_irrefl _ this
       have Fm:=zH Fi;have Fo:=zH Fk;have Fr:=zH vp;have HV:=zH hV;have Hx:=zH AS;have C6:=zH AN;have HF:=zH hf;have HU:=zH E6;have A2:=zH E4;clear G A AT wl Fc xt vq Hp C5 hg hi hp vj va xr vp AW vu Fi Fk hV AS AN hf E6 E4 xF E7;have ya:=zH uv;clear uv
       go_upto_region 24 with(fail)
       refine bL S2 (by kernel_rfl) ?_;rw[HV.out];refine yT 0 rfl uc.out ?_;(try go_simp);refine yT 1 rfl uc.out ?_;(try go_simp);refine yT 2 rfl uc.out ?_;(try go_simp);refine yT 3 rfl uc.out ?_;(try go_simp);refine yT 4 rfl uc.out ?_;(try go_simp);refine yT 5 rfl uc.out ?_;(try go_simp);refine yT 6 rfl uc.out ?_;(try go_simp);refine yT 7 rfl uc.out ?_;(try go_simp);refine yT 8 rfl uc.out ?_;(try go_simp);refine yT 9 rfl uc.out ?_;(try go_simp);refine yT 10 rfl uc.out ?_;(try go_simp);refine yT 11 rfl uc.out ?_;(try go_simp);refine yT 12 rfl uc.out ?_;(try go_simp);refine yT 13 rfl uc.out ?_;(try go_simp);refine yT 14 rfl uc.out ?_;(try go_simp);refine yT 15 rfl uc.out ?_;(try go_simp);refine yT 16 rfl uc.out ?_;(try go_simp);refine yT 17 rfl uc.out ?_;(try go_simp);refine yL 18 rfl 42 ⟨ib,io+z*13,tD⟩ A0.out cJ ?_;(try go_simp);refine yO 19 rfl λK' hK=> ?_;go_simp;(try rw[hD]);refine hK _ _ (vi.out _ ((aq _ _).alloc (ce _) _)) ?_;clear hK;(try go_simp);refine yO 20 rfl λK' hK=> ?_;go_simp;(try simp only[hst]);(try go_simp);(try rw[ya.out]);refine hK _ _ (vi.out _ Fr.out) ?_;clear hK hst;refine⟨by kernel_rfl, ?_⟩;clear CT uc A0 vi HV hD Fr ya;obtain⟨sb,so,Ft,A4,xt⟩:=HW.out.ri.mo.srow (by intro e;have:=A2.out;rw[e] at this;simp at this);rw[ur.out] at A4;have C7:=cf A2.out;have FA:=HW.out.ri.mo.sin st C7;have I5:st.fs.length<=90000:=HW.out.ri.fd st C7;have FF:=FA.nf;have If:cm (∀W,gX m w N W->W.cell? ⟨sb,so+q*4+1,tD⟩=tB (tP st.s.fA st.fs.length st.s.fC)/\sb<W.heap.size):=λW J=>by
        refine⟨?_,sq A4 (ae J.mod)⟩;rw[J.below.cell (p:=⟨sb,_,tD⟩) A4,<-FF];exact xt q st A2.out 1 _ rfl
       have I6:=(ap.1 A2.out).1;have I7:(q:bp)<(m.ss.length:bp):=by omega
       have In:=zH Ft;have I8:gt.length<=400:=by have:=C6.out;omega
       clear Ft xt FA FF C7 A4
       go_upto_region 27 with(fail)
       go_loopw [12,13] (λl c wr=>∃(u:bx) (d:bm bx) (tag:Tag),u<=st.fs.length/\c= Z U (u:bp)/\d.length=u/\eQ wr m n (N+2) (N+2) sv vv rv gv vt gt rl AA tag/\kF aC 50 wr (2000000+gt.length) l d n (AA (2000000+gt.length)) tag/\gX m w N wr/\wr.heap[D]?=W1.heap[D]? /\tag D=(0,0,0)) (λ_ c _=>st.fs.length-(intOf c).toNat)
       case atStart=>exact⟨0,[],tag,cN _,rfl,rfl,Fm.out,⟨World.ownsRow_nil _ _ _ _,λu b h=>(by simp at h),λk h=>(by simp[eJ] at h)⟩,Fo.out,rfl,Fl.out⟩
       case round=>
        clear Fm Fo Fl;obtain⟨u,d,Hc,hu,rfl,hl,G,hT,A,A5,A6⟩:=hrel;obtain⟨k0,k1,k2,k3⟩:=vx.out wr A;rw[In.out] at k0;obtain⟨s1,s2⟩:=If.out wr A;have Dd:=A5.trans Hv.out;have d4:wr.cell? ⟨D,4,tD⟩=tB (Z U (q:bp)):=by rw[<-HF.out];exact zR Dd 4 _
        have FG:=ae Dd;clear Dd
        by_cases B9:u<st.fs.length
        ·have Cd:(u:bp)<(st.fs.length:bp):=by omega
         obtain⟨bb,vd,ws,wx,xf⟩:=gA mK;obtain⟨i0,xj,xl,xo,xp⟩:=gA lc;obtain⟨E,hE⟩:=zE wr.heap.size;obtain⟨W6,ux⟩:=zE (wr.alloc (ua (boolRow n (λ_=>tG)) 4));have vy:=iq ux;have yi:W6.heap.size=E+1:=by rw[<-ux];simp[hE]
         have yk:aL W6 E n (λ_=>tG):=by unfold aL;rw[<-ux,<-hE];exact alloc_at _ _
         have vf:cm (W6.ownsRow 0 50 1 u12 d.length (d.map λb=>aC.enc b n)):=ownsRow_below hT.own vy;have yp:CG vt gt (2000000+gt.length):=⟨λf hf=>by have:=EV.out;omega,by omega,λf hf=>by omega⟩
         have Cl:cm (∀(v9:cd)(w9:World),w9.ownsRow 0 50 1 v9 (d.length+1) ((d.map λb=>aC.enc b n)++[tP (tB ⟨E,0,tD⟩) n n])->Ext (λk=>u12.ownBlock=tB k) W6 w9->(∀k,v9.ownBlock=tB k->u12.ownBlock=tB k\/W6.heap.size<=k)->
           ∃(u':bx) (d:bm bx) (tag:Tag),u'<=st.fs.length/\eE .i64 ((u:bp)+1)= Z U (u':bp)/\d.length=u'/\eQ w9 m n (N+2) (N+2) sv vv rv gv vt gt rl AA tag/\kF aC 50 w9 (2000000+gt.length) v9 d n (AA (2000000+gt.length)) tag/\gX m w N w9/\w9.heap[D]?=W1.heap[D]? /\tag D=(0,0,0)):=by
          intro v9 w9 o9 x9 a9;obtain⟨tag',q1,q2,q3,q4,q5⟩:=G.leafs (nb:=E) yp hT vy (by rw[hE];exact ce _) (by rw[yi];exact pf _) yk o9 x9 a9;refine⟨u+1,_,tag',B9,by go_num,by rw[cw,hl];rfl,q1,q2,A.ext ur.out q3 q5, ?_,by rw[q4 D FG];exact A6⟩;rw[<-A5];exact q3.block D FG λe=>by have:=hT.tr D e;rw[A6] at this;simp at this
         have B4:d.length<=st.fs.length:=by omega
         have Cp:=zH ux;clear G hT A ux vy yk yp hl A5 A6
         go_wp2_with (first
          |(at_make;refine lK rfl (.tmp 127) (.tmp 127) 50 rfl 4 bb (tU tG) sf vd ws wx rfl .i64 .i64 _ _ n rfl rfl rfl rfl (by rw[xf];omega) (by unfold dT;omega) ?_;rw[jU,Cp.out,hE])
          |(at_builtin;refine bW rfl (.tmp 126) (.tmp 129) 97 rfl 0 50 i0 _ 1 24 sk xj xl xo xp rfl (by decide) u12 d.length (d.map λb=>aC.enc b n) rfl vf.out (E+1) #[tP (tB ⟨E,0,tD⟩) n n] yi.symm rfl rfl (by simp[cj]) (by unfold dT;omega) (by omega) (cN _) ?_;intro v9 w9 o9 x9 b9;have ue:=zH (Cl.out v9 w9 o9 x9 b9);clear o9 x9 b9))
         go_roundw
         case rel=>exact ue.out
         case measure=>simp[intOf];omega
        ·have yq:u=st.fs.length:=by omega
         have Cd:¬(u:bp)<(st.fs.length:bp):=by omega
         obtain⟨vh,c8,CA⟩:=ai hT.own;subst CA;obtain⟨i1,wg,wi,wj,wk⟩:=gA nM;have t3:wr.cell? ⟨N+2,3,tD⟩=tB gv:=zR G.rec_ 3 _;have An:=ae G.rec_;obtain⟨E,hE⟩:=zE wr.heap.size;have vf:cm (wr.ownsRow 0 97 1 gv gt.length (gt.map lE)):=G.flds.own;have AG:cm (∀w5,Ext (λk=>gv.ownBlock=tB k) wr w5->w5.heap[N+2]?=tB (ua #[sv,vv,rv,gv] 99 (0,0))):=λw5 hx=>hx.heap G.rec_ (λhk=>by have:=G.flds.tr _ hk;rw[G.tS] at this;simp at this);have AH:cm (∀v5 w5,w5.ownsRow 0 97 1 v5 (gt.length+1) (gt.map lE++[tP vh d.length c8])->Ext (λk=>gv.ownBlock=tB k) wr w5->(∀k,v5.ownBlock=tB k->gv.ownBlock=tB k\/wr.heap.size<=k)->
           ∃(gv:cd) (gt:bm (cd×bm bx)) (tag:Tag),eQ (w5.setCell ⟨N+2,3,tD⟩ v5) m n (N+2) (N+2) sv vv rv gv vt gt rl AA tag/\gt.length=k+1/\(∀(f:bx)(r:cd×bm bx)(s:St),gt[f]?=tB r->m.siteS f=tB s->r.2.length=s.fs.length)/\gX m w N (w5.setCell ⟨N+2,3,tD⟩ v5)):=by
          intro v5 w5 o5 x5 b5;obtain⟨tag',q1,q2,_,q4⟩:=G.pushG hT o5 x5 b5;refine⟨_,_,tag',q1,by rw[cw,C6.out];rfl,λf r s hr hs=> ?_,A.ext ur.out q2 q4⟩;rcases j8 f gt.length with q|q
          ·rw[gR q] at hr
           exact Hx.out f r s hr hs
          ·have yy:f<(gt++[((tP vh d.length c8:cd),d)]).length:=(ap.1 hr).1
           rw[cw] at yy;have CN:f=gt.length:=by simp at yy;omega
           subst CN;rw[et (ce _),m6] at hr;obtain rfl:((tP vh d.length c8:cd),d)=r:=by simpa using hr
           rw[C6.out,HU.out] at hs;obtain rfl:=cD hs;exact hl.trans yq
         clear G hT A hl yq A5 A6
         go_wp2_with (at_builtin;refine bW rfl (.tmp 132) (.tmp 134) 96 rfl 0 97 i1 _ 1 24 underlying96 wg wi wj wk rfl (by decide) gv gt.length (gt.map lE) rfl vf.out E #[tP vh d.length c8] hE.symm rfl rfl (by simp[cj]) (by unfold dT;omega) (by omega) (cN _) ?_;intro v5 w5 o5 x5 b5;obtain⟨CC,c5,CD⟩:=ai o5;subst CD;obtain⟨t5,DP⟩:=rowAt (AG.out w5 x5) 3 (u:=gv) rfl;have yr:=zH (AH.out _ w5 o5 x5 b5);clear o5 x5 b5)
         go_roundw
         case rel=>exact⟨k+1,E3,by go_num,yr.out⟩
         case measure=>simp[intOf];omega
      ·have At:k=n:=by omega
       have BY:¬(k:bp)<(n:bp):=by omega
       have F0:lC m n vt gt rl:=⟨AE.out,EV.out,B8.out,Hk.out,AN.trans At,AS⟩
       have Bk:=zH F0;have F2:cm (Gy m n AA):=λnd y _ _ h=>by unfold X3.at_ at h;cases h
       obtain⟨LK,Ge⟩:∃LK:X3->bx,LK=ui (Gh n):=⟨_,rfl⟩
       have Gk:cm (∀x x':X3,(∀r u y,x r u y=tE->x' r u y=tE)->∀r u y,(r,u,y)∈Gh n->x' r u y=tE->x r u y=tG->LK x'<LK x):=λx x' h r u y hm h1 h2=>by
        rw[Ge];exact DN h hm h1 h2
       have GB:cm (∃x:X3,LK AA=LK x/\eQ wr m n (N+2) (N+2) sv vv rv gv vt gt rl x tag/\Gy m n x/\gX m w N wr):=⟨_,rfl,G,F2.out,A⟩
       clear G AN AS A At F0 F2 Ge
       go_wp2_with fail
       go_loopg [] (LK AA) (λmm wr=>∃x:X3,mm=LK x/\eQ wr m n (N+2) (N+2) sv vv rv gv vt gt rl x tag/\Gy m n x/\gX m w N wr)
       case atStart=>exact GB.out
       case round=>
        clear GB;obtain⟨x,rfl,G,hS,A⟩:=hrel;have GC:=zH (ul wr w G Bk.out HW.out.ri.mo (by rw[ur.out];omega) (by rw[ur.out];exact A.below) HR.out hS (by omega));have GE:=zH A.mod;have GF:cm (∀k,bG tag k->N+2<=k):=λk ⟨p,q,e⟩=>(G.low k (by rw[e];simp)).1;have HS:=zH hS;have ye:=zH A;clear G hS A
        go_wp2_with (refine ci rfl 25 _ rfl N rfl 25 m.cells (0,0) _ GE.out fk rfl (by kernel_rfl) ?_)
        go_at_call 80;refine GC.out.mono ?_;rintro e w6 ⟨v,rfl,t,x',rfl,hst,yb,ud,hE⟩;have vc:=ye.out.ext ur.out hE GF.out;have Bm:=hst.snd HS.out;cases t with
        |true=>
         have Is:cm (LK x'<LK x):=by
          obtain⟨r,u,y,a1,a2,a3,a4⟩:=hst.new rfl;exact Gk.out x x' hst.mono r u y (Io HW.out HR.out Bk.out Hb a1 a2) a3 a4
         have ue:=zH (And.intro ud (And.intro Bm vc));clear hst yb ud hE Bm vc;go_wp2
         go_roundg (LK x')
         case measure=>exact Is.out
         case rel=>exact⟨x',rfl,ue.out⟩
        |false=>
         have GO:cm (∀nd t y,pF m nd t->y<n->(x'.at_ nd y=tE↔m.lf nd y)):=λnd t y ht hy=>⟨λh=>Bm nd y hy ⟨t,ht⟩ h,λh=>hst.mono _ _ _ (E8 (by rw[AE.out];exact ce _) (λj k g i hg hi=>yb rfl j k g i hg hi trivial) h)⟩
         obtain⟨I9,Ja,e0⟩:=ai ud.sites;obtain⟨Jb,Jc,e1⟩:=ai ud.vars.own;obtain⟨Jd,Je,e2⟩:=ai ud.res.own;obtain⟨Jf,Jg,e3⟩:=ai ud.flds.own;have q0:w6.cell? ⟨N+2,0,tD⟩=tB sv:=zR ud.rec_ 0 _;have q1:w6.cell? ⟨N+2,1,tD⟩=tB vv:=zR ud.rec_ 1 _;have q2:w6.cell? ⟨N+2,2,tD⟩=tB rv:=zR ud.rec_ 2 _;have q3:w6.cell? ⟨N+2,3,tD⟩=tB gv:=zR ud.rec_ 3 _;obtain⟨g0,f0⟩:=rowAt vc.res 0 (u:=eT) rfl;obtain⟨g1,f1⟩:=rowAt vc.res 1 (u:=eT) rfl;obtain⟨g2,f2⟩:=rowAt vc.res 2 (u:=eT) rfl;obtain⟨g3,f3⟩:=rowAt vc.res 3 (u:=eT) rfl;have h1:=eL w6 (N+1) 0 _ _ sv vc.res;have h2:=eL _ (N+1) 1 _ _ vv h1;have h3:=eL _ (N+1) 2 _ _ rv h2;have h4:=eL _ (N+1) 3 _ _ gv h3;have vm:Ext (·=N+1) w6 ((((w6.setCell ⟨N+1,0,tD⟩ sv).setCell ⟨N+1,1,tD⟩ vv).setCell ⟨N+1,2,tD⟩ rv).setCell ⟨N+1,3,tD⟩ gv):=(((Ext.set1 _ _ _ _).trans (Ext.set1 _ _ _ _) (λ_ h=> .inl h)).trans (Ext.set1 _ _ _ _) (λ_ h=> .inl h)).trans (Ext.set1 _ _ _ _) (λ_ h=> .inl h);obtain⟨W9,Dg⟩:=zE ((((w6.setCell ⟨N+1,0,tD⟩ sv).setCell ⟨N+1,1,tD⟩ vv).setCell ⟨N+1,2,tD⟩ rv).setCell ⟨N+1,3,tD⟩ gv);rw[Dg] at h4 vm;have GP:bh N w W9:=vc.below.trans (vm.below (by rw[<-ur.out];exact vc.below.size) (λk hk=>by rw[hk];omega));have GS:eQ W9 m n (N+2) (N+2) sv vv rv gv vt gt rl x' tag:=by
          have ht:tag (N+1)=(0,0,0):=er λe=>by have:=(ud.low _ e).1;omega
          refine⟨vm.heap ud.rec_ (by omega),af ud.sites vm (λk hk e=> ?_),ud.vars.ext vm (λk hk _=>by rw[hk,ht];exact⟨by simp,λf u=>⟨by simp,by simp⟩⟩),ud.res.ext vm (λk hk _=>by rw[hk,ht];exact⟨by simp,λu=>by simp⟩) (λ_ _=>rfl),ud.flds.ext vm (λk hk _=>by rw[hk,ht];exact⟨by simp,λf u=>⟨by simp,by simp⟩⟩),ud.tS,ud.ts,λk hk=>⟨(ud.low k hk).1,bl (ud.low k hk).2 vm.size⟩,ud.lv⟩;have:=ud.ts k hk;rw[e,ht] at this;simp at this
         have ue:cm (Gz m w (ub (tW #[sv,vv,rv,gv])) W9):=⟨n,N+2,N+2,sv,vv,rv,gv,vt,gt,rl,x',tag,rfl,by rw[ur.out];omega,GS,Bk.out,GO.out,by rw[ur.out];exact GP⟩
         have y0:W9.cell? ⟨N+1,0,tD⟩=tB sv:=zR h4 0 _;have y1:W9.cell? ⟨N+1,1,tD⟩=tB vv:=zR h4 1 _;have y2:W9.cell? ⟨N+1,2,tD⟩=tB rv:=zR h4 2 _;have y3:W9.cell? ⟨N+1,3,tD⟩=tB gv:=zR h4 3 _;have By:=ae ud.rec_;have Jh:=ae vc.res;have zd:=zH Dg;clear hst yb ud hE Bm vc h1 h2 h3 h4 vm GP GS GO GC GE GF HS ye Bk Dg Gk;rw[e0] at q0 y0 ue zd;rw[e1] at q1 y1 ue zd;rw[e2] at q2 y2 ue zd;rw[e3] at q3 y3 ue zd;clear e0 e1 e2 e3
         go_wp2_with fail
         (try rw[zd.out]);exact dv (v:= tW #[_,_,_,_]) (by simp[tz,Tryz.results37,go_sem,y0,y1,y2,y3]) rfl ue.out
end Go.Proofs.YtjomgckjhcfbgaaGreat
