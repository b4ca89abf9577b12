/- Walks. -/
import Derived.ArgAppend
import Derived.Test.YtjomgckjhcfbgaaGreatP4
set_option maxRecDepth 100000
set_option maxHeartbeats 64000000
set_option linter.all false
namespace Go.Proofs.YtjomgckjhcfbgaaGreat
open Go.RowKit
open Go.Proofs.Tryz renaming prog→am
open _root_.List renaming getElem?_eq_getElem→ap,getElem?_eq_some_iff→bo,eq_nil_of_length_eq_zero→cV,flatMap_append→fS
open Go.RowKit.Below renaming refl→aq,heap_alloc→cE
open _root_ renaming Int→aw,Nat→bj,ByteArray→bl,List→bp,if_neg→bw,Option→cC,if_pos→cH,Array→dl,False→lj,Bool→ml
open Go.RowKit renaming Below→aE,Hid→cg,intOf→dp
open Go renaming heap_setCell_same→bk,cell_of_row→bt,run_storeCells_new→cr,Value→cw,storeCells→dd,maxLen→du,Addr→fg,Calls→fj,beq_toListBytes→fx,TypeId→fX,heap_alloc2_old→i8,Oper→kj,Program→km,info_parts→m6,bytes→qt
open _root_.Nat renaming le_refl→cd,lt_of_lt_of_le→cD,zero_add→cI,le_trans→eN,add_zero→i7
open Go.Value renaming oneCell'→cn,slice→cv,string→tm,slice→tn,pointer→tr,bool→tt,agg→tv,int→Z
open Go.Addr renaming add_lit→cU
open Go.Result renaming andThen→lz
open Go.Oper renaming wp→mp
open _root_.Option renaming some→tf,none→th
open _root_.Bool renaming true→ti,false→tj
open Go.Obj renaming cells→tA
open Go.Ending renaming returned→tB
open Go.IntKind renaming i64→U
open Tryz
theorem Eb:(am.info? 34).map (λi=>(i.zero,i.size,i.bytes))=tf (tf (tv #[tt tj,tm ⟨#[]⟩,Z U 0]),3,32):=by kernel_rfl
theorem Ec:(am.info? 42).map (λi=>(i.zero,i.size,i.bytes))=tf (tf (tv #[Z U 0,Z U 0,Z U 0,Z U 0,Z U 0,Z U 0,tm ⟨#[]⟩,tn th 0 0,tn th 0 0,Z U 0,Z U 0,Z U 0,Z U 0]),13,144):=by kernel_rfl
structure Fx where
 rt:Ty
 nm:bl
 pr:cw
 r7:cw
 r8:cw
 r9:cw
 fr:cw
 hs:cw
 os:cw
structure Sl where
 vA:cC fg
 vC:bj
 iA:cC fg
 iC:bj
 sA:cC fg
 sC:bj
 wA:cC fg
 wC:bj
structure fU where
 op:aw
 d:aw
 a:aw
 f:aw
 n:aw
 ln:aw
 cl:aw
def fU.cells (i:fU):dl cw:=#[Z U i.op,Z U i.d,Z U i.a,Z U 0,Z U i.f,Z U i.n,tm ⟨#[]⟩,tn th 0 0,tn th 0 0,Z U 0,Z U 0,Z U i.ln,Z U i.cl]
def Gz (i:fU):bp cw:=i.cells.toList
def GA (y:Ty):bp cw:=[tt y.1,tm y.2,Z U 0]
def Ff (p:Pg)(X:Fx)(s:Sl)(e f d:bj):dl cw:=
 #[tn (tf ⟨p.pA,0,th⟩) 1 p.pC,tn (tf ⟨p.qA,0,th⟩) 1 p.qC,tt X.rt.1,tm X.rt.2,tm X.nm,X.pr,tn s.vA e s.vC,X.r7,X.r8,X.r9,X.fr,tn s.iA f s.iC,tn s.sA d s.sC,tn s.wA d s.wC,Z U 0,Z U 0,Z U 0,Z U 0,X.hs,X.os]
structure Mk (m:bj)(p:Pg)(L:bj)(X:Fx)(V:bp Ty)(I:bp fU)(S:bp (bl×bj))(O:bj->Prop)(s:Sl)(w:World):Prop where
 row:w.heap[m]?=tf (tA (Ff p X s V.length I.length S.length) 236 (0,0))
 pg:jh p L w
 hm:L<=m
 vars:w.ownsRow (m+1) 34 3 (tn s.vA V.length s.vC) V.length (V.flatMap GA)
 ins:w.ownsRow (m+1) 42 13 (tn s.iA I.length s.iC) I.length (I.flatMap Gz)
 dis:∀k,(cv s.vA V.length s.vC).ownBlock=tf k->(cv s.iA I.length s.iC).ownBlock=tf k->lj
 ov:∀k,(cv s.vA V.length s.vC).ownBlock=tf k->O k
 oi:∀k,(cv s.iA I.length s.iC).ownBlock=tf k->O k
 ol:∀k,O k->m<k/\k<w.heap.size
 seen:aH (λx:bl×bj=>#[tm x.1]) 1 w w.heap.size s.sA S
 whic:aH (λx:bl×bj=>#[Z U (x.2:aw)]) 1 w w.heap.size s.wA S
 ns:∀a,S≠[]->(s.sA=tf a\/s.wA=tf a)->a.block≠m/\¬O a.block
 lV:V.length<=1000
 lI:I.length<=1000
 lS:S.length<=1000
 cS:S.length<=s.sC/\S.length<=s.wC
section
variable {m:bj}{p:Pg}{L:bj}{X:Fx}{V:bp Ty}{I:bp fU}{S:bp (bl×bj)}{O:bj->Prop}{s:Sl}{w w':World}
theorem aH.stay {α:Type}{cells:α->dl cw}{d:bj}{w w':World}{ao:cC fg}{xs:bp α}{M:bj->Prop}(h:aH cells d w w.heap.size ao xs)(f:Ext M w w')(q:∀a,xs≠[]->ao=tf a->¬M a.block):aH cells d w' w'.heap.size ao xs:=by
 intro g;obtain⟨b,e,j,o,t⟩:=h g;exact⟨b,e,j,cD o f.size,λi x hi k u v=>(f.cell (a:=⟨b,e+i*d+k,th⟩) o (q ⟨b,e,th⟩ g j)).trans (t i x hi k u v)⟩
theorem Mk.ext {M:bj->Prop}(h:Mk m p L X V I S O s w)(d:Ext M w w')(j:∀k,k<=m->¬M k)(o:∀k,O k->¬M k)(q:∀a,S≠[]->(s.sA=tf a\/s.wA=tf a)->¬M a.block):Mk m p L X V I S O s w':=
 ⟨d.heap h.row (j m (cd _)),h.pg.ext d (λk f=>j k (by have:=h.hm;omega)),h.hm,ah h.vars d (λk f=>o k (h.ov k f)),ah h.ins d (λk f=>o k (h.oi k f)),h.dis,h.ov,h.oi,λk f=>⟨(h.ol k f).1,cD (h.ol k f).2 d.size⟩,
  h.seen.stay d (λa g e=>q a g (.inl e)),h.whic.stay d (λa g e=>q a g (.inr e)),h.ns,h.lV,h.lI,h.lS,h.cS⟩
theorem Mk.grow (h:Mk m p L X V I S O s w)(hb:aE w.heap.size w w'):Mk m p L X V I S O s w':=h.ext (Ext.of_below_size (M:=λ_=>lj) hb) (λ_ _ h=>h) (λ_ _ h=>h) (λ_ _ _ h=>h)
end
def dz (m:bj)(p:Pg)(L:bj)(X:Fx)(V:bp Ty)(I:bp fU)(S:bp (bl×bj))(O:bj->Prop)(w w':World):Prop:=
 ∃d e,Mk m p L X V I S d e w'/\Ext (λq=>q=m\/O q) w w'/\∀k,d k->O k\/w.heap.size<=k
theorem dz.trans {m:bj}{p:Pg}{L:bj}{X:Fx}{V2:bp Ty}{I2:bp fU}{e:bp (bl×bj)}{O f:bj->Prop}{w g w2:World}(j:Ext (λq=>q=m\/O q) w g)(o:∀k,f k->O k\/w.heap.size<=k)(h:dz m p L X V2 I2 e f g w2):dz m p L X V2 I2 e O w w2:=by
 obtain⟨t,u,v,x,y⟩:=h;refine⟨t,u,v,j.trans x (λq d=> ?_),λk z=> ?_⟩
 ·rcases d with rfl|d
  ·exact .inl (.inl rfl)
  ·rcases o q d with h|h
   ·exact .inl (.inr h)
   ·exact .inr h
 ·rcases y k z with h|h
  ·exact o k h
  ·exact .inr (eN j.size h)
theorem mr {m:bj}{p:Pg}{L:bj}{X:Fx}{V:bp Ty}{I:bp fU}{S:bp (bl×bj)}{O:bj->Prop}{s:Sl}(y:Ty)(w:World)(h:Mk m p L X V I S O s w)(hl:V.length+1<=1000):
  fj am 131 #[tr (tf ⟨m,0,th⟩),tv #[tt y.1,tm y.2]] w λe w'=>e= tB (Z U (V.length:aw))/\dz m p L X (V++[y]) I S O w w':=by
 obtain⟨N,hN⟩:=zE w.heap.size;obtain⟨W1,tG⟩:=zE (w.alloc (tA #[tt y.1,tm y.2] 32));have uc:=ik tG hN;have ud:W1.heap[N]?=tf (tA #[tt y.1,tm y.2] 32 (0,0)):=by rw[<-tG,<-hN];exact alloc_at _ _
 have yq:=ae ud;have j:Mk m p L X V I S O s W1:=h.grow (by rw[hN];exact uc);have yr:m<N:=by have:=ae h.row;omega
 have vp:∀k,O k->k<N:=λk f=>by have:=(h.ol k f).2;omega
 obtain⟨v,hv⟩:=zE (cv s.vA V.length s.vC);have ue:=j.vars;rw[hv] at ue;obtain⟨i0,vq,vr,vt,vu⟩:=m6 Eb;obtain⟨R,up⟩:=zE ((λw'=>w'.cell? ⟨m,6,th⟩=tf v/\w'.heap[N]?=tf (tA #[tt y.1,tm y.2] 32 (0,0))):World->Prop);have vx:∀w,R w->w.cell? ⟨m,6,th⟩=tf v/\w.heap[N]?=tf (tA #[tt y.1,tm y.2] 32 (0,0)):=λw h=>by rw[<-up] at h;exact h
 have ur:∀w,w.cell? ⟨m,6,th⟩=tf v/\w.heap[N]?=tf (tA #[tt y.1,tm y.2] 32 (0,0))->R w:=λw h=>by rw[<-up];exact h
 have uv:=j.row;have yv:=ae uv;have ux:W1.drew.heap[m]?=tf (tA (Ff p X s V.length I.length S.length) 236 (0,0)):=uv;have vc:W1.drew.heap[N]?=tf (tA #[tt y.1,tm y.2] 32 (0,0)):=ud;have yy:R W1.drew:=ur _ ⟨by rw[<-hv];exact(rowAt ux 6 rfl).1,vc⟩;have vy:=zH vx;have we:=zH ur;have xp:=zH tG;have wg:=zH uc;have xr:=zH j;have yW:=zH ue;have xt:=zH ux;have xF:=zH vc;have A:=zH hv;have xT:=zH vp;clear h tG uc ud j ue up vx ur uv ux vc hv vp;go_enter func131,ntmps131
 go_upto_region 1 with(fail)
 rw[xp.out];refine aj 13 R (by kernel_rfl) ?_;have o:=zH λw h=>And.intro (vy.out w h) (Gv (vy.out w h).2);refine zT 0 rfl o.out ?_;(try go_simp);refine zT 1 rfl o.out ?_;(try go_simp);refine zT 2 rfl o.out ?_;(try go_simp);refine zT 3 rfl o.out ?_;(try go_simp);refine zT 4 rfl o.out ?_;(try go_simp);refine zT 5 rfl o.out ?_;(try go_simp);refine zT 6 rfl o.out ?_;(try go_simp);refine zT 7 rfl o.out ?_;(try go_simp);refine zO 8 rfl λK' x=> ?_;go_simp;obtain⟨G,W⟩:=zE W1.heap.size;obtain⟨W8,tM⟩:=zE ((W1.alloc (tA #[tt y.1,tm y.2,Z U 0] 34)).drew);(try rw[W]);(try rw[tM]);have tP:aE G W1 W8:=by rw[<-tM,<-W];exact((aq _ _).alloc (cd _) _).drew
 have wj:W8.heap[G]?=tf (tA #[tt y.1,tm y.2,Z U 0] 34 (0,0)):=by rw[<-tM,<-W];exact alloc_at _ _
 have tR:=(tP.block m (by omega)).trans xt.out;have vd:=(tP.block N (by omega)).trans xF.out;refine x _ _ (we.out _ ⟨by rw[<-A.out];exact(rowAt tR 6 rfl).1,vd⟩) ?_;clear x;(try go_simp);refine zO 9 rfl λK' x=> ?_;have tS:Ext (λ_=>lj) W1 W8:=Ext.of_below_size (by rw[W];exact tP);have d:Mk m p L X V I S O s W8:=xr.out.ext tS (λ_ _ h=>h) (λ_ _ h=>h) (λ_ _ _ h=>h);have vf:=d.vars;rw[A.out] at vf;have zc:=ae tR;refine aG (.tmp 10) (.tmp 13) 30 rfl (m+1) 34 i0 _ 3 32 underlying30 vq vr vt vu rfl (by decide) v V.length _ rfl vf (tf ⟨G,0,th⟩) 1 1 [tt y.1,tm y.2,Z U 0] rfl rfl (λh=>by cases h) (λad ya jj uu hu=>by
  obtain rfl:(⟨G,0,th⟩:fg)=ad:=by simpa using ya
  rw[cU,cI,bt _ _ _ _ _ _ wj];simpa using hu) (by simp[cn]) (by unfold du;omega) (by omega) (by omega) ?_
 intro v9 w9 tD wk wl;have tU:Ext (λq=>v.ownBlock=tf q) W8 w9:=Ext.of_grown wk (λq g=> .inl g);have u:∀q,v.ownBlock=tf q->O q:=λq g=>d.ov q (by rw[A.out];exact g);have tE:=tU.heap tR (λg=>by have:=(d.ol _ (u _ g)).1;omega);have ws:=tU.heap vd (λg=>by have:=xT.out _ (u _ g);omega);obtain⟨z,c9,yb⟩:=aC tD;subst yb;have xf:R w9:=we.out _ ⟨by rw[<-A.out];exact(rowAt tE 6 rfl).1,ws⟩;have yd:=(rowAt tE 6 rfl).2;have ye:w9.cell? ⟨m,6,th⟩=tf v:=by rw[<-A.out];exact(rowAt tE 6 rfl).1
 refine x _ _ xf ?_;clear x;(try go_simp);refine zT 10 rfl o.out ?_;(try go_simp);refine zT 11 rfl o.out ?_;(try go_simp);refine zT 12 rfl o.out ?_;(try go_simp);refine zK rfl λK' x=> ?_;go_simp;refine x _ _ ?_;clear x;refine⟨by kernel_rfl, ?_⟩;obtain⟨WF,tW⟩:=zE (w9.setCell ⟨m,6,th⟩ (tn z (V.length+1) c9));(try rw[tW]);have ua:Ext (·=m) w9 WF:=by rw[<-tW];exact Ext.set1 w9 m 6 _
 have vh:WF.heap[m]?=tf (tA (Ff p X {s with vA:=z,vC:=c9} (V.length+1) I.length S.length) 236 (0,0)):=by rw[<-tW];exact bk w9 m 6 _ _ _ tE
 have E:Ext (λq=>q=m\/v.ownBlock=tf q) W8 WF:=(tU.mono (λq h=> .inr h)).trans ua (λq h=> .inl (.inl h));have xj:Ext (λq=>q=m\/v.ownBlock=tf q) W1 WF:=(tS.mono (λq h=>h.elim)).trans E (λq h=> .inl h);have J:(V++[y]).length=V.length+1:=by simp
 have ub:∀k,(cv z (V.length+1) c9).ownBlock=tf k->v.ownBlock=tf k\/W8.heap.size<=k:=wl;have xl:∀k,(cv z (V.length+1) c9).ownBlock=tf k->k<WF.heap.size:=λk f=>cD (tD.lt k f).2 ua.size;have vm:∀k,(cv z (V.length+1) c9).ownBlock=tf k->m+1<=k:=λk f=>(tD.lt k f).1;have xo:dz m p L X (V++[y]) I S O w WF:=by
  refine⟨λq=>O q\/(cv z (V.length+1) c9).ownBlock=tf q,{s with vA:=z,vC:=c9}, ?_, ?_,λk f=> ?_⟩
  ·refine⟨by rw[J];exact vh,d.pg.ext E (λk f g=> ?_),d.hm, ?_,ah d.ins E (λk f g=> ?_),λk j K=> ?_,λk f=> ?_,λk f=> ?_,λk f=> ?_,d.seen.stay E (λa t e g=> ?_),d.whic.stay E (λa t e g=> ?_),λa t e=>⟨(d.ns a t e).1,λg=> ?_⟩,by rw[J];omega,d.lI,d.lS,d.cS⟩
   ·have:=d.hm
    rcases g with h|h
    ·omega
    ·have:=(d.ol _ (u _ h)).1;omega
   ·rw[J,fS];exact ah tD ua (λk f e=>by have:=vm k f;omega)
   ·rcases g with h|h
    ·have:=(d.ol k (d.oi k f)).1;omega
    ·exact d.dis k (by rw[A.out];exact h) f
   ·rw[J] at j
    rcases ub k j with h|h
    ·exact d.dis k (by rw[A.out];exact h) K
    ·have:=(d.ol k (d.oi k K)).2;omega
   ·rw[J] at f;exact .inr f
   ·exact .inl (d.oi k f)
   ·rcases f with h|h
    ·exact⟨(d.ol k h).1,cD (d.ol k h).2 E.size⟩
    ·exact⟨vm k h,xl k h⟩
   ·rcases g with h|h
    ·exact(d.ns a t (.inl e)).1 h
    ·exact(d.ns a t (.inl e)).2 (u _ h)
   ·rcases g with h|h
    ·exact(d.ns a t (.inr e)).1 h
    ·exact(d.ns a t (.inr e)).2 (u _ h)
   ·rcases g with h|h
    ·exact(d.ns a t e).2 h
    ·rcases ub _ h with h|h
     ·exact(d.ns a t e).2 (u _ h)
     ·have zd:a.block<W8.heap.size:=by
       rcases e with e|e
       ·obtain⟨b,yi,j,K,_⟩:=d.seen t
        rw[e] at j;cases j;exact K
       ·obtain⟨b,yi,j,K,_⟩:=d.whic t
        rw[e] at j;cases j;exact K
      omega
  ·have yk:Ext (λ_=>lj) w W1:=Ext.of_below_size (by rw[hN];exact wg.out)
   exact(yk.mono (λq h=>h.elim)).trans xj (λq h=>by
    rcases h with h|h
    ·exact .inl (.inl h)
    ·exact .inl (.inr (u _ h)))
  ·rcases f with h|h
   ·exact .inl h
   ·rcases ub k h with h|h
    ·exact .inl (u _ h)
    ·right;have:=tS.size;have:=wg.out.size;omega
 have yp:=zH xo;have cF:WF.cell? ⟨m,6,th⟩=tf (tn z (V.length+1) c9):=(rowAt vh 6 rfl).1;have zj:=zH J;have zp:(((V.length+1:bj):aw))-1=(V.length:aw):=by omega
 clear tW ua E xj ub xl vm xo vh tD wk wl tU u tE ws xf yd ye d vf tR vd tS tP wj tM W vq vr vt vu;go_wp2;go_ret;exact⟨by go_num,yp.out⟩
theorem iH {m:bj}{p:Pg}{L:bj}{X:Fx}{V:bp Ty}{I:bp fU}{S:bp (bl×bj)}{O:bj->Prop}{s:Sl}(i:fU)(w:World)(h:Mk m p L X V I S O s w)(hl:I.length+1<=1000):
  fj am 223 #[tr (tf ⟨m,0,th⟩),tv #[Z U i.op,Z U i.d,Z U i.a,Z U 0,Z U i.f,Z U i.n,tm ⟨#[]⟩,tn th 0 0,tn th 0 0,Z U 0,Z U 0,Z U i.ln,Z U i.cl]] w λe w'=>e= tB (Z U (I.length:aw))/\dz m p L X V (I++[i]) S O w w':=by
 obtain⟨N,hN⟩:=zE w.heap.size;obtain⟨W1,tG⟩:=zE (w.alloc (tA #[Z U i.op,Z U i.d,Z U i.a,Z U 0,Z U i.f,Z U i.n,tm ⟨#[]⟩,tn th 0 0,tn th 0 0,Z U 0,Z U 0,Z U i.ln,Z U i.cl] 42));have uc:=ik tG hN;have ud:W1.heap[N]?=tf (tA #[Z U i.op,Z U i.d,Z U i.a,Z U 0,Z U i.f,Z U i.n,tm ⟨#[]⟩,tn th 0 0,tn th 0 0,Z U 0,Z U 0,Z U i.ln,Z U i.cl] 42 (0,0)):=by rw[<-tG,<-hN];exact alloc_at _ _
 have yq:=ae ud;have t:Mk m p L X V I S O s W1:=h.grow (by rw[hN];exact uc);have yr:m<N:=by have:=ae h.row;omega
 have vp:∀k,O k->k<N:=λk j=>by have:=(h.ol k j).2;omega
 obtain⟨v,hv⟩:=zE (cv s.iA I.length s.iC);have ue:=t.ins;rw[hv] at ue;obtain⟨i0,vq,vr,vt,vu⟩:=m6 Ec;obtain⟨W,up⟩:=zE ((λw'=>w'.cell? ⟨m,11,th⟩=tf v/\w'.heap[N]?=tf (tA #[Z U i.op,Z U i.d,Z U i.a,Z U 0,Z U i.f,Z U i.n,tm ⟨#[]⟩,tn th 0 0,tn th 0 0,Z U 0,Z U 0,Z U i.ln,Z U i.cl] 42 (0,0))):World->Prop);have vx:∀w,W w->w.cell? ⟨m,11,th⟩=tf v/\w.heap[N]?=tf (tA #[Z U i.op,Z U i.d,Z U i.a,Z U 0,Z U i.f,Z U i.n,tm ⟨#[]⟩,tn th 0 0,tn th 0 0,Z U 0,Z U 0,Z U i.ln,Z U i.cl] 42 (0,0)):=λw h=>by rw[<-up] at h;exact h
 have ur:∀w,w.cell? ⟨m,11,th⟩=tf v/\w.heap[N]?=tf (tA #[Z U i.op,Z U i.d,Z U i.a,Z U 0,Z U i.f,Z U i.n,tm ⟨#[]⟩,tn th 0 0,tn th 0 0,Z U 0,Z U 0,Z U i.ln,Z U i.cl] 42 (0,0))->W w:=λw h=>by rw[<-up];exact h
 have uv:=t.row;have yv:=ae uv;have ux:W1.drew.heap[m]?=tf (tA (Ff p X s V.length I.length S.length) 236 (0,0)):=uv;have vc:W1.drew.heap[N]?=tf (tA #[Z U i.op,Z U i.d,Z U i.a,Z U 0,Z U i.f,Z U i.n,tm ⟨#[]⟩,tn th 0 0,tn th 0 0,Z U 0,Z U 0,Z U i.ln,Z U i.cl] 42 (0,0)):=ud;have yy:W W1.drew:=ur _ ⟨by rw[<-hv];exact(rowAt ux 11 rfl).1,vc⟩;have vy:=zH vx;have we:=zH ur;have xp:=zH tG;have wg:=zH uc;have xr:=zH t;have yW:=zH ue;have xt:=zH ux;have xF:=zH vc;have E:=zH hv;have xT:=zH vp;clear h tG uc ud t ue up vx ur uv ux vc hv vp;go_enter func223,ntmps223
 go_upto_region 1 with(fail)
 rw[xp.out];refine aj 12 W (by kernel_rfl) ?_;have x:=zH λw h=>And.intro (vy.out w h) (Gb (vy.out w h).2);refine zT 0 rfl x.out ?_;(try go_simp);refine zT 1 rfl x.out ?_;(try go_simp);refine zT 2 rfl x.out ?_;(try go_simp);refine zT 3 rfl x.out ?_;(try go_simp);refine zT 4 rfl x.out ?_;(try go_simp);refine zT 5 rfl x.out ?_;(try go_simp);refine zT 6 rfl x.out ?_;(try go_simp);refine zO 7 rfl λK' z=> ?_;go_simp;obtain⟨G,hG⟩:=zE W1.heap.size;obtain⟨W8,tM⟩:=zE ((W1.alloc (tA #[Z U i.op,Z U i.d,Z U i.a,Z U 0,Z U i.f,Z U i.n,tm ⟨#[]⟩,tn th 0 0,tn th 0 0,Z U 0,Z U 0,Z U i.ln,Z U i.cl] 42)).drew);(try rw[hG]);(try rw[tM]);have tP:aE G W1 W8:=by rw[<-tM,<-hG];exact((aq _ _).alloc (cd _) _).drew
 have wj:W8.heap[G]?=tf (tA #[Z U i.op,Z U i.d,Z U i.a,Z U 0,Z U i.f,Z U i.n,tm ⟨#[]⟩,tn th 0 0,tn th 0 0,Z U 0,Z U 0,Z U i.ln,Z U i.cl] 42 (0,0)):=by rw[<-tM,<-hG];exact alloc_at _ _
 have tR:=(tP.block m (by omega)).trans xt.out;have vd:=(tP.block N (by omega)).trans xF.out;refine z _ _ (we.out _ ⟨by rw[<-E.out];exact(rowAt tR 11 rfl).1,vd⟩) ?_;clear z;(try go_simp);refine zO 8 rfl λK' z=> ?_;have tS:Ext (λ_=>lj) W1 W8:=Ext.of_below_size (by rw[hG];exact tP);have g:Mk m p L X V I S O s W8:=xr.out.ext tS (λ_ _ h=>h) (λ_ _ h=>h) (λ_ _ _ h=>h);have vf:=g.ins;rw[E.out] at vf;have zc:=ae tR;refine aG (.tmp 10) (.tmp 12) 36 rfl (m+1) 42 i0 _ 13 144 underlying36 vq vr vt vu rfl (by decide) v I.length _ rfl vf (tf ⟨G,0,th⟩) 1 1 [Z U i.op,Z U i.d,Z U i.a,Z U 0,Z U i.f,Z U i.n,tm ⟨#[]⟩,tn th 0 0,tn th 0 0,Z U 0,Z U 0,Z U i.ln,Z U i.cl] rfl rfl (λh=>by cases h) (λad ya jj uu hu=>by
  obtain rfl:(⟨G,0,th⟩:fg)=ad:=by simpa using ya
  rw[cU,cI,bt _ _ _ _ _ _ wj];simpa using hu) (by simp[cn]) (by unfold du;omega) (by omega) (by omega) ?_
 intro v9 w9 tD wk wl;have tU:Ext (λq=>v.ownBlock=tf q) W8 w9:=Ext.of_grown wk (λq o=> .inl o);have y:∀q,v.ownBlock=tf q->O q:=λq o=>g.oi q (by rw[E.out];exact o);have tE:=tU.heap tR (λo=>by have:=(g.ol _ (y _ o)).1;omega);have ws:=tU.heap vd (λo=>by have:=xT.out _ (y _ o);omega);obtain⟨A,c9,yb⟩:=aC tD;subst yb;have xf:W w9:=we.out _ ⟨by rw[<-E.out];exact(rowAt tE 11 rfl).1,ws⟩;have yd:=(rowAt tE 11 rfl).2;have ye:w9.cell? ⟨m,11,th⟩=tf v:=by rw[<-E.out];exact(rowAt tE 11 rfl).1
 refine z _ _ xf ?_;clear z;(try go_simp);refine zT 9 rfl x.out ?_;(try go_simp);refine zT 10 rfl x.out ?_;(try go_simp);refine zT 11 rfl x.out ?_;(try go_simp);refine zK rfl λK' z=> ?_;go_simp;refine z _ _ ?_;clear z;refine⟨by kernel_rfl, ?_⟩;obtain⟨WF,tW⟩:=zE (w9.setCell ⟨m,11,th⟩ (tn A (I.length+1) c9));(try rw[tW]);have ua:Ext (·=m) w9 WF:=by rw[<-tW];exact Ext.set1 w9 m 11 _
 have vh:WF.heap[m]?=tf (tA (Ff p X {s with iA:=A,iC:=c9} V.length (I.length+1) S.length) 236 (0,0)):=by rw[<-tW];exact bk w9 m 11 _ _ _ tE
 have J:Ext (λq=>q=m\/v.ownBlock=tf q) W8 WF:=(tU.mono (λq h=> .inr h)).trans ua (λq h=> .inl (.inl h));have xj:Ext (λq=>q=m\/v.ownBlock=tf q) W1 WF:=(tS.mono (λq h=>h.elim)).trans J (λq h=> .inl h);have K:(I++[i]).length=I.length+1:=by simp
 have ub:∀k,(cv A (I.length+1) c9).ownBlock=tf k->v.ownBlock=tf k\/W8.heap.size<=k:=wl;have xl:∀k,(cv A (I.length+1) c9).ownBlock=tf k->k<WF.heap.size:=λk j=>cD (tD.lt k j).2 ua.size;have vm:∀k,(cv A (I.length+1) c9).ownBlock=tf k->m+1<=k:=λk j=>(tD.lt k j).1;have xo:dz m p L X V (I++[i]) S O w WF:=by
  refine⟨λq=>O q\/(cv A (I.length+1) c9).ownBlock=tf q,{s with iA:=A,iC:=c9}, ?_, ?_,λk j=> ?_⟩
  ·refine⟨by rw[K];exact vh,g.pg.ext J (λk j o=> ?_),g.hm,ah g.vars J (λk j o=> ?_), ?_,λk t R=> ?_,λk j=> ?_,λk j=> ?_,λk j=> ?_,g.seen.stay J (λa u e o=> ?_),g.whic.stay J (λa u e o=> ?_),λa u e=>⟨(g.ns a u e).1,λo=> ?_⟩,g.lV,by rw[K];omega,g.lS,g.cS⟩
   ·have:=g.hm
    rcases o with h|h
    ·omega
    ·have:=(g.ol _ (y _ h)).1;omega
   ·rcases o with h|h
    ·have:=(g.ol k (g.ov k j)).1;omega
    ·exact g.dis k j (by rw[E.out];exact h)
   ·rw[K,fS];exact ah tD ua (λk j e=>by have:=vm k j;omega)
   ·rw[K] at R
    rcases ub k R with h|h
    ·exact g.dis k t (by rw[E.out];exact h)
    ·have:=(g.ol k (g.ov k t)).2;omega
   ·exact .inl (g.ov k j)
   ·rw[K] at j;exact .inr j
   ·rcases j with h|h
    ·exact⟨(g.ol k h).1,cD (g.ol k h).2 J.size⟩
    ·exact⟨vm k h,xl k h⟩
   ·rcases o with h|h
    ·exact(g.ns a u (.inl e)).1 h
    ·exact(g.ns a u (.inl e)).2 (y _ h)
   ·rcases o with h|h
    ·exact(g.ns a u (.inr e)).1 h
    ·exact(g.ns a u (.inr e)).2 (y _ h)
   ·rcases o with h|h
    ·exact(g.ns a u e).2 h
    ·rcases ub _ h with h|h
     ·exact(g.ns a u e).2 (y _ h)
     ·have zd:a.block<W8.heap.size:=by
       rcases e with e|e
       ·obtain⟨b,yi,t,R,_⟩:=g.seen u
        rw[e] at t;cases t;exact R
       ·obtain⟨b,yi,t,R,_⟩:=g.whic u
        rw[e] at t;cases t;exact R
      omega
  ·have yk:Ext (λ_=>lj) w W1:=Ext.of_below_size (by rw[hN];exact wg.out)
   exact(yk.mono (λq h=>h.elim)).trans xj (λq h=>by
    rcases h with h|h
    ·exact .inl (.inl h)
    ·exact .inl (.inr (y _ h)))
  ·rcases j with h|h
   ·exact .inl h
   ·rcases ub k h with h|h
    ·exact .inl (y _ h)
    ·right;have:=tS.size;have:=wg.out.size;omega
 have yp:=zH xo;have cF:WF.cell? ⟨m,11,th⟩=tf (tn A (I.length+1) c9):=(rowAt vh 11 rfl).1;have zj:=zH K;have zp:(((I.length+1:bj):aw))-1=(I.length:aw):=by omega
 clear tW ua J xj ub xl vm xo vh tD wk wl tU y tE ws xf yd ye g vf tR vd tS tP wj tM hG vq vr vt vu;go_wp2;go_ret;exact⟨by go_num,yp.out⟩
theorem AX {S:bp (bl×bj)}{nm:bl}{j i:bj}{x:bl×bj}(e:S[j]?=tf x)(f:(x.1==nm)=ti)(g:∀q y,j<q->S[q]?=tf y->(y.1==nm)=tj)(hi:j<=i){y:bl×bj}(d:S[i]?=tf y):
  (i=j/\y=x/\(y.1.toList==nm.toList)=ti)\/(j<i/\(y.1.toList==nm.toList)=tj):=by
 rcases Nat.lt_or_eq_of_le hi with h|h
 ·exact .inr ⟨h,by rw[<-fx];exact g i y h d⟩
 ·subst h
  rw[e] at d;cases d;exact .inl ⟨rfl,rfl,by rw[<-fx];exact f⟩
theorem wZ {m:bj}{p:Pg}{L:bj}{X:Fx}{V:bp Ty}{I:bp fU}{S:bp (bl×bj)}{O:bj->Prop}{s:Sl}(nm:bl)(j:bj)(x:bl×bj)(f:S[j]?=tf x)(u:(x.1==nm)=ti)(v:∀q y,j<q->S[q]?=tf y->(y.1==nm)=tj)(w:World)(h:Mk m p L X V I S O s w):
  zS 218 #[tr (tf ⟨m,0,th⟩),tm nm] w (Z U (x.2:aw)):=by
 have z:S≠[]:=by intro e;rw[e] at f;simp at f
 obtain⟨b,J,A,hb,E⟩:=h.seen z;obtain⟨K,R,hA2,tD,G⟩:=h.whic z;have tE:w.cell? ⟨m,12,th⟩=tf (tn (tf ⟨b,J,th⟩) S.length s.sC):=by rw[<-A];exact(rowAt h.row 12 rfl).1
 have tG:w.cell? ⟨m,13,th⟩=tf (tn (tf ⟨K,R,th⟩) S.length s.wC):=by rw[<-hA2];exact(rowAt h.row 13 rfl).1
 have hm:=ae h.row;have tM:=h.lS;have tP:j<S.length:=(bo.1 f).1;have g:=zH E;have o:=zH G;have t:cg (∀i y,j<=i->S[i]?=tf y->(i=j/\y=x/\(y.1.toList==nm.toList)=ti)\/(j<i/\(y.1.toList==nm.toList)=tj)):=λi y hi d=>AX f u v hi d;clear h E G f u v A hA2;go_enter func218,ntmps218;go_wp2
 go_loop [5] (λk=>∃i:bj,k= Z U (i:aw)/\j<=i/\i<S.length) (λk=>(dp k).toNat)
 case atStart=>exact⟨S.length-1,by rw[show((S.length-1:bj):aw)=(S.length:aw)-1 by omega],by omega,by omega⟩
 case round=>
  obtain⟨i,rfl,W,hi⟩:=hrel;have tR:(i:aw)<(S.length:aw):=by omega
  obtain⟨y,d⟩:∃y,S[i]?=tf y:=⟨_,ap hi⟩
  have k0:=g.out i y d 0 _ rfl;have k1:=o.out i y d 0 _ rfl;rw[i7,Nat.mul_one] at k0 k1;rcases t.out i y W d with⟨rfl,rfl,ht⟩|⟨tS,ht⟩
  ·clear t g o d
   go_wp2;go_ret;exact⟨rfl,rfl⟩
  ·clear t g o d
   go_wp2
   go_round
   case rel=>exact⟨i-1,by rw[show((i-1:bj):aw)=(i:aw)-1 by omega],by omega,by omega⟩
   case measure=>simp[dp];omega
def Ao (x:aw)(V:bp Ty):aw:=if 0<=x then x else V.length
def Ed (x:aw)(V:bp Ty)(y:Ty):bp Ty:=if 0<=x then V else V++[y]
theorem Mk.same {m:bj}{p:Pg}{L:bj}{X:Fx}{V:bp Ty}{I:bp fU}{S:bp (bl×bj)}{O:bj->Prop}{s:Sl}{w w':World}(h:Mk m p L X V I S O s w)(hb:aE w.heap.size w w'):dz m p L X V I S O w w':=
 ⟨O,s,h.grow hb,(Ext.of_below_size (M:=λ_=>lj) hb).mono (λ_ h=>h.elim),λ_ h=> .inl h⟩
theorem dz.below {m:bj}{p:Pg}{L:bj}{X:Fx}{V:bp Ty}{I:bp fU}{S:bp (bl×bj)}{O:bj->Prop}{w d w2:World}(hb:aE w.heap.size w d)(h:dz m p L X V I S O d w2):dz m p L X V I S O w w2:=
 dz.trans ((Ext.of_below_size (M:=λ_=>lj) hb).mono (λ_ h=>h.elim)) (λ_ h=> .inl h) h
theorem rQ {m:bj}{p:Pg}{L:bj}{X:Fx}{V:bp Ty}{I:bp fU}{S:bp (bl×bj)}{O:bj->Prop}{s:Sl}(x:aw)(y:Ty)(w:World)(h:Mk m p L X V I S O s w)(v:V.length+1<=1000):
  fj am 246 #[tr (tf ⟨m,0,th⟩),Z U x,tv #[tt y.1,tm y.2]] w λe w'=>e= tB (Z U (Ao x V))/\dz m p L X (Ed x V y) I S O w w':=by
 obtain⟨N,d⟩:=zE w.heap.size;obtain⟨W1,f⟩:=zE (w.alloc (tA #[tt y.1,tm y.2] 32));have g:=ik f d;have o:W1.heap[N]?=tf (tA #[tt y.1,tm y.2] 32 (0,0)):=by rw[<-f,<-d];exact alloc_at _ _
 have q:Mk m p L X V I S O s W1:=h.grow (by rw[d];exact g);have z:=zH (mr y W1 q v);have A:cg (dz m p L X V I S O w W1):=h.same (by rw[d];exact g);have E:cg (aE w.heap.size w W1):=by rw[d];exact g
 obtain⟨⟨t0,t1⟩,⟨J,K⟩,R⟩:=bZ o;have t:=zH f;unfold Ao Ed;clear h f g o q
 by_cases j:0<=x
 ·rw[cH j,cH j]
  go_enter func246,ntmps246
  go_upto_region 1 with(fail)
  rw[t.out];go_wp2;go_ret;exact⟨rfl,A.out⟩
 ·rw[bw j,bw j]
  have W:x<0:=by omega
  go_enter func246,ntmps246
  go_upto_region 1 with(fail)
  rw[t.out]
  go_wp2_with (go_at_call 131;refine z.out.mono ?_;rintro e w2 ⟨rfl,u⟩;have G:=zH (u.below E.out);clear u)
  go_ret;exact⟨rfl,G.out⟩
theorem yM {m:bj}{p:Pg}{L:bj}{X:Fx}{V:bp Ty}{I:bp fU}{S:bp (bl×bj)}{O:bj->Prop}{s:Sl}(n:aw)(nm:bl)(d f:aw)(u:Ty)(x:aw)(w:World)(h:Mk m p L X V I S O s w)(tM:V.length+1<=1000)(tP:I.length+1<=1000):
  fj am 217 #[tr (tf ⟨m,0,th⟩),tv #[Z U 1,Z U n,tm nm,tm ⟨#[]⟩,tn th 0 0,Z U d,Z U f],tv #[tt u.1,tm u.2],Z U x] w λe w'=>e= tB (Z U (Ao x V))/\dz m p L X (Ed x V bG) (I++[⟨1,Ao x V,0,0,n,d,f⟩]) S O w w':=by
 obtain⟨N,j⟩:=zE w.heap.size;obtain⟨o,t⟩:=zE ((w.alloc (tA #[Z U 1,Z U n,tm nm,tm ⟨#[]⟩,tn th 0 0,Z U d,Z U f] 313)).alloc (tA #[tt u.1,tm u.2] 32));obtain⟨g,q⟩:=zE (o.alloc (tA #[tt tj,tm ⟨#[]⟩] 32));have E:=vg t j;have v:o.heap.size=N+2:=by rw[<-t];simp[j]
 have y:aE N w g:=by rw[<-q];exact E.alloc (by omega) _
 have G:g.heap.size=N+3:=by rw[<-q];simp[v]
 have z:g.heap[N]?=tf (tA #[Z U 1,Z U n,tm nm,tm ⟨#[]⟩,tn th 0 0,Z U d,Z U f] 313 (0,0)):=by
  rw[<-q];refine(cE _ _ N (by omega)).trans ?_;rw[<-t,<-j];exact i8 _ _ _
 have J:g.heap[N+2]?=tf (tA #[tt tj,tm ⟨#[]⟩] 32 (0,0)):=by rw[<-q,<-v];exact alloc_at _ _
 have K:Mk m p L X V I S O s g:=h.grow (by rw[j];exact y);have ux:m<N:=by have:=ae h.row;omega
 have R:¬(N=m\/O N):=by rintro(h1|h1);omega;have:=(h.ol N h1).2;omega
 have hst:∀(c:dl cw),c.size=2->(dd ⟨o.heap.size,0,th⟩ [tt tj,tm ⟨#[]⟩] 0).run am (o.alloc (tA c 32))= .ok () (o.alloc (tA #[tt tj,tm ⟨#[]⟩] 32)):=λc hc=>
  cr (P:=am) o 32 c #[tt tj,tm ⟨#[]⟩] (by show _=tf 2;kernel_rfl) hc (by simp[cn])
 have W:aE w.heap.size w g:=by rw[j];exact y
 have tR:=zH hst;have tS:=zH t;have tU:=zH q;have tW:=zH W;have ua:=zH z;have ub:=zH R;have vc:=zH G;have vd:=zH j;have uc:=zH (rQ x bG g K tM);clear h t q E y G K hst W R;go_enter func217,ntmps217
 go_upto_region 1 with(fail)
 rw[tS.out];have ud:=tR.out
 go_upto_region 2 with(fail)
 rw[tU.out];(try simp only[v]);clear ud;obtain⟨⟨a0,a1,a2,a3,a4,a5,a6⟩,_,vf⟩:=ed z;obtain⟨⟨e0,e1⟩,_,vh⟩:=bZ J;clear z J
 go_upto_region 5 with(go_at_call 246;refine uc.out.mono ?_;rintro e w4 ⟨rfl,tD⟩;have ue:=zH tD;clear tD)
 obtain⟨O4,s4,k4,A,o4⟩:=ue.out;have tE:=A.heap ua.out ub.out;obtain⟨⟨b0,b1,b2,b3,b4,b5,b6⟩,_,vm⟩:=ed tE;have up:=zH (iH ⟨1,Ao x V,0,0,n,d,f⟩ w4 k4 tP);have ur:cg (∀w5,dz m p L X (Ed x V bG) (I++[⟨1,Ao x V,0,0,n,d,f⟩]) S O4 w4 w5->dz m p L X (Ed x V bG) (I++[⟨1,Ao x V,0,0,n,d,f⟩]) S O w w5):=λw5 h5=>(dz.trans A o4 h5).below tW.out;clear k4 A o4 tE a0 a1 a2 a3 a4 a5 a6 e0 e1
 go_wp2_with (go_at_call 223;refine up.out.mono ?_;rintro e w5 ⟨rfl,tG⟩;have uv:=zH (ur.out _ tG);clear tG)
 go_ret;exact⟨rfl,uv.out⟩
theorem yN {m:bj}{p:Pg}{L:bj}{X:Fx}{V:bp Ty}{I:bp fU}{S:bp (bl×bj)}{O:bj->Prop}{s:Sl}(n:aw)(nm:bl)(j o:aw)(J:Ty)(x:aw)(w:World)(h:Mk m p L X V I S O s w)(ux:V.length+1<=1000)(vc:I.length+1<=1000):
  fj am 217 #[tr (tf ⟨m,0,th⟩),tv #[Z U 7,Z U n,tm nm,tm ⟨#[]⟩,tn th 0 0,Z U j,Z U o],tv #[tt J.1,tm J.2],Z U x] w λe w'=>e= tB (Z U (Ao x V))/\dz m p L X (Ed x V (ti,nm)) (I++[⟨12,Ao x V,0,nJ p nm,0,j,o⟩]) S O w w':=by
 obtain⟨N,u⟩:=zE w.heap.size;obtain⟨v,z⟩:=zE ((w.alloc (tA #[Z U 7,Z U n,tm nm,tm ⟨#[]⟩,tn th 0 0,Z U j,Z U o] 313)).alloc (tA #[tt J.1,tm J.2] 32));obtain⟨q,y⟩:=zE (v.alloc (tA #[tt tj,tm ⟨#[]⟩] 32));have tU:=vg z u;have R:v.heap.size=N+2:=by rw[<-z];simp[u]
 have tD:aE N w q:=by rw[<-y];exact tU.alloc (by omega) _
 have tW:q.heap.size=N+3:=by rw[<-y];simp[R]
 have tE:q.heap[N]?=tf (tA #[Z U 7,Z U n,tm nm,tm ⟨#[]⟩,tn th 0 0,Z U j,Z U o] 313 (0,0)):=by
  rw[<-y];refine(cE _ _ N (by omega)).trans ?_;rw[<-z,<-u];exact i8 _ _ _
 have ua:q.heap[N+2]?=tf (tA #[tt tj,tm ⟨#[]⟩] 32 (0,0)):=by rw[<-y,<-R];exact alloc_at _ _
 have h3:Mk m p L X V I S O s q:=h.grow (by rw[u];exact tD);have wl:m<N:=by have:=ae h.row;omega
 have ub:¬(N=m\/O N):=by rintro(h1|h1);omega;have:=(h.ol N h1).2;omega
 have hst:∀(c:dl cw),c.size=2->(dd ⟨v.heap.size,0,th⟩ [tt tj,tm ⟨#[]⟩] 0).run am (v.alloc (tA c 32))= .ok () (v.alloc (tA #[tt tj,tm ⟨#[]⟩] 32)):=λc hc=>
  cr (P:=am) v 32 c #[tt tj,tm ⟨#[]⟩] (by show _=tf 2;kernel_rfl) hc (by simp[cn])
 have uc:aE w.heap.size w q:=by rw[u];exact tD
 have vd:=zH hst;have vf:=zH z;have vh:=zH y;have vm:=zH uc;have vp:=zH tE;have vq:=zH ub;have ws:=zH tW;have xf:=zH u;have vr:=zH (rQ x (ti,nm) q h3 ux);clear h z y tU tD tW h3 hst uc ub;go_enter func217,ntmps217
 go_upto_region 1 with(fail)
 rw[vf.out];have vt:=vd.out
 go_upto_region 2 with(fail)
 rw[vh.out];(try simp only[R]);clear vt;obtain⟨⟨a0,a1,a2,a3,a4,a5,a6⟩,_,xj⟩:=ed tE;obtain⟨⟨e0,e1⟩,_,xl⟩:=bZ ua;clear tE ua
 go_upto_region 33 with(go_at_call 246;refine vr.out.mono ?_;rintro e f ⟨rfl,K⟩;have vu:=zH K;clear K)
 obtain⟨O4,s4,A,x4,o4⟩:=vu.out;have tG:=x4.heap vp.out vq.out;have vx:=ae tG;have K:=ae A.row;have ud:∀W,aE f.heap.size f W->W.cell? ⟨N,0,th⟩=tf (Z U 7)/\W.cell? ⟨N,1,th⟩=tf (Z U n)/\W.cell? ⟨N,2,th⟩=tf (tm nm)/\W.cell? ⟨N,3,th⟩=tf (tm ⟨#[]⟩)/\W.cell? ⟨N,4,th⟩=tf (tn th 0 0)/\W.cell? ⟨N,5,th⟩=tf (Z U j)/\W.cell? ⟨N,6,th⟩=tf (Z U o)/\W.cell? ⟨m,0,th⟩=tf (tn (tf ⟨p.pA,0,th⟩) 1 p.pC)/\W.cell? ⟨m,1,th⟩=tf (tn (tf ⟨p.qA,0,th⟩) 1 p.qC):=λW t=>by
  have r1:=(t.block N vx).trans tG;have r2:=(A.grow t).row;exact⟨(rowAt r1 0 rfl).1,(rowAt r1 1 rfl).1,(rowAt r1 2 rfl).1,(rowAt r1 3 rfl).1,(rowAt r1 4 rfl).1,(rowAt r1 5 rfl).1,(rowAt r1 6 rfl).1,(rowAt r2 0 rfl).1,(rowAt r2 1 rfl).1⟩
 have ue:∀W,aE f.heap.size f W->zP 212 #[tv #[tn (tf ⟨p.pA,0,th⟩) 1 p.pC,tn (tf ⟨p.qA,0,th⟩) 1 p.qC],tm nm] W (Z U (nJ p nm)):=λW t=>fT nm W (A.grow t).pg;have vy:cg (∀W,aE f.heap.size f W->fj am 223 #[tr (tf ⟨m,0,th⟩),tv #[Z U 12,Z U (Ao x V),Z U 0,Z U 0,Z U (nJ p nm),Z U 0,tm ⟨#[]⟩,tn th 0 0,tn th 0 0,Z U 0,Z U 0,Z U j,Z U o]] W λe w'=>e= tB (Z U (I.length:aw))/\dz m p L X (Ed x V (ti,nm)) (I++[⟨12,Ao x V,0,nJ p nm,0,j,o⟩]) S O w w'):=λW t=>
  (iH ⟨12,Ao x V,0,nJ p nm,0,j,o⟩ W (A.grow t) vc).mono λe w5 h5=>⟨h5.1,(dz.trans x4 o4 (h5.2.below t)).below vm.out⟩
 have g:=zH ud;have we:=zH ue;obtain⟨E,tM⟩:=zE ((λw'=>aE f.heap.size f w'):World->Prop);have up:∀w,E w->aE f.heap.size f w:=λw h=>by rw[<-tM] at h;exact h
 have tP:∀w,aE f.heap.size f w->E w:=λw h=>by rw[<-tM];exact h
 have tR:E f.drew:=tP _ (aq _ _).drew;have d:=zH up;have wg:=zH tP;clear A x4 o4 tG ud ue tM up tP a0 a1 a2 a3 a4 a5 a6 e0 e1 K;refine aj 12 E (by kernel_rfl) ?_;refine zT 0 rfl (λw h=>g.out w (d.out w h)) ?_;(try go_simp);refine zT 1 rfl (λw h=>g.out w (d.out w h)) ?_;(try go_simp);refine zT 2 rfl (λw h=>g.out w (d.out w h)) ?_;(try go_simp);refine zT 3 rfl (λw h=>g.out w (d.out w h)) ?_;(try go_simp);refine zT 4 rfl (λw h=>g.out w (d.out w h)) ?_;(try go_simp);refine zT 5 rfl (λw h=>g.out w (d.out w h)) ?_;(try go_simp);refine zT 6 rfl (λw h=>g.out w (d.out w h)) ?_;(try go_simp);refine zT 7 rfl (λw h=>g.out w (d.out w h)) ?_;(try go_simp);refine zT 9 rfl (λw h=>g.out w (d.out w h)) ?_;(try go_simp);refine zT 10 rfl (λw h=>g.out w (d.out w h)) ?_;(try go_simp);refine zO 8 rfl λK' G=> ?_;go_simp;go_at_call 212;refine(we.out _ (d.out _ (by assumption))).mono ?_;rintro e w5 ⟨rfl,ur⟩;have tS:E w5:=wg.out _ ((d.out _ tR).trans (ur.mono (d.out _ tR).size));have wj:=zH tS;refine G _ _ tS ?_;clear G;(try go_simp);refine zT 11 rfl (λw h=>g.out w (d.out w h)) ?_;(try go_simp);refine zK rfl λK' G=> ?_;go_simp;go_at_call 223;refine(vy.out _ (d.out _ wj.out)).mono ?_;rintro e w6 ⟨rfl,uv⟩;refine G _ _ ?_;clear G;refine⟨by kernel_rfl, ?_⟩;have wk:=zH uv;clear uv ur tS tR;go_wp2;go_ret;exact⟨rfl,wk.out⟩
theorem AY {m:bj}{p:Pg}{L:bj}{X:Fx}{V:bp Ty}{I:bp fU}{S:bp (bl×bj)}{O:bj->Prop}{s:Sl}(tS:X.os= tn th 0 0)(K:ml)(R nm:bl)(g cp:bj)(x:Ex)(t:g<L/\∀(j:bj)(u:cw),x.cells.toList[j]?=tf u->∀W,jh p L W->W.cell? ⟨g,j,th⟩=tf u)(d:aw)(V2:bp Ty)(I2:bp fU)(ue:I2.length+1<=1000)
  (tU:∀W O s,Mk m p L X V I S O s W->fj am 217 #[tr (tf ⟨m,0,th⟩),tv x.cells,tv #[tt X.rt.1,tm X.rt.2],Z U (-1)] W λe w'=>e= tB (Z U d)/\dz m p L X V2 I2 S O W w')(ln cl:aw)(w:World)(h:Mk m p L X V I S O s w):
  fj am 180 #[tr (tf ⟨m,0,th⟩),tv #[Z U 8,tt K,tm R,tm nm,tn (tf ⟨g,0,th⟩) 1 cp,tn th 0 0,tn th 0 0,Z U ln,Z U cl]] w λe w'=>e= tB (.tuple #[])/\dz m p L X V2 (I2++[⟨18,0,d,0,0,ln,cl⟩]) S O w w':=by
 obtain⟨N,y⟩:=zE w.heap.size;obtain⟨W1,E⟩:=zE (w.alloc (tA #[Z U 8,tt K,tm R,tm nm,tn (tf ⟨g,0,th⟩) 1 cp,tn th 0 0,tn th 0 0,Z U ln,Z U cl] 282));have tD:=ik E y;have G:W1.heap[N]?=tf (tA #[Z U 8,tt K,tm R,tm nm,tn (tf ⟨g,0,th⟩) 1 cp,tn th 0 0,tn th 0 0,Z U ln,Z U cl] 282 (0,0)):=by rw[<-E,<-y];exact alloc_at _ _
 have vr:=ae G;have v:Mk m p L X V I S O s W1:=h.grow (by rw[y];exact tD);have tW:aE w.heap.size w W1:=by rw[y];exact tD
 have vt:=ae v.row;have vu:m<N:=by have:=ae h.row;omega
 have ua:¬(N=m\/O N):=by rintro(v|v);omega;have:=(h.ol N v).2;omega
 have up:W1.cell? ⟨m,15,th⟩=tf (Z U 0):=(rowAt v.row 15 rfl).1;have ur:W1.cell? ⟨m,19,th⟩=tf (tn th 0 0):=by rw[<-tS];exact(rowAt v.row 19 rfl).1
 obtain⟨⟨a0,a1,a2,a3,a4,a5,a6,a7,a8⟩,_,_⟩:=fe G;have uv:=zH E;have ux:=zH tW;have vc:=zH G;have vd:=zH ua;have vx:=zH y;obtain⟨z,tE⟩:=zE ((λw':World=>w'.cell? ⟨g,0,th⟩=tf (Z U x.kind)/\w'.cell? ⟨g,1,th⟩=tf (Z U x.n)/\w'.cell? ⟨g,2,th⟩=tf (tm x.nm)/\w'.cell? ⟨g,3,th⟩=tf (tm ⟨#[]⟩)/\w'.cell? ⟨g,4,th⟩=tf (tn th 0 0)/\w'.cell? ⟨g,5,th⟩=tf (Z U x.ln)/\w'.cell? ⟨g,6,th⟩=tf (Z U x.cl)/\w'.cell? ⟨m,2,th⟩=tf (tt X.rt.1)/\w'.cell? ⟨m,3,th⟩=tf (tm X.rt.2)/\w'.cell? ⟨N,4,th⟩=tf (tn (tf ⟨g,0,th⟩) 1 cp)):World->Prop);have ub:∀w,z w->_:=λw h=>by rw[<-tE] at h;exact h
 have tG:∀W V I O s,Mk m p L X V I S O s W->W.cell? ⟨N,4,th⟩=tf (tn (tf ⟨g,0,th⟩) 1 cp)->z W:=λW V I O s f hc=>by
  rw[<-tE];exact⟨t.2 0 _ rfl W f.pg,t.2 1 _ rfl W f.pg,t.2 2 _ rfl W f.pg,t.2 3 _ rfl W f.pg,t.2 4 _ rfl W f.pg,t.2 5 _ rfl W f.pg,t.2 6 _ rfl W f.pg,(rowAt f.row 2 rfl).1,(rowAt f.row 3 rfl).1,hc⟩
 have tM:Mk m p L X V I S O s W1.drew:=v.grow (aq _ _).drew;have vf:z W1.drew:=tG _ _ _ _ _ tM a4;have hV:=tU W1.drew O s tM;unfold Ex.cells at hV;have HV:=zH hV;have o:=zH ub;have vh:=zH tG;clear h v E tD G tW ua tS tM tE ub tG hV tU t;go_enter func180,ntmps180
 go_upto_region 1 with(fail)
 rw[uv.out]
 go_upto_region 24 with(fail)
 refine aj 10 z (by kernel_rfl) ?_;refine zT 0 rfl o.out ?_;(try go_simp);refine zT 1 rfl o.out ?_;(try go_simp);refine zT 2 rfl o.out ?_;(try go_simp);refine zT 3 rfl o.out ?_;(try go_simp);refine zT 4 rfl o.out ?_;(try go_simp);refine zT 5 rfl o.out ?_;(try go_simp);refine zT 6 rfl o.out ?_;(try go_simp);refine zT 7 rfl o.out ?_;(try go_simp);refine zT 8 rfl o.out ?_;(try go_simp);refine zO 9 rfl λK' A=> ?_;go_simp;go_at_call 217;refine HV.out.mono ?_;rintro e J ⟨rfl,O4,s4,k4,x4,o4⟩;have tP:Ext (λq=>q=m\/O q) W1 J:=((Ext.refl _ _).drew).trans x4 (λq h=> .inl h);have tR:=tP.heap vc.out vd.out;have uc:z J:=vh.out _ _ _ _ _ k4 (rowAt tR 4 rfl).1;obtain⟨⟨b0,b1,b2,b3,b4,b5,b6,b7,b8⟩,_,vy⟩:=fe tR;have vm:=zH (iH ⟨18,0,d,0,0,ln,cl⟩ J k4 ue);have vp:cg (∀w5,dz m p L X V2 (I2++[⟨18,0,d,0,0,ln,cl⟩]) S O4 J w5->dz m p L X V2 (I2++[⟨18,0,d,0,0,ln,cl⟩]) S O w w5):=λw5 h5=>(dz.trans tP o4 h5).below ux.out;refine A _ _ uc ?_;clear A k4 x4 o4 tR a0 a1 a2 a3 a4 a5 a6 a7 a8 up ur;(try go_simp);refine zK rfl λK' A=> ?_;go_simp;refine A _ _ ?_;clear A;refine⟨by kernel_rfl, ?_⟩;clear uc vf tP
 go_wp2_with (go_at_call 223;refine vm.out.mono ?_;rintro e w5 ⟨rfl,ud⟩;have vq:=zH (vp.out _ ud);clear ud)
 go_end0
 exact⟨rfl,vq.out⟩
theorem yO {m:bj}{p:Pg}{L:bj}{X:Fx}{V:bp Ty}{I:bp fU}{S:bp (bl×bj)}{O:bj->Prop}{s:Sl}(tM:X.os= tn th 0 0)(x:ml)(A nm:bl)(E:cC fg)(G J:bj)(j:bj)(z:bl×bj)(hj:S[j]?=tf z)(hn:(z.1==nm)=ti)(hl:∀q y,j<q->S[q]?=tf y->(y.1==nm)=tj)(ub:I.length+1<=1000)(d f:aw)(w:World)(h:Mk m p L X V I S O s w):
  fj am 180 #[tr (tf ⟨m,0,th⟩),tv #[Z U 9,tt x,tm A,tm nm,tn E G J,tn th 0 0,tn th 0 0,Z U d,Z U f]] w λe w'=>e= tB (.tuple #[])/\dz m p L X V (I++[⟨13,0,(z.2:aw),0,0,d,f⟩]) S O w w':=by
 obtain⟨N,t⟩:=zE w.heap.size;obtain⟨W1,K⟩:=zE (w.alloc (tA #[Z U 9,tt x,tm A,tm nm,tn E G J,tn th 0 0,tn th 0 0,Z U d,Z U f] 282));have tD:=ik K t;have u:W1.heap[N]?=tf (tA #[Z U 9,tt x,tm A,tm nm,tn E G J,tn th 0 0,tn th 0 0,Z U d,Z U f] 282 (0,0)):=by rw[<-K,<-t];exact alloc_at _ _
 have uc:=ae u;have g:Mk m p L X V I S O s W1:=h.grow (by rw[t];exact tD);have tP:aE w.heap.size w W1:=by rw[t];exact tD
 have vc:=ae g.row;have vd:m<N:=by have:=ae h.row;omega
 have tR:¬(N=m\/O N):=by rintro(g|g);omega;have:=(h.ol N g).2;omega
 have vf:W1.cell? ⟨m,15,th⟩=tf (Z U 0):=(rowAt g.row 15 rfl).1;have vh:W1.cell? ⟨m,19,th⟩=tf (tn th 0 0):=by rw[<-tM];exact(rowAt g.row 19 rfl).1
 obtain⟨⟨a0,a1,a2,a3,a4,a5,a6,a7,a8⟩,_,_⟩:=fe u;have ud:=zH K;have ue:=zH tP;have vm:=zH u;have vp:=zH tR;have vq:=zH t;obtain⟨R,tE⟩:=zE ((λw'=>aE W1.heap.size W1 w'):World->Prop);have tS:∀w,R w->aE W1.heap.size W1 w:=λw h=>by rw[<-tE] at h;exact h
 have tU:R W1.drew:=by rw[<-tE];exact(aq _ _).drew
 have tW:∀W,R W->W.cell? ⟨N,0,th⟩=tf (Z U 9)/\W.cell? ⟨N,1,th⟩=tf (tt x)/\W.cell? ⟨N,2,th⟩=tf (tm A)/\W.cell? ⟨N,3,th⟩=tf (tm nm)/\W.cell? ⟨N,4,th⟩=tf (tn E G J)/\W.cell? ⟨N,5,th⟩=tf (tn th 0 0)/\W.cell? ⟨N,6,th⟩=tf (tn th 0 0)/\W.cell? ⟨N,7,th⟩=tf (Z U d)/\W.cell? ⟨N,8,th⟩=tf (Z U f):=λW hW=>by
  have r1:=((tS W hW).block N uc).trans u;exact⟨(rowAt r1 0 rfl).1,(rowAt r1 1 rfl).1,(rowAt r1 2 rfl).1,(rowAt r1 3 rfl).1,(rowAt r1 4 rfl).1,(rowAt r1 5 rfl).1,(rowAt r1 6 rfl).1,(rowAt r1 7 rfl).1,(rowAt r1 8 rfl).1⟩
 have o:=zH tW;have tG:Mk m p L X V I S O s W1.drew:=g.grow (aq _ _).drew;have up:=zH (wZ nm j z hj hn hl W1.drew tG);have ur:=zH (iH ⟨13,0,(z.2:aw),0,0,d,f⟩ W1.drew tG ub);have uv:cg (∀w5,dz m p L X V (I++[⟨13,0,(z.2:aw),0,0,d,f⟩]) S O W1.drew w5->dz m p L X V (I++[⟨13,0,(z.2:aw),0,0,d,f⟩]) S O w w5):=λw5 h5=>(h5.below (aq _ _).drew).below ue.out;clear h g K tD u tP tR tM tG tE tW tS hj hn hl;go_enter func180,ntmps180
 go_upto_region 1 with(fail)
 rw[ud.out]
 go_upto_region 27 with(fail)
 refine aj 8 R (by kernel_rfl) ?_;refine zT 0 rfl o.out ?_;(try go_simp);refine zT 1 rfl o.out ?_;(try go_simp);refine zT 2 rfl o.out ?_;(try go_simp);refine zT 3 rfl o.out ?_;(try go_simp);refine zT 5 rfl o.out ?_;(try go_simp);refine zT 6 rfl o.out ?_;(try go_simp);refine zO 4 rfl λK' v=> ?_;go_simp;go_at_call 218;refine up.out.mono ?_;rintro e _ ⟨rfl,rfl⟩;refine v _ _ tU ?_;clear v;(try go_simp);refine zT 7 rfl o.out ?_;(try go_simp);refine zK rfl λK' v=> ?_;go_simp;go_at_call 223;refine ur.out.mono ?_;rintro e w6 ⟨rfl,ua⟩;refine v _ _ ?_;clear v;refine⟨by kernel_rfl, ?_⟩;have ux:=zH (uv.out _ ua);clear ua tU;go_wp2
 go_end0
 exact⟨rfl,ux.out⟩
theorem bI {P:km}{w:World}{o:kj}{a:Act}{Q:Exit->Act->World->Prop}{K:Act->World->Prop}(s x:Operand)(t:fX)
  (v:o.op= .call {callee:= .builtin .append,args:=#[s,x],argTypes:=#[t,t]})(e:fX)(i:TypeInfo)(z:cw)(size qt:bj)(y:P.underlying t=tf (.slice e))(A:P.info? e=tf i)(E:i.zero=tf z)(G:i.size=size)(J:i.bytes=qt)(R:z.cells.size=size)(W:0<size)
  (ao:cC fg)(n cap:bj)(g:bp cw)(hs:a.eval s= tn ao n cap)(tE:ao=th->n=0/\cap=0)(tD:g.length=n*size)(tG:∀b,ao=tf b->∀j u,g[j]?=tf u->w.cell? (b.add j)=tf u)
  (h:fg)(m c:bj)(d:bp cw)(hx:a.eval x= tn (tf h) m c)(hn:d.length=m*size)(hc:∀j u,d[j]?=tf u->w.cell? (h.add j)=tf u)(tM:∀u∈d,u.oneCell'=ti)
  (tP:cap<n+m)(b1:n+m<=du)(b2:(n+m)*qt<=140737488355328)
  (hK:∀f w',w'.ownsRow w.heap.size e size f (n+m) (g++d)->w.grownBy w' th->K (a.put o.dst f) w'):mp P o a w K Q:=by
 cases ao with
 |some b=>
  obtain⟨f,w',q,r1,r2⟩:=run_append_arg_grows (P:=P) w t o.type e i z size qt y A E G J R W b n cap g tD (tG b rfl) h m c d hn hc tP b1 b2;unfold mp;simp[execOp,v,resolve,invoke,builtin,hs,hx,q,lz];exact hK f w' r1 r2
 |none=>
  obtain⟨rfl,rfl⟩:=tE rfl;obtain rfl:g=[]:=cV (by simpa using tD);obtain⟨f,w',q,r1,r2,_⟩:=run_append_own (P:=P) w w.heap.size t o.type e i z size qt y A E G J R W (tn th 0 0) 0 [] (World.ownsRow_nil w _ e size) h m c d hn hc tM b1 b2 (cd _);unfold mp;simp[execOp,v,resolve,invoke,builtin,hs,hx,q,lz];exact hK f w' r1 r2
end Go.Proofs.YtjomgckjhcfbgaaGreat
