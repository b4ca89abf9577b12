/- Walks. -/
import Derived.ArgAppend
import Derived.Test.YtjomgckjhcfbgaaGreatY4
set_option maxRecDepth 100000
set_option maxHeartbeats 64000000
set_option linter.all false
namespace Go.Proofs.YtjomgckjhcfbgaaGreat
open Go.RowKit
open Go.Proofs.Tryz renaming prog→ac,underlying32→ey,underlying4→ii,ntmps217→qt,func217→rI
open _root_.List renaming getElem?_eq_getElem→am,getElem?_eq_some_iff→ap,eq_nil_of_length_eq_zero→du,flatMap_append→eK
open Go.RowKit.Below renaming refl→aq,heap_alloc→cn
open _root_ renaming ByteArray→aE,List→bm,Int→bp,Nat→bx,if_neg→cE,if_pos→cR,Array→da,Option→eA,False→mb,Bool→nj
open Go.RowKit renaming Below→bh,Hid→cm
open Go renaming heap_setCell_same→bk,cell_of_row→cc,Value→cd,run_storeCells_new→ct,storeCells→dr,bodyPost_ret→dv,maxLen→dT,results_cell_row→eI,run_underlying→fN,beq_toListBytes→fY,Calls→gd,TypeId→gx,info_parts→gA,heap_alloc2_old→ia,Oper→ke,Program→km,bytes→py
open _root_.Nat renaming lt_of_lt_of_le→bl,le_refl→ce,zero_add→cV,le_trans→cY,add_zero→mx
open Go.Value renaming oneCell'→cj,slice→co,string→tM,slice→tP,pointer→tR,bool→tU,agg→tW,int→Z
open Go.Exit renaming inBlock→db
open Go.Addr renaming add_lit→dc
open Go.Sem renaming run_bind→ft
open Go.Result renaming andThen→fX
open Go.Oper renaming wp→lR
open Go.Instr renaming field→nw
open _root_.Option renaming some→tB,none→tD
open _root_.Bool renaming true→tE,false→tG
open Go.Obj renaming cells→ua
open Go.Ending renaming returned→ub
open Go.IntKind renaming i64→U
open Tryz
theorem El:(ac.info? 34).map (λi=>(i.zero,i.size,i.bytes))=tB (tB (tW #[tU tG,tM ⟨#[]⟩,Z U 0]),3,32):=by kernel_rfl
theorem Em:(ac.info? 42).map (λi=>(i.zero,i.size,i.bytes))=tB (tB (tW #[Z U 0,Z U 0,Z U 0,Z U 0,Z U 0,Z U 0,tM ⟨#[]⟩,tP tD 0 0,tP tD 0 0,Z U 0,Z U 0,Z U 0,Z U 0]),13,144):=by kernel_rfl
structure Fx where
 rt:Ty
 nm:aE
 pr:cd
 r7:cd
 r8:cd
 r9:cd
 fr:cd
 hs:cd
 os:cd
structure Sl where
 vA:eA Addr
 vC:bx
 iA:eA Addr
 iC:bx
 sA:eA Addr
 sC:bx
 wA:eA Addr
 wC:bx
structure gB where
 op:bp
 d:bp
 a:bp
 f:bp
 n:bp
 ln:bp
 cl:bp
def gB.cells (i:gB):da cd:=#[Z U i.op,Z U i.d,Z U i.a,Z U 0,Z U i.f,Z U i.n,tM ⟨#[]⟩,tP tD 0 0,tP tD 0 0,Z U 0,Z U 0,Z U i.ln,Z U i.cl]
def Ho (i:gB):bm cd:=i.cells.toList
def Hq (y:Ty):bm cd:=[tU y.1,tM y.2,Z U 0]
def Fz (p:Pg)(X:Fx)(s:Sl)(f h d:bx):da cd:=
 #[tP (tB ⟨p.pA,0,tD⟩) 1 p.pC,tP (tB ⟨p.qA,0,tD⟩) 1 p.qC,tU X.rt.1,tM X.rt.2,tM X.nm,X.pr,tP s.vA f s.vC,X.r7,X.r8,X.r9,X.fr,tP s.iA h s.iC,tP s.sA d s.sC,tP s.wA d s.wC,Z U 0,Z U 0,Z U 0,Z U 0,X.hs,X.os]
structure Mk (m:bx)(p:Pg)(L:bx)(X:Fx)(V:bm Ty)(I:bm gB)(S:bm (aE×bx))(O:bx->Prop)(s:Sl)(w:World):Prop where
 row:w.heap[m]?=tB (ua (Fz p X s V.length I.length S.length) 236 (0,0))
 pg:jA p L w
 hm:L<=m
 vars:w.ownsRow (m+1) 34 3 (tP s.vA V.length s.vC) V.length (V.flatMap Hq)
 ins:w.ownsRow (m+1) 42 13 (tP s.iA I.length s.iC) I.length (I.flatMap Ho)
 dis:∀k,(co s.vA V.length s.vC).ownBlock=tB k->(co s.iA I.length s.iC).ownBlock=tB k->mb
 ov:∀k,(co s.vA V.length s.vC).ownBlock=tB k->O k
 oi:∀k,(co s.iA I.length s.iC).ownBlock=tB k->O k
 ol:∀k,O k->m<k/\k<w.heap.size
 seen:aK (λx:aE×bx=>#[tM x.1]) 1 w w.heap.size s.sA S
 whic:aK (λx:aE×bx=>#[Z U (x.2:bp)]) 1 w w.heap.size s.wA S
 ns:∀a,S≠[]->(s.sA=tB a\/s.wA=tB a)->a.block≠m/\¬O a.block
 lV:V.length<=1000
 lI:I.length<=1000
 lS:S.length<=1000
 cS:S.length<=s.sC/\S.length<=s.wC
section
variable {m:bx}{p:Pg}{L:bx}{X:Fx}{V:bm Ty}{I:bm gB}{S:bm (aE×bx)}{O:bx->Prop}{s:Sl}{w w':World}
theorem aK.stay {α:Type}{cells:α->da cd}{st:bx}{w w':World}{d:eA Addr}{xs:bm α}{M:bx->Prop}(h:aK cells st w w.heap.size d xs)(q:Ext M w w')(G:∀a,xs≠[]->d=tB a->¬M a.block):aK cells st w' w'.heap.size d xs:=by
 intro v;obtain⟨b,f,A,D,J⟩:=h v;exact⟨b,f,A,bl D q.size,λi x hi k u hu=>(q.cell (a:=⟨b,f+i*st+k,tD⟩) D (G ⟨b,f,tD⟩ v A)).trans (J i x hi k u hu)⟩
theorem Mk.ext {M:bx->Prop}(h:Mk m p L X V I S O s w)(d:Ext M w w')(u:∀k,k<=m->¬M k)(v:∀k,O k->¬M k)(A:∀a,S≠[]->(s.sA=tB a\/s.wA=tB a)->¬M a.block):Mk m p L X V I S O s w':=
 ⟨d.heap h.row (u m (ce _)),h.pg.ext d (λk f=>u k (by have:=h.hm;omega)),h.hm,af h.vars d (λk f=>v k (h.ov k f)),af h.ins d (λk f=>v k (h.oi k f)),h.dis,h.ov,h.oi,λk f=>⟨(h.ol k f).1,bl (h.ol k f).2 d.size⟩,
  h.seen.stay d (λa q e=>A a q (.inl e)),h.whic.stay d (λa q e=>A a q (.inr e)),h.ns,h.lV,h.lI,h.lS,h.cS⟩
theorem Mk.grow (h:Mk m p L X V I S O s w)(d:bh w.heap.size w w'):Mk m p L X V I S O s w':=h.ext (Ext.of_below_size (M:=λ_=>mb) d) (λ_ _ h=>h) (λ_ _ h=>h) (λ_ _ _ h=>h)
end
def dx (m:bx)(p:Pg)(L:bx)(X:Fx)(V:bm Ty)(I:bm gB)(S:bm (aE×bx))(O:bx->Prop)(w w':World):Prop:=
 ∃d s',Mk m p L X V I S d s' w'/\Ext (λq=>q=m\/O q) w w'/\∀k,d k->O k\/w.heap.size<=k
theorem dx.trans {m:bx}{p:Pg}{L:bx}{X:Fx}{V2:bm Ty}{I2:bm gB}{f:bm (aE×bx)}{O u:bx->Prop}{w w1 w2:World}(v:Ext (λq=>q=m\/O q) w w1)(A:∀k,u k->O k\/w.heap.size<=k)(h:dx m p L X V2 I2 f u w1 w2):dx m p L X V2 I2 f O w w2:=by
 obtain⟨D,s',G,J,h3⟩:=h;refine⟨D,s',G,v.trans J (λq d=> ?_),λk hk=> ?_⟩
 ·rcases d with rfl|d
  ·exact .inl (.inl rfl)
  ·rcases A q d with h|h
   ·exact .inl (.inr h)
   ·exact .inr h
 ·rcases h3 k hk with h|h
  ·exact A k h
  ·exact .inr (cY v.size h)
theorem nC {m:bx}{p:Pg}{L:bx}{X:Fx}{V:bm Ty}{I:bm gB}{S:bm (aE×bx)}{O:bx->Prop}{s:Sl}(y:Ty)(w:World)(h:Mk m p L X V I S O s w)(hl:V.length+1<=1000):
  gd ac 131 #[tR (tB ⟨m,0,tD⟩),tW #[tU y.1,tM y.2]] w λe w'=>e= ub (Z U (V.length:bp))/\dx m p L X (V++[y]) I S O w w':=by
 obtain⟨N,hN⟩:=zE w.heap.size;obtain⟨D,vc⟩:=zE (w.alloc (ua #[tU y.1,tM y.2] 32));have vr:=iV vc hN;have vu:D.heap[N]?=tB (ua #[tU y.1,tM y.2] 32 (0,0)):=by rw[<-vc,<-hN];exact alloc_at _ _
 have At:=ae vu;have A:Mk m p L X V I S O s D:=h.grow (by rw[hN];exact vr);have Ax:m<N:=by have:=ae h.row;omega
 have xf:∀k,O k->k<N:=λk f=>by have:=(h.ol k f).2;omega
 obtain⟨v,hv⟩:=zE (co s.vA V.length s.vC);have vx:=A.vars;rw[hv] at vx;obtain⟨i0,xj,xl,xo,xp⟩:=gA El;obtain⟨S1,vy⟩:=zE ((λw'=>w'.cell? ⟨m,6,tD⟩=tB v/\w'.heap[N]?=tB (ua #[tU y.1,tM y.2] 32 (0,0))):World->Prop);have xr:∀w,S1 w->w.cell? ⟨m,6,tD⟩=tB v/\w.heap[N]?=tB (ua #[tU y.1,tM y.2] 32 (0,0)):=λw h=>by rw[<-vy] at h;exact h
 have we:∀w,w.cell? ⟨m,6,tD⟩=tB v/\w.heap[N]?=tB (ua #[tU y.1,tM y.2] 32 (0,0))->S1 w:=λw h=>by rw[<-vy];exact h
 have wg:=A.row;have AD:=ae wg;have wi:D.drew.heap[m]?=tB (ua (Fz p X s V.length I.length S.length) 236 (0,0)):=wg;have wj:D.drew.heap[N]?=tB (ua #[tU y.1,tM y.2] 32 (0,0)):=vu;have AE:S1 D.drew:=we _ ⟨by rw[<-hv];exact(rowAt wi 6 rfl).1,wj⟩;have xt:=zH xr;have xF:=zH we;have yr:=zH vc;have xT:=zH vr;have yv:=zH A;have AF:=zH vx;have yy:=zH wi;have yW:=zH wj;have HV:=zH hv;have zc:=zH xf;clear h vc vr vu A vx vy xr we wg wi wj hv xf;go_enter func131,ntmps131
 go_upto_region 1 with(fail)
 rw[yr.out];refine ak 13 S1 (by kernel_rfl) ?_;have J:=zH λw h=>And.intro (xt.out w h) (Hf (xt.out w h).2);refine zT 0 rfl J.out ?_;(try go_simp);refine zT 1 rfl J.out ?_;(try go_simp);refine zT 2 rfl J.out ?_;(try go_simp);refine zT 3 rfl J.out ?_;(try go_simp);refine zT 4 rfl J.out ?_;(try go_simp);refine zT 5 rfl J.out ?_;(try go_simp);refine zT 6 rfl J.out ?_;(try go_simp);refine zT 7 rfl J.out ?_;(try go_simp);refine zO 8 rfl λK' hK=> ?_;go_simp;obtain⟨G,hG⟩:=zE D.heap.size;obtain⟨W8,vd⟩:=zE ((D.alloc (ua #[tU y.1,tM y.2,Z U 0] 34)).drew);(try rw[hG]);(try rw[vd]);have vf:bh G D W8:=by rw[<-vd,<-hG];exact((aq _ _).alloc (ce _) _).drew
 have ya:W8.heap[G]?=tB (ua #[tU y.1,tM y.2,Z U 0] 34 (0,0)):=by rw[<-vd,<-hG];exact alloc_at _ _
 have vh:=(vf.block m (by omega)).trans yy.out;have wk:=(vf.block N (by omega)).trans yW.out;refine hK _ _ (xF.out _ ⟨by rw[<-HV.out];exact(rowAt vh 6 rfl).1,wk⟩) ?_;clear hK;(try go_simp);refine zO 9 rfl λK' hK=> ?_;have vi:Ext (λ_=>mb) D W8:=Ext.of_below_size (by rw[hG];exact vf);have d:Mk m p L X V I S O s W8:=yv.out.ext vi (λ_ _ h=>h) (λ_ _ h=>h) (λ_ _ _ h=>h);have wl:=d.vars;rw[HV.out] at wl;have AG:=ae vh;refine aH (.tmp 10) (.tmp 13) 30 rfl (m+1) 34 i0 _ 3 32 underlying30 xj xl xo xp rfl (by decide) v V.length _ rfl wl (tB ⟨G,0,tD⟩) 1 1 [tU y.1,tM y.2,Z U 0] rfl rfl (λh=>by cases h) (λad zd jj uu hu=>by
  obtain rfl:(⟨G,0,tD⟩:Addr)=ad:=by simpa using zd
  rw[dc,cV,cc _ _ _ _ _ _ ya];simpa using hu) (by simp[cj]) (by unfold dT;omega) (by omega) (by omega) ?_
 intro v9 w9 ux yb yd;have vj:Ext (λq=>v.ownBlock=tB q) W8 w9:=Ext.of_grown yb (λq u=> .inl u);have ud:∀q,v.ownBlock=tB q->O q:=λq u=>d.ov q (by rw[HV.out];exact u);have va:=vj.heap vh (λu=>by have:=(d.ol _ (ud _ u)).1;omega);have ye:=vj.heap wk (λu=>by have:=zc.out _ (ud _ u);omega);obtain⟨ue,c9,zj⟩:=ai ux;subst zj;have yi:S1 w9:=xF.out _ ⟨by rw[<-HV.out];exact(rowAt va 6 rfl).1,ye⟩;have zp:=(rowAt va 6 rfl).2;have zr:w9.cell? ⟨m,6,tD⟩=tB v:=by rw[<-HV.out];exact(rowAt va 6 rfl).1
 refine hK _ _ yi ?_;clear hK;(try go_simp);refine zT 10 rfl J.out ?_;(try go_simp);refine zT 11 rfl J.out ?_;(try go_simp);refine zT 12 rfl J.out ?_;(try go_simp);refine zK rfl λK' hK=> ?_;go_simp;refine hK _ _ ?_;clear hK;refine⟨by kernel_rfl, ?_⟩;obtain⟨WF,vm⟩:=zE (w9.setCell ⟨m,6,tD⟩ (tP ue (V.length+1) c9));(try rw[vm]);have vp:Ext (·=m) w9 WF:=by rw[<-vm];exact Ext.set1 w9 m 6 _
 have ws:WF.heap[m]?=tB (ua (Fz p X {s with vA:=ue,vC:=c9} (V.length+1) I.length S.length) 236 (0,0)):=by rw[<-vm];exact bk w9 m 6 _ _ _ va
 have ur:Ext (λq=>q=m\/v.ownBlock=tB q) W8 WF:=(vj.mono (λq h=> .inr h)).trans vp (λq h=> .inl (.inl h));have yk:Ext (λq=>q=m\/v.ownBlock=tB q) D WF:=(vi.mono (λq h=>h.elim)).trans ur (λq h=> .inl h);have uv:(V++[y]).length=V.length+1:=by simp
 have vq:∀k,(co ue (V.length+1) c9).ownBlock=tB k->v.ownBlock=tB k\/W8.heap.size<=k:=yd;have yp:∀k,(co ue (V.length+1) c9).ownBlock=tB k->k<WF.heap.size:=λk f=>bl (ux.lt k f).2 vp.size;have wx:∀k,(co ue (V.length+1) c9).ownBlock=tB k->m+1<=k:=λk f=>(ux.lt k f).1;have yq:dx m p L X (V++[y]) I S O w WF:=by
  refine⟨λq=>O q\/(co ue (V.length+1) c9).ownBlock=tB q,{s with vA:=ue,vC:=c9}, ?_, ?_,λk f=> ?_⟩
  ·refine⟨by rw[uv];exact ws,d.pg.ext ur (λk f u=> ?_),d.hm, ?_,af d.ins ur (λk f u=> ?_),λk A h2=> ?_,λk f=> ?_,λk f=> ?_,λk f=> ?_,d.seen.stay ur (λa uc e u=> ?_),d.whic.stay ur (λa uc e u=> ?_),λa uc e=>⟨(d.ns a uc e).1,λu=> ?_⟩,by rw[uv];omega,d.lI,d.lS,d.cS⟩
   ·have:=d.hm
    rcases u with h|h
    ·omega
    ·have:=(d.ol _ (ud _ h)).1;omega
   ·rw[uv,eK];exact af ux vp (λk f e=>by have:=wx k f;omega)
   ·rcases u with h|h
    ·have:=(d.ol k (d.oi k f)).1;omega
    ·exact d.dis k (by rw[HV.out];exact h) f
   ·rw[uv] at A
    rcases vq k A with h|h
    ·exact d.dis k (by rw[HV.out];exact h) h2
    ·have:=(d.ol k (d.oi k h2)).2;omega
   ·rw[uv] at f;exact .inr f
   ·exact .inl (d.oi k f)
   ·rcases f with h|h
    ·exact⟨(d.ol k h).1,bl (d.ol k h).2 ur.size⟩
    ·exact⟨wx k h,yp k h⟩
   ·rcases u with h|h
    ·exact(d.ns a uc (.inl e)).1 h
    ·exact(d.ns a uc (.inl e)).2 (ud _ h)
   ·rcases u with h|h
    ·exact(d.ns a uc (.inr e)).1 h
    ·exact(d.ns a uc (.inr e)).2 (ud _ h)
   ·rcases u with h|h
    ·exact(d.ns a uc e).2 h
    ·rcases vq _ h with h|h
     ·exact(d.ns a uc e).2 (ud _ h)
     ·have AH:a.block<W8.heap.size:=by
       rcases e with e|e
       ·obtain⟨b,zv,A,h2,_⟩:=d.seen uc
        rw[e] at A;cases A;exact h2
       ·obtain⟨b,zv,A,h2,_⟩:=d.whic uc
        rw[e] at A;cases A;exact h2
      omega
  ·have An:Ext (λ_=>mb) w D:=Ext.of_below_size (by rw[hN];exact xT.out)
   exact(An.mono (λq h=>h.elim)).trans yk (λq h=>by
    rcases h with h|h
    ·exact .inl (.inl h)
    ·exact .inl (.inr (ud _ h)))
  ·rcases f with h|h
   ·exact .inl h
   ·rcases vq k h with h|h
    ·exact .inl (ud _ h)
    ·right;have:=vi.size;have:=xT.out.size;omega
 have As:=zH yq;have cF:WF.cell? ⟨m,6,tD⟩=tB (tP ue (V.length+1) c9):=(rowAt ws 6 rfl).1;have AI:=zH uv;have AK:(((V.length+1:bx):bp))-1=(V.length:bp):=by omega
 clear vm vp ur yk vq yp wx yq ws ux yb yd vj ud va ye yi zp zr d wl vh wk vi vf ya vd hG xj xl xo xp;go_wp2;go_ret;exact⟨by go_num,As.out⟩
theorem iR {m:bx}{p:Pg}{L:bx}{X:Fx}{V:bm Ty}{I:bm gB}{S:bm (aE×bx)}{O:bx->Prop}{s:Sl}(i:gB)(w:World)(h:Mk m p L X V I S O s w)(hl:I.length+1<=1000):
  gd ac 223 #[tR (tB ⟨m,0,tD⟩),tW #[Z U i.op,Z U i.d,Z U i.a,Z U 0,Z U i.f,Z U i.n,tM ⟨#[]⟩,tP tD 0 0,tP tD 0 0,Z U 0,Z U 0,Z U i.ln,Z U i.cl]] w λe w'=>e= ub (Z U (I.length:bp))/\dx m p L X V (I++[i]) S O w w':=by
 obtain⟨N,hN⟩:=zE w.heap.size;obtain⟨W1,vc⟩:=zE (w.alloc (ua #[Z U i.op,Z U i.d,Z U i.a,Z U 0,Z U i.f,Z U i.n,tM ⟨#[]⟩,tP tD 0 0,tP tD 0 0,Z U 0,Z U 0,Z U i.ln,Z U i.cl] 42));have vr:=iV vc hN;have vu:W1.heap[N]?=tB (ua #[Z U i.op,Z U i.d,Z U i.a,Z U 0,Z U i.f,Z U i.n,tM ⟨#[]⟩,tP tD 0 0,tP tD 0 0,Z U 0,Z U 0,Z U i.ln,Z U i.cl] 42 (0,0)):=by rw[<-vc,<-hN];exact alloc_at _ _
 have At:=ae vu;have J:Mk m p L X V I S O s W1:=h.grow (by rw[hN];exact vr);have Ax:m<N:=by have:=ae h.row;omega
 have xf:∀k,O k->k<N:=λk A=>by have:=(h.ol k A).2;omega
 obtain⟨v,hv⟩:=zE (co s.iA I.length s.iC);have vx:=J.ins;rw[hv] at vx;obtain⟨i0,xj,xl,xo,xp⟩:=gA Em;obtain⟨S1,vy⟩:=zE ((λw'=>w'.cell? ⟨m,11,tD⟩=tB v/\w'.heap[N]?=tB (ua #[Z U i.op,Z U i.d,Z U i.a,Z U 0,Z U i.f,Z U i.n,tM ⟨#[]⟩,tP tD 0 0,tP tD 0 0,Z U 0,Z U 0,Z U i.ln,Z U i.cl] 42 (0,0))):World->Prop);have xr:∀w,S1 w->w.cell? ⟨m,11,tD⟩=tB v/\w.heap[N]?=tB (ua #[Z U i.op,Z U i.d,Z U i.a,Z U 0,Z U i.f,Z U i.n,tM ⟨#[]⟩,tP tD 0 0,tP tD 0 0,Z U 0,Z U 0,Z U i.ln,Z U i.cl] 42 (0,0)):=λw h=>by rw[<-vy] at h;exact h
 have we:∀w,w.cell? ⟨m,11,tD⟩=tB v/\w.heap[N]?=tB (ua #[Z U i.op,Z U i.d,Z U i.a,Z U 0,Z U i.f,Z U i.n,tM ⟨#[]⟩,tP tD 0 0,tP tD 0 0,Z U 0,Z U 0,Z U i.ln,Z U i.cl] 42 (0,0))->S1 w:=λw h=>by rw[<-vy];exact h
 have wg:=J.row;have AD:=ae wg;have wi:W1.drew.heap[m]?=tB (ua (Fz p X s V.length I.length S.length) 236 (0,0)):=wg;have wj:W1.drew.heap[N]?=tB (ua #[Z U i.op,Z U i.d,Z U i.a,Z U 0,Z U i.f,Z U i.n,tM ⟨#[]⟩,tP tD 0 0,tP tD 0 0,Z U 0,Z U 0,Z U i.ln,Z U i.cl] 42 (0,0)):=vu;have AE:S1 W1.drew:=we _ ⟨by rw[<-hv];exact(rowAt wi 11 rfl).1,wj⟩;have xt:=zH xr;have xF:=zH we;have yr:=zH vc;have xT:=zH vr;have yv:=zH J;have AF:=zH vx;have yy:=zH wi;have yW:=zH wj;have HV:=zH hv;have zc:=zH xf;clear h vc vr vu J vx vy xr we wg wi wj hv xf;go_enter func223,ntmps223
 go_upto_region 1 with(fail)
 rw[yr.out];refine ak 12 S1 (by kernel_rfl) ?_;have HQ:=zH λw h=>And.intro (xt.out w h) (GH (xt.out w h).2);refine zT 0 rfl HQ.out ?_;(try go_simp);refine zT 1 rfl HQ.out ?_;(try go_simp);refine zT 2 rfl HQ.out ?_;(try go_simp);refine zT 3 rfl HQ.out ?_;(try go_simp);refine zT 4 rfl HQ.out ?_;(try go_simp);refine zT 5 rfl HQ.out ?_;(try go_simp);refine zT 6 rfl HQ.out ?_;(try go_simp);refine zO 7 rfl λK' hK=> ?_;go_simp;obtain⟨G,hG⟩:=zE W1.heap.size;obtain⟨W8,vd⟩:=zE ((W1.alloc (ua #[Z U i.op,Z U i.d,Z U i.a,Z U 0,Z U i.f,Z U i.n,tM ⟨#[]⟩,tP tD 0 0,tP tD 0 0,Z U 0,Z U 0,Z U i.ln,Z U i.cl] 42)).drew);(try rw[hG]);(try rw[vd]);have vf:bh G W1 W8:=by rw[<-vd,<-hG];exact((aq _ _).alloc (ce _) _).drew
 have ya:W8.heap[G]?=tB (ua #[Z U i.op,Z U i.d,Z U i.a,Z U 0,Z U i.f,Z U i.n,tM ⟨#[]⟩,tP tD 0 0,tP tD 0 0,Z U 0,Z U 0,Z U i.ln,Z U i.cl] 42 (0,0)):=by rw[<-vd,<-hG];exact alloc_at _ _
 have vh:=(vf.block m (by omega)).trans yy.out;have wk:=(vf.block N (by omega)).trans yW.out;refine hK _ _ (xF.out _ ⟨by rw[<-HV.out];exact(rowAt vh 11 rfl).1,wk⟩) ?_;clear hK;(try go_simp);refine zO 8 rfl λK' hK=> ?_;have vi:Ext (λ_=>mb) W1 W8:=Ext.of_below_size (by rw[hG];exact vf);have u:Mk m p L X V I S O s W8:=yv.out.ext vi (λ_ _ h=>h) (λ_ _ h=>h) (λ_ _ _ h=>h);have wl:=u.ins;rw[HV.out] at wl;have AG:=ae vh;refine aH (.tmp 10) (.tmp 12) 36 rfl (m+1) 42 i0 _ 13 144 underlying36 xj xl xo xp rfl (by decide) v I.length _ rfl wl (tB ⟨G,0,tD⟩) 1 1 [Z U i.op,Z U i.d,Z U i.a,Z U 0,Z U i.f,Z U i.n,tM ⟨#[]⟩,tP tD 0 0,tP tD 0 0,Z U 0,Z U 0,Z U i.ln,Z U i.cl] rfl rfl (λh=>by cases h) (λad zd jj uu hu=>by
  obtain rfl:(⟨G,0,tD⟩:Addr)=ad:=by simpa using zd
  rw[dc,cV,cc _ _ _ _ _ _ ya];simpa using hu) (by simp[cj]) (by unfold dT;omega) (by omega) (by omega) ?_
 intro v9 w9 ux yb yd;have vj:Ext (λq=>v.ownBlock=tB q) W8 w9:=Ext.of_grown yb (λq D=> .inl D);have ud:∀q,v.ownBlock=tB q->O q:=λq D=>u.oi q (by rw[HV.out];exact D);have va:=vj.heap vh (λD=>by have:=(u.ol _ (ud _ D)).1;omega);have ye:=vj.heap wk (λD=>by have:=zc.out _ (ud _ D);omega);obtain⟨ue,c9,zj⟩:=ai ux;subst zj;have yi:S1 w9:=xF.out _ ⟨by rw[<-HV.out];exact(rowAt va 11 rfl).1,ye⟩;have zp:=(rowAt va 11 rfl).2;have zr:w9.cell? ⟨m,11,tD⟩=tB v:=by rw[<-HV.out];exact(rowAt va 11 rfl).1
 refine hK _ _ yi ?_;clear hK;(try go_simp);refine zT 9 rfl HQ.out ?_;(try go_simp);refine zT 10 rfl HQ.out ?_;(try go_simp);refine zT 11 rfl HQ.out ?_;(try go_simp);refine zK rfl λK' hK=> ?_;go_simp;refine hK _ _ ?_;clear hK;refine⟨by kernel_rfl, ?_⟩;obtain⟨WF,vm⟩:=zE (w9.setCell ⟨m,11,tD⟩ (tP ue (I.length+1) c9));(try rw[vm]);have vp:Ext (·=m) w9 WF:=by rw[<-vm];exact Ext.set1 w9 m 11 _
 have ws:WF.heap[m]?=tB (ua (Fz p X {s with iA:=ue,iC:=c9} V.length (I.length+1) S.length) 236 (0,0)):=by rw[<-vm];exact bk w9 m 11 _ _ _ va
 have ur:Ext (λq=>q=m\/v.ownBlock=tB q) W8 WF:=(vj.mono (λq h=> .inr h)).trans vp (λq h=> .inl (.inl h));have yk:Ext (λq=>q=m\/v.ownBlock=tB q) W1 WF:=(vi.mono (λq h=>h.elim)).trans ur (λq h=> .inl h);have uv:(I++[i]).length=I.length+1:=by simp
 have vq:∀k,(co ue (I.length+1) c9).ownBlock=tB k->v.ownBlock=tB k\/W8.heap.size<=k:=yd;have yp:∀k,(co ue (I.length+1) c9).ownBlock=tB k->k<WF.heap.size:=λk A=>bl (ux.lt k A).2 vp.size;have wx:∀k,(co ue (I.length+1) c9).ownBlock=tB k->m+1<=k:=λk A=>(ux.lt k A).1;have yq:dx m p L X V (I++[i]) S O w WF:=by
  refine⟨λq=>O q\/(co ue (I.length+1) c9).ownBlock=tB q,{s with iA:=ue,iC:=c9}, ?_, ?_,λk A=> ?_⟩
  ·refine⟨by rw[uv];exact ws,u.pg.ext ur (λk A D=> ?_),u.hm,af u.vars ur (λk A D=> ?_), ?_,λk J h2=> ?_,λk A=> ?_,λk A=> ?_,λk A=> ?_,u.seen.stay ur (λa uc e D=> ?_),u.whic.stay ur (λa uc e D=> ?_),λa uc e=>⟨(u.ns a uc e).1,λD=> ?_⟩,u.lV,by rw[uv];omega,u.lS,u.cS⟩
   ·have:=u.hm
    rcases D with h|h
    ·omega
    ·have:=(u.ol _ (ud _ h)).1;omega
   ·rcases D with h|h
    ·have:=(u.ol k (u.ov k A)).1;omega
    ·exact u.dis k A (by rw[HV.out];exact h)
   ·rw[uv,eK];exact af ux vp (λk A e=>by have:=wx k A;omega)
   ·rw[uv] at h2
    rcases vq k h2 with h|h
    ·exact u.dis k J (by rw[HV.out];exact h)
    ·have:=(u.ol k (u.ov k J)).2;omega
   ·exact .inl (u.ov k A)
   ·rw[uv] at A;exact .inr A
   ·rcases A with h|h
    ·exact⟨(u.ol k h).1,bl (u.ol k h).2 ur.size⟩
    ·exact⟨wx k h,yp k h⟩
   ·rcases D with h|h
    ·exact(u.ns a uc (.inl e)).1 h
    ·exact(u.ns a uc (.inl e)).2 (ud _ h)
   ·rcases D with h|h
    ·exact(u.ns a uc (.inr e)).1 h
    ·exact(u.ns a uc (.inr e)).2 (ud _ h)
   ·rcases D with h|h
    ·exact(u.ns a uc e).2 h
    ·rcases vq _ h with h|h
     ·exact(u.ns a uc e).2 (ud _ h)
     ·have AH:a.block<W8.heap.size:=by
       rcases e with e|e
       ·obtain⟨b,zv,J,h2,_⟩:=u.seen uc
        rw[e] at J;cases J;exact h2
       ·obtain⟨b,zv,J,h2,_⟩:=u.whic uc
        rw[e] at J;cases J;exact h2
      omega
  ·have An:Ext (λ_=>mb) w W1:=Ext.of_below_size (by rw[hN];exact xT.out)
   exact(An.mono (λq h=>h.elim)).trans yk (λq h=>by
    rcases h with h|h
    ·exact .inl (.inl h)
    ·exact .inl (.inr (ud _ h)))
  ·rcases A with h|h
   ·exact .inl h
   ·rcases vq k h with h|h
    ·exact .inl (ud _ h)
    ·right;have:=vi.size;have:=xT.out.size;omega
 have As:=zH yq;have cF:WF.cell? ⟨m,11,tD⟩=tB (tP ue (I.length+1) c9):=(rowAt ws 11 rfl).1;have AI:=zH uv;have AK:(((I.length+1:bx):bp))-1=(I.length:bp):=by omega
 clear vm vp ur yk vq yp wx yq ws ux yb yd vj ud va ye yi zp zr u wl vh wk vi vf ya vd hG xj xl xo xp;go_wp2;go_ret;exact⟨by go_num,As.out⟩
theorem Bi {S:bm (aE×bx)}{nm:aE}{j i:bx}{x:aE×bx}(f:S[j]?=tB x)(u:(x.1==nm)=tE)(v:∀q y,j<q->S[q]?=tB y->(y.1==nm)=tG)(A:j<=i){y:aE×bx}(d:S[i]?=tB y):
  (i=j/\y=x/\(y.1.toList==nm.toList)=tE)\/(j<i/\(y.1.toList==nm.toList)=tG):=by
 rcases Nat.lt_or_eq_of_le A with h|h
 ·exact .inr ⟨h,by rw[<-fY];exact v i y h d⟩
 ·subst h
  rw[f] at d;cases d;exact .inl ⟨rfl,rfl,by rw[<-fY];exact u⟩
theorem oF {m:bx}{p:Pg}{L:bx}{X:Fx}{V:bm Ty}{I:bm gB}{S:bm (aE×bx)}{O:bx->Prop}{s:Sl}(nm:aE)(j:bx)(x:aE×bx)(f:S[j]?=tB x)(G:(x.1==nm)=tE)(J:∀q y,j<q->S[q]?=tB y->(y.1==nm)=tG)(w:World)(h:Mk m p L X V I S O s w):
  zS 218 #[tR (tB ⟨m,0,tD⟩),tM nm] w (Z U (x.2:bp)):=by
 have uc:S≠[]:=by intro e;rw[e] at f;simp at f
 obtain⟨b,ue,hA,hb,hc⟩:=h.seen uc;obtain⟨b2,ur,hA2,ux,ud⟩:=h.whic uc;have va:w.cell? ⟨m,12,tD⟩=tB (tP (tB ⟨b,ue,tD⟩) S.length s.sC):=by rw[<-hA];exact(rowAt h.row 12 rfl).1
 have vc:w.cell? ⟨m,13,tD⟩=tB (tP (tB ⟨b2,ur,tD⟩) S.length s.wC):=by rw[<-hA2];exact(rowAt h.row 13 rfl).1
 have hm:=ae h.row;have vd:=h.lS;have vf:j<S.length:=(ap.1 f).1;have u:=zH hc;have v:=zH ud;have A:cm (∀i y,j<=i->S[i]?=tB y->(i=j/\y=x/\(y.1.toList==nm.toList)=tE)\/(j<i/\(y.1.toList==nm.toList)=tG)):=λi y D d=>Bi f G J D d;clear h hc ud f G J hA hA2;go_enter func218,ntmps218;go_wp2
 go_loop [5] (λk=>∃i:bx,k= Z U (i:bp)/\j<=i/\i<S.length) (λk=>(intOf k).toNat)
 case atStart=>exact⟨S.length-1,by rw[show((S.length-1:bx):bp)=(S.length:bp)-1 by omega],by omega,by omega⟩
 case round=>
  obtain⟨i,rfl,uv,D⟩:=hrel;have vh:(i:bp)<(S.length:bp):=by omega
  obtain⟨y,d⟩:∃y,S[i]?=tB y:=⟨_,am D⟩
  have k0:=u.out i y d 0 _ rfl;have k1:=v.out i y d 0 _ rfl;rw[mx,Nat.mul_one] at k0 k1;rcases A.out i y uv d with⟨rfl,rfl,ht⟩|⟨vi,ht⟩
  ·clear A u v d
   go_wp2;go_ret;exact⟨rfl,rfl⟩
  ·clear A u v d
   go_wp2
   go_round
   case rel=>exact⟨i-1,by rw[show((i-1:bx):bp)=(i:bp)-1 by omega],by omega,by omega⟩
   case measure=>simp[intOf];omega
theorem qH {m:bx}{p:Pg}{L:bx}{X:Fx}{V:bm Ty}{I:bm gB}{S:bm (aE×bx)}{O:bx->Prop}{s:Sl}(v:bx)(y:Ty)(d:V[v]?=tB y)(w:World)(h:Mk m p L X V I S O s w):
  zP 219 #[tR (tB ⟨m,0,tD⟩),Z U (v:bp)] w (tW #[tU y.1,tM y.2]):=by
 obtain⟨N,q⟩:=zE w.heap.size;obtain⟨A,u⟩:=zE (w.alloc (ua #[tU tG,tM ⟨#[]⟩] 32));have D:=iV u q;have G:A.heap[N]?=tB (ua #[tU tG,tM ⟨#[]⟩] 32 (0,0)):=by rw[<-u,<-q];exact alloc_at _ _
 have f:Mk m p L X V I S O s A:=h.grow (by rw[q];exact D);have uc:V≠[]:=by intro e;rw[e] at d;simp at d
 have ux:v<V.length:=(ap.1 d).1;have va:(v:bp)<(V.length:bp):=by omega
 obtain⟨b,ud,hA,hb,J⟩:=eD (cells:=λt:Ty=>#[tU t.1,tM t.2,Z U 0]) (m:=3) (λ_=>rfl) f.vars rfl uc;have c6:A.cell? ⟨m,6,tD⟩=tB (tP (tB ⟨b,ud,tD⟩) V.length s.vC):=by rw[<-hA];exact(rowAt f.row 6 rfl).1
 have hm:=ae f.row;have vc:=f.lV;have k0:=J v y d 0 _ rfl;have k1:=J v y d 1 _ rfl;rw[mx] at k0;obtain⟨⟨t0,t1⟩,⟨q0,q1⟩,vd⟩:=cB G;have ue:=zH u;have ur:=zH D;have uv:=zH G;clear h u D G f J hA d;go_enter func219,ntmps219
 go_upto_region 1 with(fail)
 rw[ue.out];go_wp2;(try simp only[db,Exit.then]);refine dv (eI (P:=ac) rfl _ _ N 32 _ (0,0) _ rfl (bv uv.out) ey rfl (by kernel_rfl)) rfl ?_;(try rw[q]);exact⟨rfl,(ur.out.setCell (by show N<=N;omega) _).setCell (by show N<=N;omega) _⟩
def AJ (x:bp)(V:bm Ty):bp:=if 0<=x then x else V.length
def En (x:bp)(V:bm Ty)(y:Ty):bm Ty:=if 0<=x then V else V++[y]
theorem Mk.same {m:bx}{p:Pg}{L:bx}{X:Fx}{V:bm Ty}{I:bm gB}{S:bm (aE×bx)}{O:bx->Prop}{s:Sl}{w w':World}(h:Mk m p L X V I S O s w)(d:bh w.heap.size w w'):dx m p L X V I S O w w':=
 ⟨O,s,h.grow d,(Ext.of_below_size (M:=λ_=>mb) d).mono (λ_ h=>h.elim),λ_ h=> .inl h⟩
theorem dx.below {m:bx}{p:Pg}{L:bx}{X:Fx}{V:bm Ty}{I:bm gB}{S:bm (aE×bx)}{O:bx->Prop}{w w1 w2:World}(d:bh w.heap.size w w1)(h:dx m p L X V I S O w1 w2):dx m p L X V I S O w w2:=
 dx.trans ((Ext.of_below_size (M:=λ_=>mb) d).mono (λ_ h=>h.elim)) (λ_ h=> .inl h) h
theorem rX {m:bx}{p:Pg}{L:bx}{X:Fx}{V:bm Ty}{I:bm gB}{S:bm (aE×bx)}{O:bx->Prop}{s:Sl}(x:bp)(y:Ty)(w:World)(h:Mk m p L X V I S O s w)(hl:V.length+1<=1000):
  gd ac 246 #[tR (tB ⟨m,0,tD⟩),Z U x,tW #[tU y.1,tM y.2]] w λe w'=>e= ub (Z U (AJ x V))/\dx m p L X (En x V y) I S O w w':=by
 obtain⟨N,d⟩:=zE w.heap.size;obtain⟨f,q⟩:=zE (w.alloc (ua #[tU y.1,tM y.2] 32));have u:=iV q d;have A:f.heap[N]?=tB (ua #[tU y.1,tM y.2] 32 (0,0)):=by rw[<-q,<-d];exact alloc_at _ _
 have D:Mk m p L X V I S O s f:=h.grow (by rw[d];exact u);have HF:=zH (nC y f D hl);have HS:cm (dx m p L X V I S O w f):=h.same (by rw[d];exact u);have uc:cm (bh w.heap.size w f):=by rw[d];exact u
 obtain⟨⟨t0,t1⟩,⟨q0,q1⟩,ue⟩:=cB A;have G:=zH q;unfold AJ En;clear h q u A D
 by_cases v:0<=x
 ·rw[cR v,cR v]
  go_enter func246,ntmps246
  go_upto_region 1 with(fail)
  rw[G.out];go_wp2;go_ret;exact⟨rfl,HS.out⟩
 ·rw[cE v,cE v]
  have ur:x<0:=by omega
  go_enter func246,ntmps246
  go_upto_region 1 with(fail)
  rw[G.out]
  go_wp2_with (go_at_call 131;refine HF.out.mono ?_;rintro e w2 ⟨rfl,J⟩;have ud:=zH (J.below uc.out);clear J)
  go_ret;exact⟨rfl,ud.out⟩
theorem CV (a:nj)(s:aE)(W:World):(nw 32 (tW #[tU a,tM s]) 0).run ac W= .ok (tU a) W:=by
 have d:=ey;have f:=ii;unfold nw;rw[ft,fN d W];simp[asAgg,part,go_sem,isAgg,ft,fN f W]
theorem zk {m:bx}{p:Pg}{L:bx}{X:Fx}{V:bm Ty}{I:bm gB}{S:bm (aE×bx)}{O:bx->Prop}{s:Sl}(n:bp)(nm:aE)(d f:bp)(G:Ty)(x:bp)(w:World)(h:Mk m p L X V I S O s w)(vh:V.length+1<=1000)(vi:I.length+1<=1000):
  gd ac 217 #[tR (tB ⟨m,0,tD⟩),tW #[Z U 1,Z U n,tM nm,tM ⟨#[]⟩,tP tD 0 0,Z U d,Z U f],tW #[tU G.1,tM G.2],Z U x] w λe w'=>e= ub (Z U (AJ x V))/\dx m p L X (En x V bI) (I++[⟨1,AJ x V,0,0,n,d,f⟩]) S O w w':=by
 obtain⟨N,u⟩:=zE w.heap.size;obtain⟨v,D⟩:=zE ((w.alloc (ua #[Z U 1,Z U n,tM nm,tM ⟨#[]⟩,tP tD 0 0,Z U d,Z U f] 313)).alloc (ua #[tU G.1,tM G.2] 32));obtain⟨q,A⟩:=zE (v.alloc (ua #[tU tG,tM ⟨#[]⟩] 32));have ue:=uF D u;have J:v.heap.size=N+2:=by rw[<-D];simp[u]
 have uc:bh N w q:=by rw[<-A];exact ue.alloc (by omega) _
 have ur:q.heap.size=N+3:=by rw[<-A];simp[J]
 have ud:q.heap[N]?=tB (ua #[Z U 1,Z U n,tM nm,tM ⟨#[]⟩,tP tD 0 0,Z U d,Z U f] 313 (0,0)):=by
  rw[<-A];refine(cn _ _ N (by omega)).trans ?_;rw[<-D,<-u];exact ia _ _ _
 have uv:q.heap[N+2]?=tB (ua #[tU tG,tM ⟨#[]⟩] 32 (0,0)):=by rw[<-A,<-J];exact alloc_at _ _
 have h3:Mk m p L X V I S O s q:=h.grow (by rw[u];exact uc);have wk:m<N:=by have:=ae h.row;omega
 have ux:¬(N=m\/O N):=by rintro(h1|h1);omega;have:=(h.ol N h1).2;omega
 have hst:∀(c:da cd),c.size=2->(dr ⟨v.heap.size,0,tD⟩ [tU tG,tM ⟨#[]⟩] 0).run ac (v.alloc (ua c 32))= .ok () (v.alloc (ua #[tU tG,tM ⟨#[]⟩] 32)):=λc hc=>
  ct (P:=ac) v 32 c #[tU tG,tM ⟨#[]⟩] (by show _=tB 2;kernel_rfl) hc (by simp[cj])
 have va:bh w.heap.size w q:=by rw[u];exact uc
 have vj:=zH hst;have vm:=zH D;have vp:=zH A;have vq:=zH va;have vr:=zH ud;have vu:=zH ux;have wl:=zH ur;have ws:=zH u;have vx:=zH (rX x bI q h3 vh);clear h D A ue uc ur h3 hst va ux;go_enter rI,qt
 go_upto_region 1 with(fail)
 rw[vm.out];have vy:=vj.out
 go_upto_region 2 with(fail)
 rw[vp.out];(try simp only[J]);clear vy;obtain⟨⟨a0,a1,a2,a3,a4,a5,a6⟩,_,wx⟩:=dY ud;obtain⟨⟨e0,e1⟩,_,xf⟩:=cB uv;clear ud uv
 go_upto_region 5 with(go_at_call 246;refine vx.out.mono ?_;rintro e w4 ⟨rfl,vc⟩;have we:=zH vc;clear vc)
 obtain⟨O4,s4,k4,x4,o4⟩:=we.out;have vd:=x4.heap vr.out vu.out;obtain⟨⟨b0,b1,b2,b3,b4,b5,b6⟩,_,xj⟩:=dY vd;have wg:=zH (iR ⟨1,AJ x V,0,0,n,d,f⟩ w4 k4 vi);have wi:cm (∀w5,dx m p L X (En x V bI) (I++[⟨1,AJ x V,0,0,n,d,f⟩]) S O4 w4 w5->dx m p L X (En x V bI) (I++[⟨1,AJ x V,0,0,n,d,f⟩]) S O w w5):=λw5 h5=>(dx.trans x4 o4 h5).below vq.out;clear k4 x4 o4 vd a0 a1 a2 a3 a4 a5 a6 e0 e1
 go_wp2_with (go_at_call 223;refine wg.out.mono ?_;rintro e w5 ⟨rfl,vf⟩;have wj:=zH (wi.out _ vf);clear vf)
 go_ret;exact⟨rfl,wj.out⟩
theorem Gq {m:bx}{p:Pg}{L:bx}{X:Fx}{V:bm Ty}{I:bm gB}{S:bm (aE×bx)}{O:bx->Prop}{s:Sl}(n:bp)(nm:aE)(J cl:bp)(D:Ty)(x:bp)(j:bx)(z:aE×bx)(hj:S[j]?=tB z)(hn:(z.1==nm)=tE)(hl:∀q y,j<q->S[q]?=tB y->(y.1==nm)=tG)(y:Ty)(hy:V[z.2]?=tB y)(hx:x<0)(w:World)(h:Mk m p L X V I S O s w)(vm:V.length+1<=1000)(vp:I.length+1<=1000):
  gd ac 217 #[tR (tB ⟨m,0,tD⟩),tW #[Z U 2,Z U n,tM nm,tM ⟨#[]⟩,tP tD 0 0,Z U J,Z U cl],tW #[tU D.1,tM D.2],Z U x] w λe w'=>e= ub (Z U (z.2:bp))/\dx m p L X V I S O w w':=by
 obtain⟨N,f⟩:=zE w.heap.size;obtain⟨u,A⟩:=zE ((w.alloc (ua #[Z U 2,Z U n,tM nm,tM ⟨#[]⟩,tP tD 0 0,Z U J,Z U cl] 313)).alloc (ua #[tU D.1,tM D.2] 32));obtain⟨d,v⟩:=zE (u.alloc (ua #[tU tG,tM ⟨#[]⟩] 32));have uv:=uF A f;have uc:u.heap.size=N+2:=by rw[<-A];simp[f]
 have ud:bh N w d:=by rw[<-v];exact uv.alloc (by omega) _
 have ux:d.heap.size=N+3:=by rw[<-v];simp[uc]
 have ue:d.heap[N]?=tB (ua #[Z U 2,Z U n,tM nm,tM ⟨#[]⟩,tP tD 0 0,Z U J,Z U cl] 313 (0,0)):=by
  rw[<-v];refine(cn _ _ N (by omega)).trans ?_;rw[<-A,<-f];exact ia _ _ _
 have va:d.heap[N+2]?=tB (ua #[tU tG,tM ⟨#[]⟩] 32 (0,0)):=by rw[<-v,<-uc];exact alloc_at _ _
 have G:Mk m p L X V I S O s d:=h.grow (by rw[f];exact ud);have vq:m<N:=by have:=ae h.row;omega
 have vc:¬(N=m\/O N):=by rintro(h1|h1);omega;have:=(h.ol N h1).2;omega
 have hst:∀(c:da cd),c.size=2->(dr ⟨u.heap.size,0,tD⟩ [tU tG,tM ⟨#[]⟩] 0).run ac (u.alloc (ua c 32))= .ok () (u.alloc (ua #[tU tG,tM ⟨#[]⟩] 32)):=λc hc=>
  ct (P:=ac) u 32 c #[tU tG,tM ⟨#[]⟩] (by show _=tB 2;kernel_rfl) hc (by simp[cj])
 have ur:bh w.heap.size w d:=by rw[f];exact ud
 have vd:=zH hst;have vf:=zH A;have vh:=zH v;have vr:=zH ur;have vu:=zH ue;have vx:=zH vc;have vy:=zH ux;have we:=zH f;have vi:cm (zS 218 #[tR (tB ⟨m,0,tD⟩),tM nm] d (Z U (z.2:bp))):=oF nm j z hj hn hl d G;have wg:cm (zP 219 #[tR (tB ⟨m,0,tD⟩),Z U (z.2:bp)] d (tW #[tU y.1,tM y.2])):=qH z.2 y hy d G;have wi:=zH G;have HS:cm (dx m p L X V I S O w d):=h.same ur;clear h A v uv ud ux G hst ur vc hj hn hl hy;go_enter rI,qt
 go_upto_region 1 with(fail)
 rw[vf.out];have vj:=vd.out
 go_upto_region 2 with(fail)
 rw[vh.out];(try simp only[uc]);clear vj;obtain⟨⟨a0,a1,a2,a3,a4,a5,a6⟩,_,wj⟩:=dY ue;obtain⟨⟨e0,e1⟩,_,wk⟩:=cB va;clear ue va
 go_wp2_with (go_at_call 218;refine vi.out.mono ?_;rintro e d ⟨rfl,rfl⟩)
 go_ret;exact⟨rfl,HS.out⟩
theorem xP {m:bx}{p:Pg}{L:bx}{X:Fx}{V:bm Ty}{I:bm gB}{S:bm (aE×bx)}{O:bx->Prop}{s:Sl}(n:bp)(nm:aE)(f u:bp)(J:Ty)(x:bp)(j:bx)(z:aE×bx)(hj:S[j]?=tB z)(hn:(z.1==nm)=tE)(hl:∀q y,j<q->S[q]?=tB y->(y.1==nm)=tG)(y:Ty)(hy:V[z.2]?=tB y)(hx:0<=x)(hp:y.1=tE)(w:World)(h:Mk m p L X V I S O s w)(xf:V.length+1<=1000)(vm:I.length+1<=1000):
  gd ac 217 #[tR (tB ⟨m,0,tD⟩),tW #[Z U 2,Z U n,tM nm,tM ⟨#[]⟩,tP tD 0 0,Z U f,Z U u],tW #[tU J.1,tM J.2],Z U x] w λe w'=>e= ub (Z U x)/\dx m p L X V (I++[⟨9,x,(z.2:bp),0,0,f,u⟩]) S O w w':=by
 obtain⟨N,v⟩:=zE w.heap.size;obtain⟨A,G⟩:=zE ((w.alloc (ua #[Z U 2,Z U n,tM nm,tM ⟨#[]⟩,tP tD 0 0,Z U f,Z U u] 313)).alloc (ua #[tU J.1,tM J.2] 32));obtain⟨d,D⟩:=zE (A.alloc (ua #[tU tG,tM ⟨#[]⟩] 32));have uv:=uF G v;have uc:A.heap.size=N+2:=by rw[<-G];simp[v]
 have ud:bh N w d:=by rw[<-D];exact uv.alloc (by omega) _
 have ux:d.heap.size=N+3:=by rw[<-D];simp[uc]
 have ue:d.heap[N]?=tB (ua #[Z U 2,Z U n,tM nm,tM ⟨#[]⟩,tP tD 0 0,Z U f,Z U u] 313 (0,0)):=by
  rw[<-D];refine(cn _ _ N (by omega)).trans ?_;rw[<-G,<-v];exact ia _ _ _
 have va:d.heap[N+2]?=tB (ua #[tU tG,tM ⟨#[]⟩] 32 (0,0)):=by rw[<-D,<-uc];exact alloc_at _ _
 have h3:Mk m p L X V I S O s d:=h.grow (by rw[v];exact ud);have xj:m<N:=by have:=ae h.row;omega
 have vc:¬(N=m\/O N):=by rintro(h1|h1);omega;have:=(h.ol N h1).2;omega
 have hst:∀(c:da cd),c.size=2->(dr ⟨A.heap.size,0,tD⟩ [tU tG,tM ⟨#[]⟩] 0).run ac (A.alloc (ua c 32))= .ok () (A.alloc (ua #[tU tG,tM ⟨#[]⟩] 32)):=λc hc=>
  ct (P:=ac) A 32 c #[tU tG,tM ⟨#[]⟩] (by show _=tB 2;kernel_rfl) hc (by simp[cj])
 have vd:bh w.heap.size w d:=by rw[v];exact ud
 have vp:=zH hst;have vq:=zH G;have vr:=zH D;have vu:=zH vd;have vx:=zH ue;have xl:=zH vc;have xo:=zH ux;have xp:=zH v;have vy:cm (zS 218 #[tR (tB ⟨m,0,tD⟩),tM nm] d (Z U (z.2:bp))):=oF nm j z hj hn hl d h3;have vf:cm (zP 219 #[tR (tB ⟨m,0,tD⟩),Z U (z.2:bp)] d (tW #[tU y.1,tM y.2])):=qH z.2 y hy d h3;have we:=zH h3;clear h G D uv ud ux h3 hst vd vc hj hn hl hy;go_enter rI,qt
 go_upto_region 1 with(fail)
 rw[vq.out];have wg:=vp.out
 go_upto_region 2 with(fail)
 rw[vr.out];(try simp only[uc]);clear wg;obtain⟨⟨a0,a1,a2,a3,a4,a5,a6⟩,_,wi⟩:=dY ue;obtain⟨⟨e0,e1⟩,_,xr⟩:=cB va;clear ue va;have wj:=λ(W:World)=>CV tE y.2 W;have wk:cm (zP 219 #[tR (tB ⟨m,0,tD⟩),Z U (z.2:bp)] d (tW #[tU tE,tM y.2])):=by have:=vf.out;rw[hp] at this;exact this
 clear vf hp
 go_upto_region 14 with(first
  |(go_at_call 218;refine vy.out.mono ?_;rintro e d ⟨rfl,rfl⟩)
  |(go_at_call 219;refine wk.out.mono ?_;rintro e w4 ⟨rfl,vh⟩;have ur:=zH vh;clear vh))
 clear wj;have k4:=we.out.grow ur.out;have vi:=(ur.out.block N wi).trans vx.out;obtain⟨⟨b0,b1,b2,b3,b4,b5,b6⟩,_,xt⟩:=dY vi;have wl:=zH (iR ⟨9,x,(z.2:bp),0,0,f,u⟩ w4 k4 vm);have ws:cm (∀w5,dx m p L X V (I++[⟨9,x,(z.2:bp),0,0,f,u⟩]) S O w4 w5->dx m p L X V (I++[⟨9,x,(z.2:bp),0,0,f,u⟩]) S O w w5):=λw5 h5=>(h5.below ur.out).below vu.out;clear k4 vi a0 a1 a2 a3 a4 a5 a6 e0 e1
 go_wp2_with (go_at_call 223;refine wl.out.mono ?_;rintro e w5 ⟨rfl,vj⟩;have wx:=zH (ws.out _ vj);clear vj)
 go_ret;exact⟨rfl,wx.out⟩
theorem zl {m:bx}{p:Pg}{L:bx}{X:Fx}{V:bm Ty}{I:bm gB}{S:bm (aE×bx)}{O:bx->Prop}{s:Sl}(n:bp)(nm:aE)(u v:bp)(wt:Ty)(x:bp)(w:World)(h:Mk m p L X V I S O s w)(wg:V.length+1<=1000)(wi:I.length+1<=1000):
  gd ac 217 #[tR (tB ⟨m,0,tD⟩),tW #[Z U 7,Z U n,tM nm,tM ⟨#[]⟩,tP tD 0 0,Z U u,Z U v],tW #[tU wt.1,tM wt.2],Z U x] w λe w'=>e= ub (Z U (AJ x V))/\dx m p L X (En x V (tE,nm)) (I++[⟨12,AJ x V,0,ow p nm,0,u,v⟩]) S O w w':=by
 obtain⟨N,J⟩:=zE w.heap.size;obtain⟨W2,ud⟩:=zE ((w.alloc (ua #[Z U 7,Z U n,tM nm,tM ⟨#[]⟩,tP tD 0 0,Z U u,Z U v] 313)).alloc (ua #[tU wt.1,tM wt.2] 32));obtain⟨A,uc⟩:=zE (W2.alloc (ua #[tU tG,tM ⟨#[]⟩] 32));have vi:=uF ud J;have ur:W2.heap.size=N+2:=by rw[<-ud];simp[J]
 have uv:bh N w A:=by rw[<-uc];exact vi.alloc (by omega) _
 have vj:A.heap.size=N+3:=by rw[<-uc];simp[ur]
 have ux:A.heap[N]?=tB (ua #[Z U 7,Z U n,tM nm,tM ⟨#[]⟩,tP tD 0 0,Z U u,Z U v] 313 (0,0)):=by
  rw[<-uc];refine(cn _ _ N (by omega)).trans ?_;rw[<-ud,<-J];exact ia _ _ _
 have vm:A.heap[N+2]?=tB (ua #[tU tG,tM ⟨#[]⟩] 32 (0,0)):=by rw[<-uc,<-ur];exact alloc_at _ _
 have h3:Mk m p L X V I S O s A:=h.grow (by rw[J];exact uv);have yb:m<N:=by have:=ae h.row;omega
 have vp:¬(N=m\/O N):=by rintro(h1|h1);omega;have:=(h.ol N h1).2;omega
 have hst:∀(c:da cd),c.size=2->(dr ⟨W2.heap.size,0,tD⟩ [tU tG,tM ⟨#[]⟩] 0).run ac (W2.alloc (ua c 32))= .ok () (W2.alloc (ua #[tU tG,tM ⟨#[]⟩] 32)):=λc hc=>
  ct (P:=ac) W2 32 c #[tU tG,tM ⟨#[]⟩] (by show _=tB 2;kernel_rfl) hc (by simp[cj])
 have vq:bh w.heap.size w A:=by rw[J];exact uv
 have wj:=zH hst;have wk:=zH ud;have wl:=zH uc;have ws:=zH vq;have wx:=zH ux;have xf:=zH vp;have yd:=zH vj;have ye:=zH J;have xj:=zH (rX x (tE,nm) A h3 wg);clear h ud uc vi uv vj h3 hst vq vp;go_enter rI,qt
 go_upto_region 1 with(fail)
 rw[wk.out];have xl:=wj.out
 go_upto_region 2 with(fail)
 rw[wl.out];(try simp only[ur]);clear xl;obtain⟨⟨a0,a1,a2,a3,a4,a5,a6⟩,_,yi⟩:=dY ux;obtain⟨⟨e0,e1⟩,_,yk⟩:=cB vm;clear ux vm
 go_upto_region 33 with(go_at_call 246;refine xj.out.mono ?_;rintro e f ⟨rfl,ue⟩;have xo:=zH ue;clear ue)
 obtain⟨O4,s4,k4,x4,o4⟩:=xo.out;have va:=x4.heap wx.out xf.out;have xp:=ae va;have ue:=ae k4.row;have vr:∀W,bh f.heap.size f W->W.cell? ⟨N,0,tD⟩=tB (Z U 7)/\W.cell? ⟨N,1,tD⟩=tB (Z U n)/\W.cell? ⟨N,2,tD⟩=tB (tM nm)/\W.cell? ⟨N,3,tD⟩=tB (tM ⟨#[]⟩)/\W.cell? ⟨N,4,tD⟩=tB (tP tD 0 0)/\W.cell? ⟨N,5,tD⟩=tB (Z U u)/\W.cell? ⟨N,6,tD⟩=tB (Z U v)/\W.cell? ⟨m,0,tD⟩=tB (tP (tB ⟨p.pA,0,tD⟩) 1 p.pC)/\W.cell? ⟨m,1,tD⟩=tB (tP (tB ⟨p.qA,0,tD⟩) 1 p.qC):=λW D=>by
  have G:=(D.block N xp).trans va;have r2:=(k4.grow D).row;exact⟨(rowAt G 0 rfl).1,(rowAt G 1 rfl).1,(rowAt G 2 rfl).1,(rowAt G 3 rfl).1,(rowAt G 4 rfl).1,(rowAt G 5 rfl).1,(rowAt G 6 rfl).1,(rowAt r2 0 rfl).1,(rowAt r2 1 rfl).1⟩
 have vu:∀W,bh f.heap.size f W->zP 212 #[tW #[tP (tB ⟨p.pA,0,tD⟩) 1 p.pC,tP (tB ⟨p.qA,0,tD⟩) 1 p.qC],tM nm] W (Z U (ow p nm)):=λW D=>gJ nm W (k4.grow D).pg;have xr:cm (∀W,bh f.heap.size f W->gd ac 223 #[tR (tB ⟨m,0,tD⟩),tW #[Z U 12,Z U (AJ x V),Z U 0,Z U 0,Z U (ow p nm),Z U 0,tM ⟨#[]⟩,tP tD 0 0,tP tD 0 0,Z U 0,Z U 0,Z U u,Z U v]] W λe w'=>e= ub (Z U (I.length:bp))/\dx m p L X (En x V (tE,nm)) (I++[⟨12,AJ x V,0,ow p nm,0,u,v⟩]) S O w w'):=λW D=>
  (iR ⟨12,AJ x V,0,ow p nm,0,u,v⟩ W (k4.grow D) wi).mono λe w5 h5=>⟨h5.1,(dx.trans x4 o4 (h5.2.below D)).below ws.out⟩
 have q:=zH vr;have xt:=zH vu;obtain⟨S1,vc⟩:=zE ((λw'=>bh f.heap.size f w'):World->Prop);have vx:∀w,S1 w->bh f.heap.size f w:=λw h=>by rw[<-vc] at h;exact h
 have vd:∀w,bh f.heap.size f w->S1 w:=λw h=>by rw[<-vc];exact h
 have vf:S1 f.drew:=vd _ (aq _ _).drew;have d:=zH vx;have xF:=zH vd;clear k4 x4 o4 va vr vu vc vx vd a0 a1 a2 a3 a4 a5 a6 e0 e1 ue;refine ak 12 S1 (by kernel_rfl) ?_;refine zT 0 rfl (λw h=>q.out w (d.out w h)) ?_;(try go_simp);refine zT 1 rfl (λw h=>q.out w (d.out w h)) ?_;(try go_simp);refine zT 2 rfl (λw h=>q.out w (d.out w h)) ?_;(try go_simp);refine zT 3 rfl (λw h=>q.out w (d.out w h)) ?_;(try go_simp);refine zT 4 rfl (λw h=>q.out w (d.out w h)) ?_;(try go_simp);refine zT 5 rfl (λw h=>q.out w (d.out w h)) ?_;(try go_simp);refine zT 6 rfl (λw h=>q.out w (d.out w h)) ?_;(try go_simp);refine zT 7 rfl (λw h=>q.out w (d.out w h)) ?_;(try go_simp);refine zT 9 rfl (λw h=>q.out w (d.out w h)) ?_;(try go_simp);refine zT 10 rfl (λw h=>q.out w (d.out w h)) ?_;(try go_simp);refine zO 8 rfl λK' hK=> ?_;go_simp;go_at_call 212;refine(xt.out _ (d.out _ (by assumption))).mono ?_;rintro e w5 ⟨rfl,vy⟩;have vh:S1 w5:=xF.out _ ((d.out _ vf).trans (vy.mono (d.out _ vf).size));have xT:=zH vh;refine hK _ _ vh ?_;clear hK;(try go_simp);refine zT 11 rfl (λw h=>q.out w (d.out w h)) ?_;(try go_simp);refine zK rfl λK' hK=> ?_;go_simp;go_at_call 223;refine(xr.out _ (d.out _ xT.out)).mono ?_;rintro e w6 ⟨rfl,we⟩;refine hK _ _ ?_;clear hK;refine⟨by kernel_rfl, ?_⟩;have ya:=zH we;clear we vy vh vf;go_wp2;go_ret;exact⟨rfl,ya.out⟩
theorem Bj {m:bx}{p:Pg}{L:bx}{X:Fx}{V:bm Ty}{I:bm gB}{S:bm (aE×bx)}{O:bx->Prop}{s:Sl}(vd:X.os= tP tD 0 0)(tb:nj)(ts nm:aE)(g cp:bx)(J:Ex)(D:g<L/\∀(j:bx)(u:cd),J.cells.toList[j]?=tB u->∀W,jA p L W->W.cell? ⟨g,j,tD⟩=tB u)(d:bp)(V2:bm Ty)(I2:bm gB)(vq:I2.length+1<=1000)
  (vf:∀W O s,Mk m p L X V I S O s W->gd ac 217 #[tR (tB ⟨m,0,tD⟩),tW J.cells,tW #[tU X.rt.1,tM X.rt.2],Z U (-1)] W λe w'=>e= ub (Z U d)/\dx m p L X V2 I2 S O W w')(ln cl:bp)(w:World)(h:Mk m p L X V I S O s w):
  gd ac 180 #[tR (tB ⟨m,0,tD⟩),tW #[Z U 8,tU tb,tM ts,tM nm,tP (tB ⟨g,0,tD⟩) 1 cp,tP tD 0 0,tP tD 0 0,Z U ln,Z U cl]] w λe w'=>e= ub (.tuple #[])/\dx m p L X V2 (I2++[⟨18,0,d,0,0,ln,cl⟩]) S O w w':=by
 obtain⟨N,hN⟩:=zE w.heap.size;obtain⟨f,uc⟩:=zE (w.alloc (ua #[Z U 8,tU tb,tM ts,tM nm,tP (tB ⟨g,0,tD⟩) 1 cp,tP tD 0 0,tP tD 0 0,Z U ln,Z U cl] 282));have ue:=iV uc hN;have ud:f.heap[N]?=tB (ua #[Z U 8,tU tb,tM ts,tM nm,tP (tB ⟨g,0,tD⟩) 1 cp,tP tD 0 0,tP tD 0 0,Z U ln,Z U cl] 282 (0,0)):=by rw[<-uc,<-hN];exact alloc_at _ _
 have wx:=ae ud;have G:Mk m p L X V I S O s f:=h.grow (by rw[hN];exact ue);have vh:bh w.heap.size w f:=by rw[hN];exact ue
 have xf:=ae G.row;have xj:m<N:=by have:=ae h.row;omega
 have vi:¬(N=m\/O N):=by rintro(G|G);omega;have:=(h.ol N G).2;omega
 have vr:f.cell? ⟨m,15,tD⟩=tB (Z U 0):=(rowAt G.row 15 rfl).1;have vu:f.cell? ⟨m,19,tD⟩=tB (tP tD 0 0):=by rw[<-vd];exact(rowAt G.row 19 rfl).1
 obtain⟨⟨a0,a1,a2,a3,a4,a5,a6,a7,a8⟩,_,_⟩:=fQ ud;have vx:=zH uc;have vy:=zH vh;have we:=zH ud;have wg:=zH vi;have xl:=zH hN;obtain⟨S1,ur⟩:=zE ((λw':World=>w'.cell? ⟨g,0,tD⟩=tB (Z U J.kind)/\w'.cell? ⟨g,1,tD⟩=tB (Z U J.n)/\w'.cell? ⟨g,2,tD⟩=tB (tM J.nm)/\w'.cell? ⟨g,3,tD⟩=tB (tM ⟨#[]⟩)/\w'.cell? ⟨g,4,tD⟩=tB (tP tD 0 0)/\w'.cell? ⟨g,5,tD⟩=tB (Z U J.ln)/\w'.cell? ⟨g,6,tD⟩=tB (Z U J.cl)/\w'.cell? ⟨m,2,tD⟩=tB (tU X.rt.1)/\w'.cell? ⟨m,3,tD⟩=tB (tM X.rt.2)/\w'.cell? ⟨N,4,tD⟩=tB (tP (tB ⟨g,0,tD⟩) 1 cp)):World->Prop);have vj:∀w,S1 w->_:=λw h=>by rw[<-ur] at h;exact h
 have uv:∀W V I O s,Mk m p L X V I S O s W->W.cell? ⟨N,4,tD⟩=tB (tP (tB ⟨g,0,tD⟩) 1 cp)->S1 W:=λW V I O s v hc=>by
  rw[<-ur];exact⟨D.2 0 _ rfl W v.pg,D.2 1 _ rfl W v.pg,D.2 2 _ rfl W v.pg,D.2 3 _ rfl W v.pg,D.2 4 _ rfl W v.pg,D.2 5 _ rfl W v.pg,D.2 6 _ rfl W v.pg,(rowAt v.row 2 rfl).1,(rowAt v.row 3 rfl).1,hc⟩
 have ux:Mk m p L X V I S O s f.drew:=G.grow (aq _ _).drew;have wi:S1 f.drew:=uv _ _ _ _ _ ux a4;have hV:=vf f.drew O s ux;unfold Ex.cells at hV;have HV:=zH hV;have A:=zH vj;have wj:=zH uv;clear h G uc ue ud vh vi vd ux ur vj uv hV vf D;go_enter func180,ntmps180
 go_upto_region 1 with(fail)
 rw[vx.out]
 go_upto_region 24 with(fail)
 refine ak 10 S1 (by kernel_rfl) ?_;refine zT 0 rfl A.out ?_;(try go_simp);refine zT 1 rfl A.out ?_;(try go_simp);refine zT 2 rfl A.out ?_;(try go_simp);refine zT 3 rfl A.out ?_;(try go_simp);refine zT 4 rfl A.out ?_;(try go_simp);refine zT 5 rfl A.out ?_;(try go_simp);refine zT 6 rfl A.out ?_;(try go_simp);refine zT 7 rfl A.out ?_;(try go_simp);refine zT 8 rfl A.out ?_;(try go_simp);refine zO 9 rfl λK' hK=> ?_;go_simp;go_at_call 217;refine HV.out.mono ?_;rintro e w4 ⟨rfl,O4,s4,k4,x4,o4⟩;have va:Ext (λq=>q=m\/O q) f w4:=((Ext.refl _ _).drew).trans x4 (λq h=> .inl h);have vc:=va.heap we.out wg.out;have vm:S1 w4:=wj.out _ _ _ _ _ k4 (rowAt vc 4 rfl).1;obtain⟨⟨b0,b1,b2,b3,b4,b5,b6,b7,b8⟩,_,xo⟩:=fQ vc;have wk:=zH (iR ⟨18,0,d,0,0,ln,cl⟩ w4 k4 vq);have wl:cm (∀w5,dx m p L X V2 (I2++[⟨18,0,d,0,0,ln,cl⟩]) S O4 w4 w5->dx m p L X V2 (I2++[⟨18,0,d,0,0,ln,cl⟩]) S O w w5):=λw5 h5=>(dx.trans va o4 h5).below vy.out;refine hK _ _ vm ?_;clear hK k4 x4 o4 vc a0 a1 a2 a3 a4 a5 a6 a7 a8 vr vu;(try go_simp);refine zK rfl λK' hK=> ?_;go_simp;refine hK _ _ ?_;clear hK;refine⟨by kernel_rfl, ?_⟩;clear vm wi va
 go_wp2_with (go_at_call 223;refine wk.out.mono ?_;rintro e w5 ⟨rfl,vp⟩;have ws:=zH (wl.out _ vp);clear vp)
 go_end0
 exact⟨rfl,ws.out⟩
theorem bZ {P:km}{w:World}{o:ke}{a:Act}{Q:Exit->Act->World->Prop}{K:Act->World->Prop}(s x:Operand)(t:gx)
  (J:o.op= .call {callee:= .builtin .append,args:=#[s,x],argTypes:=#[t,t]})(e:gx)(i:TypeInfo)(z:cd)(size py:bx)(h1:P.underlying t=tB (.slice e))(h2:P.info? e=tB i)(h3:i.zero=tB z)(h4:i.size=size)(h5:i.bytes=py)(h6:z.cells.size=size)(h7:0<size)
  (q:eA Addr)(n cap:bx)(h:bm cd)(hs:a.eval s= tP q n cap)(ud:q=tD->n=0/\cap=0)(uc:h.length=n*size)(ue:∀b,q=tB b->∀j u,h[j]?=tB u->w.cell? (b.add j)=tB u)
  (v:Addr)(m c:bx)(d:bm cd)(hx:a.eval x= tP (tB v) m c)(hn:d.length=m*size)(hc:∀j u,d[j]?=tB u->w.cell? (v.add j)=tB u)(ur:∀u∈d,u.oneCell'=tE)
  (uv:cap<n+m)(b1:n+m<=dT)(b2:(n+m)*py<=140737488355328)
  (hK:∀f w',w'.ownsRow w.heap.size e size f (n+m) (h++d)->w.grownBy w' tD->K (a.put o.dst f) w'):lR P o a w K Q:=by
 cases q with
 |some b=>
  obtain⟨f,w',A,D,G⟩:=run_append_arg_grows (P:=P) w t o.type e i z size py h1 h2 h3 h4 h5 h6 h7 b n cap h uc (ue b rfl) v m c d hn hc uv b1 b2;unfold lR;simp[execOp,J,resolve,invoke,builtin,hs,hx,A,fX];exact hK f w' D G
 |none=>
  obtain⟨rfl,rfl⟩:=ud rfl;obtain rfl:h=[]:=du (by simpa using uc);obtain⟨f,w',A,D,G,_⟩:=run_append_own (P:=P) w w.heap.size t o.type e i z size py h1 h2 h3 h4 h5 h6 h7 (tP tD 0 0) 0 [] (World.ownsRow_nil w _ e size) v m c d hn hc ur b1 b2 (ce _);unfold lR;simp[execOp,J,resolve,invoke,builtin,hs,hx,A,fX];exact hK f w' D G
end Go.Proofs.YtjomgckjhcfbgaaGreat
