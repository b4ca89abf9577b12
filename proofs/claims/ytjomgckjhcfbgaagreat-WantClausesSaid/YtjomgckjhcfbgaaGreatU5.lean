/- Walks. -/
import Derived.ArgAppend
import Derived.Test.YtjomgckjhcfbgaaGreatU4
set_option maxRecDepth 100000
set_option maxHeartbeats 64000000
set_option linter.all false
namespace Go.Proofs.YtjomgckjhcfbgaaGreat
open Go.RowKit
open Go.Proofs.Tryz renaming prog→am
open _root_.List renaming getElem?_eq_getElem→ap,getElem?_eq_some_iff→bl,eq_nil_of_length_eq_zero→dr,flatMap_append→gn
open Go.RowKit.Below renaming refl→aq,heap_alloc→cJ
open _root_ renaming Int→aw,Nat→bh,List→bj,ByteArray→bm,if_neg→bx,Option→cG,if_pos→cI,Array→eA,False→me,Bool→mm
open Go.RowKit renaming Below→aE,Hid→cj,intOf→de
open Go renaming heap_setCell_same→bk,cell_of_row→bw,run_storeCells_new→cx,Value→cA,storeCells→dt,maxLen→eC,Addr→fS,beq_toListBytes→fY,Calls→ge,TypeId→gt,heap_alloc2_old→kp,info_parts→kB,Program→lr,Oper→mS,bytes→rr,Operand→tE
open _root_.Nat renaming le_refl→cg,lt_of_lt_of_le→cH,zero_add→cL,le_trans→eJ,add_zero→ki
open Go.Value renaming slice→ci,oneCell'→ct,string→tS,slice→tU,pointer→tW,bool→ua,agg→ub,int→Z
open Go.Addr renaming add_lit→cY
open Go.Result renaming andThen→mT
open Go.Oper renaming wp→nd
open _root_.Option renaming some→tG,none→tM
open _root_.Bool renaming true→tP,false→tR
open Go.Obj renaming cells→uc
open Go.Ending renaming returned→ud
open Go.IntKind renaming i64→U
open Tryz
theorem FD:(am.info? 34).map (λi=>(i.zero,i.size,i.bytes))=tG (tG (ub #[ua tR,tS ⟨#[]⟩,Z U 0]),3,32):=by kernel_rfl
theorem FE:(am.info? 42).map (λi=>(i.zero,i.size,i.bytes))=tG (tG (ub #[Z U 0,Z U 0,Z U 0,Z U 0,Z U 0,Z U 0,tS ⟨#[]⟩,tU tM 0 0,tU tM 0 0,Z U 0,Z U 0,Z U 0,Z U 0]),13,144):=by kernel_rfl
structure Fx where
 rt:Ty
 nm:bm
 pr:cA
 r7:cA
 r8:cA
 r9:cA
 fr:cA
 hs:cA
 os:cA
structure Sl where
 vA:cG fS
 vC:bh
 iA:cG fS
 iC:bh
 sA:cG fS
 sC:bh
 wA:cG fS
 wC:bh
structure gV where
 op:aw
 d:aw
 a:aw
 f:aw
 n:aw
 ln:aw
 cl:aw
def gV.cells (i:gV):eA cA:=#[Z U i.op,Z U i.d,Z U i.a,Z U 0,Z U i.f,Z U i.n,tS ⟨#[]⟩,tU tM 0 0,tU tM 0 0,Z U 0,Z U 0,Z U i.ln,Z U i.cl]
def IP (i:gV):bj cA:=i.cells.toList
def IQ (y:Ty):bj cA:=[ua y.1,tS y.2,Z U 0]
def GG (p:Pg)(X:Fx)(s:Sl)(e f d:bh):eA cA:=
 #[tU (tG ⟨p.pA,0,tM⟩) 1 p.pC,tU (tG ⟨p.qA,0,tM⟩) 1 p.qC,ua X.rt.1,tS X.rt.2,tS X.nm,X.pr,tU s.vA e s.vC,X.r7,X.r8,X.r9,X.fr,tU s.iA f s.iC,tU s.sA d s.sC,tU s.wA d s.wC,Z U 0,Z U 0,Z U 0,Z U 0,X.hs,X.os]
structure Mk (m:bh)(p:Pg)(L:bh)(X:Fx)(V:bj Ty)(I:bj gV)(S:bj (bm×bh))(O:bh->Prop)(s:Sl)(w:World):Prop where
 row:w.heap[m]?=tG (uc (GG p X s V.length I.length S.length) 236 (0,0))
 pg:jI p L w
 hm:L<=m
 vars:w.ownsRow (m+1) 34 3 (tU s.vA V.length s.vC) V.length (V.flatMap IQ)
 ins:w.ownsRow (m+1) 42 13 (tU s.iA I.length s.iC) I.length (I.flatMap IP)
 dis:∀k,(ci s.vA V.length s.vC).ownBlock=tG k->(ci s.iA I.length s.iC).ownBlock=tG k->me
 ov:∀k,(ci s.vA V.length s.vC).ownBlock=tG k->O k
 oi:∀k,(ci s.iA I.length s.iC).ownBlock=tG k->O k
 ol:∀k,O k->m<k/\k<w.heap.size
 seen:aJ (λx:bm×bh=>#[tS x.1]) 1 w w.heap.size s.sA S
 whic:aJ (λx:bm×bh=>#[Z U (x.2:aw)]) 1 w w.heap.size s.wA S
 ns:∀a,S≠[]->(s.sA=tG a\/s.wA=tG a)->a.block≠m/\¬O a.block
 lV:V.length<=1000
 lI:I.length<=1000
 lS:S.length<=1000
 cS:S.length<=s.sC/\S.length<=s.wC
section
variable {m:bh}{p:Pg}{L:bh}{X:Fx}{V:bj Ty}{I:bj gV}{S:bj (bm×bh)}{O:bh->Prop}{s:Sl}{w w':World}
theorem aJ.stay {α:Type}{cells:α->eA cA}{d:bh}{w w':World}{ao:cG fS}{xs:bj α}{M:bh->Prop}(h:aJ cells d w w.heap.size ao xs)(f:Ext M w w')(q:∀a,xs≠[]->ao=tG a->¬M a.block):aJ cells d w' w'.heap.size ao xs:=by
 intro g;obtain⟨b,e,j,o,t⟩:=h g;exact⟨b,e,j,cH o f.size,λi x hi k u v=>(f.cell (a:=⟨b,e+i*d+k,tM⟩) o (q ⟨b,e,tM⟩ g j)).trans (t i x hi k u v)⟩
theorem Mk.ext {M:bh->Prop}(h:Mk m p L X V I S O s w)(d:Ext M w w')(j:∀k,k<=m->¬M k)(o:∀k,O k->¬M k)(q:∀a,S≠[]->(s.sA=tG a\/s.wA=tG a)->¬M a.block):Mk m p L X V I S O s w':=
 ⟨d.heap h.row (j m (cg _)),h.pg.ext d (λk f=>j k (by have:=h.hm;omega)),h.hm,ah h.vars d (λk f=>o k (h.ov k f)),ah h.ins d (λk f=>o k (h.oi k f)),h.dis,h.ov,h.oi,λk f=>⟨(h.ol k f).1,cH (h.ol k f).2 d.size⟩,
  h.seen.stay d (λa g e=>q a g (.inl e)),h.whic.stay d (λa g e=>q a g (.inr e)),h.ns,h.lV,h.lI,h.lS,h.cS⟩
theorem Mk.grow (h:Mk m p L X V I S O s w)(d:aE w.heap.size w w'):Mk m p L X V I S O s w':=h.ext (Ext.of_below_size (M:=λ_=>me) d) (λ_ _ h=>h) (λ_ _ h=>h) (λ_ _ _ h=>h)
end
def dN (m:bh)(p:Pg)(L:bh)(X:Fx)(V:bj Ty)(I:bj gV)(S:bj (bm×bh))(O:bh->Prop)(w w':World):Prop:=
 ∃d e,Mk m p L X V I S d e w'/\Ext (λq=>q=m\/O q) w w'/\∀k,d k->O k\/w.heap.size<=k
theorem dN.trans {m:bh}{p:Pg}{L:bh}{X:Fx}{V2:bj Ty}{I2:bj gV}{e:bj (bm×bh)}{O f:bh->Prop}{w g w2:World}(j:Ext (λq=>q=m\/O q) w g)(o:∀k,f k->O k\/w.heap.size<=k)(h:dN m p L X V2 I2 e f g w2):dN m p L X V2 I2 e O w w2:=by
 obtain⟨t,u,v,x,y⟩:=h;refine⟨t,u,v,j.trans x (λq d=> ?_),λk z=> ?_⟩
 ·rcases d with rfl|d
  ·exact .inl (.inl rfl)
  ·rcases o q d with h|h
   ·exact .inl (.inr h)
   ·exact .inr h
 ·rcases y k z with h|h
  ·exact o k h
  ·exact .inr (eJ j.size h)
theorem nk {m:bh}{p:Pg}{L:bh}{X:Fx}{V:bj Ty}{I:bj gV}{S:bj (bm×bh)}{O:bh->Prop}{s:Sl}(y:Ty)(w:World)(h:Mk m p L X V I S O s w)(hl:V.length+1<=1000):
  ge am 131 #[tW (tG ⟨m,0,tM⟩),ub #[ua y.1,tS y.2]] w λe w'=>e= ud (Z U (V.length:aw))/\dN m p L X (V++[y]) I S O w w':=by
 obtain⟨N,hN⟩:=zE w.heap.size;obtain⟨W1,ur⟩:=zE (w.alloc (uc #[ua y.1,tS y.2] 32));have vq:=iR ur hN;have vr:W1.heap[N]?=tG (uc #[ua y.1,tS y.2] 32 (0,0)):=by rw[<-ur,<-hN];exact alloc_at _ _
 have AH:=aa vr;have j:Mk m p L X V I S O s W1:=h.grow (by rw[hN];exact vq);have AI:m<N:=by have:=aa h.row;omega
 have xf:∀k,O k->k<N:=λk f=>by have:=(h.ol k f).2;omega
 obtain⟨v,hv⟩:=zE (ci s.vA V.length s.vC);have vt:=j.vars;rw[hv] at vt;obtain⟨i0,xj,xo,xp,xt⟩:=kB FD;obtain⟨R,vu⟩:=zE ((λw'=>w'.cell? ⟨m,6,tM⟩=tG v/\w'.heap[N]?=tG (uc #[ua y.1,tS y.2] 32 (0,0))):World->Prop);have xF:∀w,R w->w.cell? ⟨m,6,tM⟩=tG v/\w.heap[N]?=tG (uc #[ua y.1,tS y.2] 32 (0,0)):=λw h=>by rw[<-vu] at h;exact h
 have vx:∀w,w.cell? ⟨m,6,tM⟩=tG v/\w.heap[N]?=tG (uc #[ua y.1,tS y.2] 32 (0,0))->R w:=λw h=>by rw[<-vu];exact h
 have vy:=j.row;have AK:=aa vy;have we:W1.drew.heap[m]?=tG (uc (GG p X s V.length I.length S.length) 236 (0,0)):=vy;have wg:W1.drew.heap[N]?=tG (uc #[ua y.1,tS y.2] 32 (0,0)):=vr;have AM:R W1.drew:=vx _ ⟨by rw[<-hv];exact(rowAt we 6 rfl).1,wg⟩;have xT:=zH xF;have yb:=zH vx;have yW:=zH ur;have yd:=zH vq;have zc:=zH j;have AN:=zH vt;have zj:=zH we;have zp:=zH wg;have A:=zH hv;have zs:=zH xf;clear h ur vq vr j vt vu xF vx vy we wg hv xf;go_enter func131,ntmps131
 go_upto_region 1 with(fail)
 rw[yW.out];refine aj 13 R (by kernel_rfl) ?_;have o:=zH λw h=>And.intro (xT.out w h) (IJ (xT.out w h).2);refine zT 0 rfl o.out ?_;(try go_simp);refine zT 1 rfl o.out ?_;(try go_simp);refine zT 2 rfl o.out ?_;(try go_simp);refine zT 3 rfl o.out ?_;(try go_simp);refine zT 4 rfl o.out ?_;(try go_simp);refine zT 5 rfl o.out ?_;(try go_simp);refine zT 6 rfl o.out ?_;(try go_simp);refine zT 7 rfl o.out ?_;(try go_simp);refine zO 8 rfl λK' x=> ?_;go_simp;obtain⟨G,hG⟩:=zE W1.heap.size;obtain⟨W8,uv⟩:=zE ((W1.alloc (uc #[ua y.1,tS y.2,Z U 0] 34)).drew);(try rw[hG]);(try rw[uv]);have ux:aE G W1 W8:=by rw[<-uv,<-hG];exact((aq _ _).alloc (cg _) _).drew
 have ye:W8.heap[G]?=tG (uc #[ua y.1,tS y.2,Z U 0] 34 (0,0)):=by rw[<-uv,<-hG];exact alloc_at _ _
 have vc:=(ux.block m (by omega)).trans zj.out;have wj:=(ux.block N (by omega)).trans zp.out;refine x _ _ (yb.out _ ⟨by rw[<-A.out];exact(rowAt vc 6 rfl).1,wj⟩) ?_;clear x;(try go_simp);refine zO 9 rfl λK' x=> ?_;have vd:Ext (λ_=>me) W1 W8:=Ext.of_below_size (by rw[hG];exact ux);have d:Mk m p L X V I S O s W8:=zc.out.ext vd (λ_ _ h=>h) (λ_ _ h=>h) (λ_ _ _ h=>h);have wk:=d.vars;rw[A.out] at wk;have AS:=aa vc;refine aI (.tmp 10) (.tmp 13) 30 rfl (m+1) 34 i0 _ 3 32 underlying30 xj xo xp xt rfl (by decide) v V.length _ rfl wk (tG ⟨G,0,tM⟩) 1 1 [ua y.1,tS y.2,Z U 0] rfl rfl (λh=>by cases h) (λad zv jj uu hu=>by
  obtain rfl:(⟨G,0,tM⟩:fS)=ad:=by simpa using zv
  rw[cY,cL,bw _ _ _ _ _ _ ye];simpa using hu) (by simp[ct]) (by unfold eC;omega) (by omega) (by omega) ?_
 intro v9 w9 ue yi yk;have vf:Ext (λq=>v.ownBlock=tG q) W8 w9:=Ext.of_grown yi (λq g=> .inl g);have u:∀q,v.ownBlock=tG q->O q:=λq g=>d.ov q (by rw[A.out];exact g);have up:=vf.heap vc (λg=>by have:=(d.ol _ (u _ g)).1;omega);have yp:=vf.heap wj (λg=>by have:=zs.out _ (u _ g);omega);obtain⟨z,c9,An⟩:=aC ue;subst An;have yq:R w9:=yb.out _ ⟨by rw[<-A.out];exact(rowAt up 6 rfl).1,yp⟩;have At:=(rowAt up 6 rfl).2;have Ax:w9.cell? ⟨m,6,tM⟩=tG v:=by rw[<-A.out];exact(rowAt up 6 rfl).1
 refine x _ _ yq ?_;clear x;(try go_simp);refine zT 10 rfl o.out ?_;(try go_simp);refine zT 11 rfl o.out ?_;(try go_simp);refine zT 12 rfl o.out ?_;(try go_simp);refine zK rfl λK' x=> ?_;go_simp;refine x _ _ ?_;clear x;refine⟨by kernel_rfl, ?_⟩;obtain⟨WF,vh⟩:=zE (w9.setCell ⟨m,6,tM⟩ (tU z (V.length+1) c9));(try rw[vh]);have vm:Ext (·=m) w9 WF:=by rw[<-vh];exact Ext.set1 w9 m 6 _
 have wl:WF.heap[m]?=tG (uc (GG p X {s with vA:=z,vC:=c9} (V.length+1) I.length S.length) 236 (0,0)):=by rw[<-vh];exact bk w9 m 6 _ _ _ up
 have E:Ext (λq=>q=m\/v.ownBlock=tG q) W8 WF:=(vf.mono (λq h=> .inr h)).trans vm (λq h=> .inl (.inl h));have yr:Ext (λq=>q=m\/v.ownBlock=tG q) W1 WF:=(vd.mono (λq h=>h.elim)).trans E (λq h=> .inl h);have J:(V++[y]).length=V.length+1:=by simp
 have vp:∀k,(ci z (V.length+1) c9).ownBlock=tG k->v.ownBlock=tG k\/W8.heap.size<=k:=yk;have yv:∀k,(ci z (V.length+1) c9).ownBlock=tG k->k<WF.heap.size:=λk f=>cH (ue.lt k f).2 vm.size;have ws:∀k,(ci z (V.length+1) c9).ownBlock=tG k->m+1<=k:=λk f=>(ue.lt k f).1;have yy:dN m p L X (V++[y]) I S O w WF:=by
  refine⟨λq=>O q\/(ci z (V.length+1) c9).ownBlock=tG q,{s with vA:=z,vC:=c9}, ?_, ?_,λk f=> ?_⟩
  ·refine⟨by rw[J];exact wl,d.pg.ext E (λk f g=> ?_),d.hm, ?_,ah d.ins E (λk f g=> ?_),λk j K=> ?_,λk f=> ?_,λk f=> ?_,λk f=> ?_,d.seen.stay E (λa t e g=> ?_),d.whic.stay E (λa t e g=> ?_),λa t e=>⟨(d.ns a t e).1,λg=> ?_⟩,by rw[J];omega,d.lI,d.lS,d.cS⟩
   ·have:=d.hm
    rcases g with h|h
    ·omega
    ·have:=(d.ol _ (u _ h)).1;omega
   ·rw[J,gn];exact ah ue vm (λk f e=>by have:=ws k f;omega)
   ·rcases g with h|h
    ·have:=(d.ol k (d.oi k f)).1;omega
    ·exact d.dis k (by rw[A.out];exact h) f
   ·rw[J] at j
    rcases vp k j with h|h
    ·exact d.dis k (by rw[A.out];exact h) K
    ·have:=(d.ol k (d.oi k K)).2;omega
   ·rw[J] at f;exact .inr f
   ·exact .inl (d.oi k f)
   ·rcases f with h|h
    ·exact⟨(d.ol k h).1,cH (d.ol k h).2 E.size⟩
    ·exact⟨ws k h,yv k h⟩
   ·rcases g with h|h
    ·exact(d.ns a t (.inl e)).1 h
    ·exact(d.ns a t (.inl e)).2 (u _ h)
   ·rcases g with h|h
    ·exact(d.ns a t (.inr e)).1 h
    ·exact(d.ns a t (.inr e)).2 (u _ h)
   ·rcases g with h|h
    ·exact(d.ns a t e).2 h
    ·rcases vp _ h with h|h
     ·exact(d.ns a t e).2 (u _ h)
     ·have AT:a.block<W8.heap.size:=by
       rcases e with e|e
       ·obtain⟨b,AD,j,K,_⟩:=d.seen t
        rw[e] at j;cases j;exact K
       ·obtain⟨b,AD,j,K,_⟩:=d.whic t
        rw[e] at j;cases j;exact K
      omega
  ·have AE:Ext (λ_=>me) w W1:=Ext.of_below_size (by rw[hN];exact yd.out)
   exact(AE.mono (λq h=>h.elim)).trans yr (λq h=>by
    rcases h with h|h
    ·exact .inl (.inl h)
    ·exact .inl (.inr (u _ h)))
  ·rcases f with h|h
   ·exact .inl h
   ·rcases vp k h with h|h
    ·exact .inl (u _ h)
    ·right;have:=vd.size;have:=yd.out.size;omega
 have AF:=zH yy;have cF:WF.cell? ⟨m,6,tM⟩=tG (tU z (V.length+1) c9):=(rowAt wl 6 rfl).1;have AW:=zH J;have A0:(((V.length+1:bh):aw))-1=(V.length:aw):=by omega
 clear vh vm E yr vp yv ws yy wl ue yi yk vf u up yp yq At Ax d wk vc wj vd ux ye uv hG xj xo xp xt;go_wp2;go_ret;exact⟨by go_num,AF.out⟩
theorem jc {m:bh}{p:Pg}{L:bh}{X:Fx}{V:bj Ty}{I:bj gV}{S:bj (bm×bh)}{O:bh->Prop}{s:Sl}(i:gV)(w:World)(h:Mk m p L X V I S O s w)(hl:I.length+1<=1000):
  ge am 223 #[tW (tG ⟨m,0,tM⟩),ub #[Z U i.op,Z U i.d,Z U i.a,Z U 0,Z U i.f,Z U i.n,tS ⟨#[]⟩,tU tM 0 0,tU tM 0 0,Z U 0,Z U 0,Z U i.ln,Z U i.cl]] w λe w'=>e= ud (Z U (I.length:aw))/\dN m p L X V (I++[i]) S O w w':=by
 obtain⟨N,hN⟩:=zE w.heap.size;obtain⟨W1,ur⟩:=zE (w.alloc (uc #[Z U i.op,Z U i.d,Z U i.a,Z U 0,Z U i.f,Z U i.n,tS ⟨#[]⟩,tU tM 0 0,tU tM 0 0,Z U 0,Z U 0,Z U i.ln,Z U i.cl] 42));have vq:=iR ur hN;have vr:W1.heap[N]?=tG (uc #[Z U i.op,Z U i.d,Z U i.a,Z U 0,Z U i.f,Z U i.n,tS ⟨#[]⟩,tU tM 0 0,tU tM 0 0,Z U 0,Z U 0,Z U i.ln,Z U i.cl] 42 (0,0)):=by rw[<-ur,<-hN];exact alloc_at _ _
 have AH:=aa vr;have t:Mk m p L X V I S O s W1:=h.grow (by rw[hN];exact vq);have AI:m<N:=by have:=aa h.row;omega
 have xf:∀k,O k->k<N:=λk j=>by have:=(h.ol k j).2;omega
 obtain⟨v,hv⟩:=zE (ci s.iA I.length s.iC);have vt:=t.ins;rw[hv] at vt;obtain⟨i0,xj,xo,xp,xt⟩:=kB FE;obtain⟨S1,vu⟩:=zE ((λw'=>w'.cell? ⟨m,11,tM⟩=tG v/\w'.heap[N]?=tG (uc #[Z U i.op,Z U i.d,Z U i.a,Z U 0,Z U i.f,Z U i.n,tS ⟨#[]⟩,tU tM 0 0,tU tM 0 0,Z U 0,Z U 0,Z U i.ln,Z U i.cl] 42 (0,0))):World->Prop);have xF:∀w,S1 w->w.cell? ⟨m,11,tM⟩=tG v/\w.heap[N]?=tG (uc #[Z U i.op,Z U i.d,Z U i.a,Z U 0,Z U i.f,Z U i.n,tS ⟨#[]⟩,tU tM 0 0,tU tM 0 0,Z U 0,Z U 0,Z U i.ln,Z U i.cl] 42 (0,0)):=λw h=>by rw[<-vu] at h;exact h
 have vx:∀w,w.cell? ⟨m,11,tM⟩=tG v/\w.heap[N]?=tG (uc #[Z U i.op,Z U i.d,Z U i.a,Z U 0,Z U i.f,Z U i.n,tS ⟨#[]⟩,tU tM 0 0,tU tM 0 0,Z U 0,Z U 0,Z U i.ln,Z U i.cl] 42 (0,0))->S1 w:=λw h=>by rw[<-vu];exact h
 have vy:=t.row;have AK:=aa vy;have we:W1.drew.heap[m]?=tG (uc (GG p X s V.length I.length S.length) 236 (0,0)):=vy;have wg:W1.drew.heap[N]?=tG (uc #[Z U i.op,Z U i.d,Z U i.a,Z U 0,Z U i.f,Z U i.n,tS ⟨#[]⟩,tU tM 0 0,tU tM 0 0,Z U 0,Z U 0,Z U i.ln,Z U i.cl] 42 (0,0)):=vr;have AM:S1 W1.drew:=vx _ ⟨by rw[<-hv];exact(rowAt we 11 rfl).1,wg⟩;have xT:=zH xF;have yb:=zH vx;have yW:=zH ur;have yd:=zH vq;have zc:=zH t;have AN:=zH vt;have zj:=zH we;have zp:=zH wg;have E:=zH hv;have zs:=zH xf;clear h ur vq vr t vt vu xF vx vy we wg hv xf;go_enter func223,ntmps223
 go_upto_region 1 with(fail)
 rw[yW.out];refine aj 12 S1 (by kernel_rfl) ?_;have x:=zH λw h=>And.intro (xT.out w h) (Ij (xT.out w h).2);refine zT 0 rfl x.out ?_;(try go_simp);refine zT 1 rfl x.out ?_;(try go_simp);refine zT 2 rfl x.out ?_;(try go_simp);refine zT 3 rfl x.out ?_;(try go_simp);refine zT 4 rfl x.out ?_;(try go_simp);refine zT 5 rfl x.out ?_;(try go_simp);refine zT 6 rfl x.out ?_;(try go_simp);refine zO 7 rfl λK' z=> ?_;go_simp;obtain⟨G,hG⟩:=zE W1.heap.size;obtain⟨W8,uv⟩:=zE ((W1.alloc (uc #[Z U i.op,Z U i.d,Z U i.a,Z U 0,Z U i.f,Z U i.n,tS ⟨#[]⟩,tU tM 0 0,tU tM 0 0,Z U 0,Z U 0,Z U i.ln,Z U i.cl] 42)).drew);(try rw[hG]);(try rw[uv]);have ux:aE G W1 W8:=by rw[<-uv,<-hG];exact((aq _ _).alloc (cg _) _).drew
 have ye:W8.heap[G]?=tG (uc #[Z U i.op,Z U i.d,Z U i.a,Z U 0,Z U i.f,Z U i.n,tS ⟨#[]⟩,tU tM 0 0,tU tM 0 0,Z U 0,Z U 0,Z U i.ln,Z U i.cl] 42 (0,0)):=by rw[<-uv,<-hG];exact alloc_at _ _
 have vc:=(ux.block m (by omega)).trans zj.out;have wj:=(ux.block N (by omega)).trans zp.out;refine z _ _ (yb.out _ ⟨by rw[<-E.out];exact(rowAt vc 11 rfl).1,wj⟩) ?_;clear z;(try go_simp);refine zO 8 rfl λK' z=> ?_;have vd:Ext (λ_=>me) W1 W8:=Ext.of_below_size (by rw[hG];exact ux);have g:Mk m p L X V I S O s W8:=zc.out.ext vd (λ_ _ h=>h) (λ_ _ h=>h) (λ_ _ _ h=>h);have wk:=g.ins;rw[E.out] at wk;have AS:=aa vc;refine aI (.tmp 10) (.tmp 12) 36 rfl (m+1) 42 i0 _ 13 144 underlying36 xj xo xp xt rfl (by decide) v I.length _ rfl wk (tG ⟨G,0,tM⟩) 1 1 [Z U i.op,Z U i.d,Z U i.a,Z U 0,Z U i.f,Z U i.n,tS ⟨#[]⟩,tU tM 0 0,tU tM 0 0,Z U 0,Z U 0,Z U i.ln,Z U i.cl] rfl rfl (λh=>by cases h) (λad zv jj uu hu=>by
  obtain rfl:(⟨G,0,tM⟩:fS)=ad:=by simpa using zv
  rw[cY,cL,bw _ _ _ _ _ _ ye];simpa using hu) (by simp[ct]) (by unfold eC;omega) (by omega) (by omega) ?_
 intro v9 w9 ue yi yk;have vf:Ext (λq=>v.ownBlock=tG q) W8 w9:=Ext.of_grown yi (λq o=> .inl o);have y:∀q,v.ownBlock=tG q->O q:=λq o=>g.oi q (by rw[E.out];exact o);have up:=vf.heap vc (λo=>by have:=(g.ol _ (y _ o)).1;omega);have yp:=vf.heap wj (λo=>by have:=zs.out _ (y _ o);omega);obtain⟨A,c9,An⟩:=aC ue;subst An;have yq:S1 w9:=yb.out _ ⟨by rw[<-E.out];exact(rowAt up 11 rfl).1,yp⟩;have At:=(rowAt up 11 rfl).2;have Ax:w9.cell? ⟨m,11,tM⟩=tG v:=by rw[<-E.out];exact(rowAt up 11 rfl).1
 refine z _ _ yq ?_;clear z;(try go_simp);refine zT 9 rfl x.out ?_;(try go_simp);refine zT 10 rfl x.out ?_;(try go_simp);refine zT 11 rfl x.out ?_;(try go_simp);refine zK rfl λK' z=> ?_;go_simp;refine z _ _ ?_;clear z;refine⟨by kernel_rfl, ?_⟩;obtain⟨WF,vh⟩:=zE (w9.setCell ⟨m,11,tM⟩ (tU A (I.length+1) c9));(try rw[vh]);have vm:Ext (·=m) w9 WF:=by rw[<-vh];exact Ext.set1 w9 m 11 _
 have wl:WF.heap[m]?=tG (uc (GG p X {s with iA:=A,iC:=c9} V.length (I.length+1) S.length) 236 (0,0)):=by rw[<-vh];exact bk w9 m 11 _ _ _ up
 have J:Ext (λq=>q=m\/v.ownBlock=tG q) W8 WF:=(vf.mono (λq h=> .inr h)).trans vm (λq h=> .inl (.inl h));have yr:Ext (λq=>q=m\/v.ownBlock=tG q) W1 WF:=(vd.mono (λq h=>h.elim)).trans J (λq h=> .inl h);have K:(I++[i]).length=I.length+1:=by simp
 have vp:∀k,(ci A (I.length+1) c9).ownBlock=tG k->v.ownBlock=tG k\/W8.heap.size<=k:=yk;have yv:∀k,(ci A (I.length+1) c9).ownBlock=tG k->k<WF.heap.size:=λk j=>cH (ue.lt k j).2 vm.size;have ws:∀k,(ci A (I.length+1) c9).ownBlock=tG k->m+1<=k:=λk j=>(ue.lt k j).1;have yy:dN m p L X V (I++[i]) S O w WF:=by
  refine⟨λq=>O q\/(ci A (I.length+1) c9).ownBlock=tG q,{s with iA:=A,iC:=c9}, ?_, ?_,λk j=> ?_⟩
  ·refine⟨by rw[K];exact wl,g.pg.ext J (λk j o=> ?_),g.hm,ah g.vars J (λk j o=> ?_), ?_,λk t R=> ?_,λk j=> ?_,λk j=> ?_,λk j=> ?_,g.seen.stay J (λa u e o=> ?_),g.whic.stay J (λa u e o=> ?_),λa u e=>⟨(g.ns a u e).1,λo=> ?_⟩,g.lV,by rw[K];omega,g.lS,g.cS⟩
   ·have:=g.hm
    rcases o with h|h
    ·omega
    ·have:=(g.ol _ (y _ h)).1;omega
   ·rcases o with h|h
    ·have:=(g.ol k (g.ov k j)).1;omega
    ·exact g.dis k j (by rw[E.out];exact h)
   ·rw[K,gn];exact ah ue vm (λk j e=>by have:=ws k j;omega)
   ·rw[K] at R
    rcases vp k R with h|h
    ·exact g.dis k t (by rw[E.out];exact h)
    ·have:=(g.ol k (g.ov k t)).2;omega
   ·exact .inl (g.ov k j)
   ·rw[K] at j;exact .inr j
   ·rcases j with h|h
    ·exact⟨(g.ol k h).1,cH (g.ol k h).2 J.size⟩
    ·exact⟨ws k h,yv k h⟩
   ·rcases o with h|h
    ·exact(g.ns a u (.inl e)).1 h
    ·exact(g.ns a u (.inl e)).2 (y _ h)
   ·rcases o with h|h
    ·exact(g.ns a u (.inr e)).1 h
    ·exact(g.ns a u (.inr e)).2 (y _ h)
   ·rcases o with h|h
    ·exact(g.ns a u e).2 h
    ·rcases vp _ h with h|h
     ·exact(g.ns a u e).2 (y _ h)
     ·have AT:a.block<W8.heap.size:=by
       rcases e with e|e
       ·obtain⟨b,AD,t,R,_⟩:=g.seen u
        rw[e] at t;cases t;exact R
       ·obtain⟨b,AD,t,R,_⟩:=g.whic u
        rw[e] at t;cases t;exact R
      omega
  ·have AE:Ext (λ_=>me) w W1:=Ext.of_below_size (by rw[hN];exact yd.out)
   exact(AE.mono (λq h=>h.elim)).trans yr (λq h=>by
    rcases h with h|h
    ·exact .inl (.inl h)
    ·exact .inl (.inr (y _ h)))
  ·rcases j with h|h
   ·exact .inl h
   ·rcases vp k h with h|h
    ·exact .inl (y _ h)
    ·right;have:=vd.size;have:=yd.out.size;omega
 have AF:=zH yy;have cF:WF.cell? ⟨m,11,tM⟩=tG (tU A (I.length+1) c9):=(rowAt wl 11 rfl).1;have AW:=zH K;have A0:(((I.length+1:bh):aw))-1=(I.length:aw):=by omega
 clear vh vm J yr vp yv ws yy wl ue yi yk vf y up yp yq At Ax g wk vc wj vd ux ye uv hG xj xo xp xt;go_wp2;go_ret;exact⟨by go_num,AF.out⟩
theorem Ch {S:bj (bm×bh)}{nm:bm}{j i:bh}{x:bm×bh}(e:S[j]?=tG x)(f:(x.1==nm)=tP)(g:∀q y,j<q->S[q]?=tG y->(y.1==nm)=tR)(hi:j<=i){y:bm×bh}(d:S[i]?=tG y):
  (i=j/\y=x/\(y.1.toList==nm.toList)=tP)\/(j<i/\(y.1.toList==nm.toList)=tR):=by
 rcases Nat.lt_or_eq_of_le hi with h|h
 ·exact .inr ⟨h,by rw[<-fY];exact g i y h d⟩
 ·subst h
  rw[e] at d;cases d;exact .inl ⟨rfl,rfl,by rw[<-fY];exact f⟩
theorem xX {m:bh}{p:Pg}{L:bh}{X:Fx}{V:bj Ty}{I:bj gV}{S:bj (bm×bh)}{O:bh->Prop}{s:Sl}(nm:bm)(j:bh)(x:bm×bh)(f:S[j]?=tG x)(u:(x.1==nm)=tP)(v:∀q y,j<q->S[q]?=tG y->(y.1==nm)=tR)(w:World)(h:Mk m p L X V I S O s w):
  zS 218 #[tW (tG ⟨m,0,tM⟩),tS nm] w (Z U (x.2:aw)):=by
 have z:S≠[]:=by intro e;rw[e] at f;simp at f
 obtain⟨b,J,A,hb,E⟩:=h.seen z;obtain⟨K,R,hA2,up,G⟩:=h.whic z;have ur:w.cell? ⟨m,12,tM⟩=tG (tU (tG ⟨b,J,tM⟩) S.length s.sC):=by rw[<-A];exact(rowAt h.row 12 rfl).1
 have uv:w.cell? ⟨m,13,tM⟩=tG (tU (tG ⟨K,R,tM⟩) S.length s.wC):=by rw[<-hA2];exact(rowAt h.row 13 rfl).1
 have hm:=aa h.row;have ux:=h.lS;have vc:j<S.length:=(bl.1 f).1;have g:=zH E;have o:=zH G;have t:cj (∀i y,j<=i->S[i]?=tG y->(i=j/\y=x/\(y.1.toList==nm.toList)=tP)\/(j<i/\(y.1.toList==nm.toList)=tR)):=λi y hi d=>Ch f u v hi d;clear h E G f u v A hA2;go_enter func218,ntmps218;go_wp2
 go_loop [5] (λk=>∃i:bh,k= Z U (i:aw)/\j<=i/\i<S.length) (λk=>(de k).toNat)
 case atStart=>exact⟨S.length-1,by rw[show((S.length-1:bh):aw)=(S.length:aw)-1 by omega],by omega,by omega⟩
 case round=>
  obtain⟨i,rfl,ue,hi⟩:=hrel;have vd:(i:aw)<(S.length:aw):=by omega
  obtain⟨y,d⟩:∃y,S[i]?=tG y:=⟨_,ap hi⟩
  have k0:=g.out i y d 0 _ rfl;have k1:=o.out i y d 0 _ rfl;rw[ki,Nat.mul_one] at k0 k1;rcases t.out i y ue d with⟨rfl,rfl,ht⟩|⟨vf,ht⟩
  ·clear t g o d
   go_wp2;go_ret;exact⟨rfl,rfl⟩
  ·clear t g o d
   go_wp2
   go_round
   case rel=>exact⟨i-1,by rw[show((i-1:bh):aw)=(i:aw)-1 by omega],by omega,by omega⟩
   case measure=>simp[de];omega
def BF (x:aw)(V:bj Ty):aw:=if 0<=x then x else V.length
def FH (x:aw)(V:bj Ty)(y:Ty):bj Ty:=if 0<=x then V else V++[y]
theorem Mk.same {m:bh}{p:Pg}{L:bh}{X:Fx}{V:bj Ty}{I:bj gV}{S:bj (bm×bh)}{O:bh->Prop}{s:Sl}{w w':World}(h:Mk m p L X V I S O s w)(d:aE w.heap.size w w'):dN m p L X V I S O w w':=
 ⟨O,s,h.grow d,(Ext.of_below_size (M:=λ_=>me) d).mono (λ_ h=>h.elim),λ_ h=> .inl h⟩
theorem dN.below {m:bh}{p:Pg}{L:bh}{X:Fx}{V:bj Ty}{I:bj gV}{S:bj (bm×bh)}{O:bh->Prop}{w d w2:World}(e:aE w.heap.size w d)(h:dN m p L X V I S O d w2):dN m p L X V I S O w w2:=
 dN.trans ((Ext.of_below_size (M:=λ_=>me) e).mono (λ_ h=>h.elim)) (λ_ h=> .inl h) h
theorem sN {m:bh}{p:Pg}{L:bh}{X:Fx}{V:bj Ty}{I:bj gV}{S:bj (bm×bh)}{O:bh->Prop}{s:Sl}(x:aw)(y:Ty)(w:World)(h:Mk m p L X V I S O s w)(v:V.length+1<=1000):
  ge am 246 #[tW (tG ⟨m,0,tM⟩),Z U x,ub #[ua y.1,tS y.2]] w λe w'=>e= ud (Z U (BF x V))/\dN m p L X (FH x V y) I S O w w':=by
 obtain⟨N,d⟩:=zE w.heap.size;obtain⟨W1,f⟩:=zE (w.alloc (uc #[ua y.1,tS y.2] 32));have g:=iR f d;have o:W1.heap[N]?=tG (uc #[ua y.1,tS y.2] 32 (0,0)):=by rw[<-f,<-d];exact alloc_at _ _
 have q:Mk m p L X V I S O s W1:=h.grow (by rw[d];exact g);have z:=zH (nk y W1 q v);have A:cj (dN m p L X V I S O w W1):=h.same (by rw[d];exact g);have E:cj (aE w.heap.size w W1):=by rw[d];exact g
 obtain⟨⟨t0,t1⟩,⟨J,K⟩,R⟩:=dz o;have t:=zH f;unfold BF FH;clear h f g o q
 by_cases j:0<=x
 ·rw[cI j,cI j]
  go_enter func246,ntmps246
  go_upto_region 1 with(fail)
  rw[t.out];go_wp2;go_ret;exact⟨rfl,A.out⟩
 ·rw[bx j,bx j]
  have ue:x<0:=by omega
  go_enter func246,ntmps246
  go_upto_region 1 with(fail)
  rw[t.out]
  go_wp2_with (go_at_call 131;refine z.out.mono ?_;rintro e w2 ⟨rfl,u⟩;have G:=zH (u.below E.out);clear u)
  go_ret;exact⟨rfl,G.out⟩
theorem zV {m:bh}{p:Pg}{L:bh}{X:Fx}{V:bj Ty}{I:bj gV}{S:bj (bm×bh)}{O:bh->Prop}{s:Sl}(n:aw)(nm:bm)(d f:aw)(u:Ty)(x:aw)(w:World)(h:Mk m p L X V I S O s w)(ux:V.length+1<=1000)(vc:I.length+1<=1000):
  ge am 217 #[tW (tG ⟨m,0,tM⟩),ub #[Z U 1,Z U n,tS nm,tS ⟨#[]⟩,tU tM 0 0,Z U d,Z U f],ub #[ua u.1,tS u.2],Z U x] w λe w'=>e= ud (Z U (BF x V))/\dN m p L X (FH x V bM) (I++[⟨1,BF x V,0,0,n,d,f⟩]) S O w w':=by
 obtain⟨N,j⟩:=zE w.heap.size;obtain⟨o,t⟩:=zE ((w.alloc (uc #[Z U 1,Z U n,tS nm,tS ⟨#[]⟩,tU tM 0 0,Z U d,Z U f] 313)).alloc (uc #[ua u.1,tS u.2] 32));obtain⟨g,q⟩:=zE (o.alloc (uc #[ua tR,tS ⟨#[]⟩] 32));have E:=vX t j;have v:o.heap.size=N+2:=by rw[<-t];simp[j]
 have y:aE N w g:=by rw[<-q];exact E.alloc (by omega) _
 have G:g.heap.size=N+3:=by rw[<-q];simp[v]
 have z:g.heap[N]?=tG (uc #[Z U 1,Z U n,tS nm,tS ⟨#[]⟩,tU tM 0 0,Z U d,Z U f] 313 (0,0)):=by
  rw[<-q];refine(cJ _ _ N (by omega)).trans ?_;rw[<-t,<-j];exact kp _ _ _
 have J:g.heap[N+2]?=tG (uc #[ua tR,tS ⟨#[]⟩] 32 (0,0)):=by rw[<-q,<-v];exact alloc_at _ _
 have K:Mk m p L X V I S O s g:=h.grow (by rw[j];exact y);have wg:m<N:=by have:=aa h.row;omega
 have R:¬(N=m\/O N):=by rintro(h1|h1);omega;have:=(h.ol N h1).2;omega
 have hst:∀(c:eA cA),c.size=2->(dt ⟨o.heap.size,0,tM⟩ [ua tR,tS ⟨#[]⟩] 0).run am (o.alloc (uc c 32))= .ok () (o.alloc (uc #[ua tR,tS ⟨#[]⟩] 32)):=λc hc=>
  cx (P:=am) o 32 c #[ua tR,tS ⟨#[]⟩] (by show _=tG 2;kernel_rfl) hc (by simp[ct])
 have ue:aE w.heap.size w g:=by rw[j];exact y
 have vd:=zH hst;have vf:=zH t;have vh:=zH q;have vm:=zH ue;have vp:=zH z;have vq:=zH R;have wj:=zH G;have wk:=zH j;have vr:=zH (sN x bM g K ux);clear h t q E y G K hst ue R;go_enter func217,ntmps217
 go_upto_region 1 with(fail)
 rw[vf.out];have vt:=vd.out
 go_upto_region 2 with(fail)
 rw[vh.out];(try simp only[v]);clear vt;obtain⟨⟨a0,a1,a2,a3,a4,a5,a6⟩,_,wl⟩:=eZ z;obtain⟨⟨e0,e1⟩,_,ws⟩:=dz J;clear z J
 go_upto_region 5 with(go_at_call 246;refine vr.out.mono ?_;rintro e w4 ⟨rfl,up⟩;have vu:=zH up;clear up)
 obtain⟨O4,s4,k4,A,o4⟩:=vu.out;have ur:=A.heap vp.out vq.out;obtain⟨⟨b0,b1,b2,b3,b4,b5,b6⟩,_,xf⟩:=eZ ur;have vx:=zH (jc ⟨1,BF x V,0,0,n,d,f⟩ w4 k4 vc);have vy:cj (∀w5,dN m p L X (FH x V bM) (I++[⟨1,BF x V,0,0,n,d,f⟩]) S O4 w4 w5->dN m p L X (FH x V bM) (I++[⟨1,BF x V,0,0,n,d,f⟩]) S O w w5):=λw5 h5=>(dN.trans A o4 h5).below vm.out;clear k4 A o4 ur a0 a1 a2 a3 a4 a5 a6 e0 e1
 go_wp2_with (go_at_call 223;refine vx.out.mono ?_;rintro e w5 ⟨rfl,uv⟩;have we:=zH (vy.out _ uv);clear uv)
 go_ret;exact⟨rfl,we.out⟩
theorem zY {m:bh}{p:Pg}{L:bh}{X:Fx}{V:bj Ty}{I:bj gV}{S:bj (bm×bh)}{O:bh->Prop}{s:Sl}(n:aw)(nm:bm)(j o:aw)(J:Ty)(x:aw)(w:World)(h:Mk m p L X V I S O s w)(we:V.length+1<=1000)(wg:I.length+1<=1000):
  ge am 217 #[tW (tG ⟨m,0,tM⟩),ub #[Z U 7,Z U n,tS nm,tS ⟨#[]⟩,tU tM 0 0,Z U j,Z U o],ub #[ua J.1,tS J.2],Z U x] w λe w'=>e= ud (Z U (BF x V))/\dN m p L X (FH x V (tP,nm)) (I++[⟨12,BF x V,0,oJ p nm,0,j,o⟩]) S O w w':=by
 obtain⟨N,u⟩:=zE w.heap.size;obtain⟨v,z⟩:=zE ((w.alloc (uc #[Z U 7,Z U n,tS nm,tS ⟨#[]⟩,tU tM 0 0,Z U j,Z U o] 313)).alloc (uc #[ua J.1,tS J.2] 32));obtain⟨q,y⟩:=zE (v.alloc (uc #[ua tR,tS ⟨#[]⟩] 32));have vf:=vX z u;have R:v.heap.size=N+2:=by rw[<-z];simp[u]
 have ue:aE N w q:=by rw[<-y];exact vf.alloc (by omega) _
 have vh:q.heap.size=N+3:=by rw[<-y];simp[R]
 have up:q.heap[N]?=tG (uc #[Z U 7,Z U n,tS nm,tS ⟨#[]⟩,tU tM 0 0,Z U j,Z U o] 313 (0,0)):=by
  rw[<-y];refine(cJ _ _ N (by omega)).trans ?_;rw[<-z,<-u];exact kp _ _ _
 have vm:q.heap[N+2]?=tG (uc #[ua tR,tS ⟨#[]⟩] 32 (0,0)):=by rw[<-y,<-R];exact alloc_at _ _
 have h3:Mk m p L X V I S O s q:=h.grow (by rw[u];exact ue);have yk:m<N:=by have:=aa h.row;omega
 have vp:¬(N=m\/O N):=by rintro(h1|h1);omega;have:=(h.ol N h1).2;omega
 have hst:∀(c:eA cA),c.size=2->(dt ⟨v.heap.size,0,tM⟩ [ua tR,tS ⟨#[]⟩] 0).run am (v.alloc (uc c 32))= .ok () (v.alloc (uc #[ua tR,tS ⟨#[]⟩] 32)):=λc hc=>
  cx (P:=am) v 32 c #[ua tR,tS ⟨#[]⟩] (by show _=tG 2;kernel_rfl) hc (by simp[ct])
 have vq:aE w.heap.size w q:=by rw[u];exact ue
 have wj:=zH hst;have wk:=zH z;have wl:=zH y;have ws:=zH vq;have xf:=zH up;have xj:=zH vp;have yp:=zH vh;have yq:=zH u;have xo:=zH (sN x (tP,nm) q h3 we);clear h z y vf ue vh h3 hst vq vp;go_enter func217,ntmps217
 go_upto_region 1 with(fail)
 rw[wk.out];have xp:=wj.out
 go_upto_region 2 with(fail)
 rw[wl.out];(try simp only[R]);clear xp;obtain⟨⟨a0,a1,a2,a3,a4,a5,a6⟩,_,yr⟩:=eZ up;obtain⟨⟨e0,e1⟩,_,yv⟩:=dz vm;clear up vm
 go_upto_region 33 with(go_at_call 246;refine xo.out.mono ?_;rintro e f ⟨rfl,K⟩;have xt:=zH K;clear K)
 obtain⟨O4,s4,A,x4,o4⟩:=xt.out;have ur:=x4.heap xf.out xj.out;have xF:=aa ur;have K:=aa A.row;have vr:∀W,aE f.heap.size f W->W.cell? ⟨N,0,tM⟩=tG (Z U 7)/\W.cell? ⟨N,1,tM⟩=tG (Z U n)/\W.cell? ⟨N,2,tM⟩=tG (tS nm)/\W.cell? ⟨N,3,tM⟩=tG (tS ⟨#[]⟩)/\W.cell? ⟨N,4,tM⟩=tG (tU tM 0 0)/\W.cell? ⟨N,5,tM⟩=tG (Z U j)/\W.cell? ⟨N,6,tM⟩=tG (Z U o)/\W.cell? ⟨m,0,tM⟩=tG (tU (tG ⟨p.pA,0,tM⟩) 1 p.pC)/\W.cell? ⟨m,1,tM⟩=tG (tU (tG ⟨p.qA,0,tM⟩) 1 p.qC):=λW t=>by
  have r1:=(t.block N xF).trans ur;have r2:=(A.grow t).row;exact⟨(rowAt r1 0 rfl).1,(rowAt r1 1 rfl).1,(rowAt r1 2 rfl).1,(rowAt r1 3 rfl).1,(rowAt r1 4 rfl).1,(rowAt r1 5 rfl).1,(rowAt r1 6 rfl).1,(rowAt r2 0 rfl).1,(rowAt r2 1 rfl).1⟩
 have vt:∀W,aE f.heap.size f W->zP 212 #[ub #[tU (tG ⟨p.pA,0,tM⟩) 1 p.pC,tU (tG ⟨p.qA,0,tM⟩) 1 p.qC],tS nm] W (Z U (oJ p nm)):=λW t=>gU nm W (A.grow t).pg;have xT:cj (∀W,aE f.heap.size f W->ge am 223 #[tW (tG ⟨m,0,tM⟩),ub #[Z U 12,Z U (BF x V),Z U 0,Z U 0,Z U (oJ p nm),Z U 0,tS ⟨#[]⟩,tU tM 0 0,tU tM 0 0,Z U 0,Z U 0,Z U j,Z U o]] W λe w'=>e= ud (Z U (I.length:aw))/\dN m p L X (FH x V (tP,nm)) (I++[⟨12,BF x V,0,oJ p nm,0,j,o⟩]) S O w w'):=λW t=>
  (jc ⟨12,BF x V,0,oJ p nm,0,j,o⟩ W (A.grow t) wg).mono λe w5 h5=>⟨h5.1,(dN.trans x4 o4 (h5.2.below t)).below ws.out⟩
 have g:=zH vr;have yb:=zH vt;obtain⟨E,uv⟩:=zE ((λw'=>aE f.heap.size f w'):World->Prop);have vu:∀w,E w->aE f.heap.size f w:=λw h=>by rw[<-uv] at h;exact h
 have ux:∀w,aE f.heap.size f w->E w:=λw h=>by rw[<-uv];exact h
 have vc:E f.drew:=ux _ (aq _ _).drew;have d:=zH vu;have yd:=zH ux;clear A x4 o4 ur vr vt uv vu ux a0 a1 a2 a3 a4 a5 a6 e0 e1 K;refine aj 12 E (by kernel_rfl) ?_;refine zT 0 rfl (λw h=>g.out w (d.out w h)) ?_;(try go_simp);refine zT 1 rfl (λw h=>g.out w (d.out w h)) ?_;(try go_simp);refine zT 2 rfl (λw h=>g.out w (d.out w h)) ?_;(try go_simp);refine zT 3 rfl (λw h=>g.out w (d.out w h)) ?_;(try go_simp);refine zT 4 rfl (λw h=>g.out w (d.out w h)) ?_;(try go_simp);refine zT 5 rfl (λw h=>g.out w (d.out w h)) ?_;(try go_simp);refine zT 6 rfl (λw h=>g.out w (d.out w h)) ?_;(try go_simp);refine zT 7 rfl (λw h=>g.out w (d.out w h)) ?_;(try go_simp);refine zT 9 rfl (λw h=>g.out w (d.out w h)) ?_;(try go_simp);refine zT 10 rfl (λw h=>g.out w (d.out w h)) ?_;(try go_simp);refine zO 8 rfl λK' G=> ?_;go_simp;go_at_call 212;refine(yb.out _ (d.out _ (by assumption))).mono ?_;rintro e w5 ⟨rfl,vx⟩;have vd:E w5:=yd.out _ ((d.out _ vc).trans (vx.mono (d.out _ vc).size));have ye:=zH vd;refine G _ _ vd ?_;clear G;(try go_simp);refine zT 11 rfl (λw h=>g.out w (d.out w h)) ?_;(try go_simp);refine zK rfl λK' G=> ?_;go_simp;go_at_call 223;refine(xT.out _ (d.out _ ye.out)).mono ?_;rintro e w6 ⟨rfl,vy⟩;refine G _ _ ?_;clear G;refine⟨by kernel_rfl, ?_⟩;have yi:=zH vy;clear vy vx vd vc;go_wp2;go_ret;exact⟨rfl,yi.out⟩
theorem Ci {m:bh}{p:Pg}{L:bh}{X:Fx}{V:bj Ty}{I:bj gV}{S:bj (bm×bh)}{O:bh->Prop}{s:Sl}(vd:X.os= tU tM 0 0)(K:mm)(R nm:bm)(g cp:bh)(x:Ex)(t:g<L/\∀(j:bh)(u:cA),x.cells.toList[j]?=tG u->∀W,jI p L W->W.cell? ⟨g,j,tM⟩=tG u)(d:aw)(V2:bj Ty)(I2:bj gV)(vt:I2.length+1<=1000)
  (vf:∀W O s,Mk m p L X V I S O s W->ge am 217 #[tW (tG ⟨m,0,tM⟩),ub x.cells,ub #[ua X.rt.1,tS X.rt.2],Z U (-1)] W λe w'=>e= ud (Z U d)/\dN m p L X V2 I2 S O W w')(ln cl:aw)(w:World)(h:Mk m p L X V I S O s w):
  ge am 180 #[tW (tG ⟨m,0,tM⟩),ub #[Z U 8,ua K,tS R,tS nm,tU (tG ⟨g,0,tM⟩) 1 cp,tU tM 0 0,tU tM 0 0,Z U ln,Z U cl]] w λe w'=>e= ud (.tuple #[])/\dN m p L X V2 (I2++[⟨18,0,d,0,0,ln,cl⟩]) S O w w':=by
 obtain⟨N,y⟩:=zE w.heap.size;obtain⟨W1,E⟩:=zE (w.alloc (uc #[Z U 8,ua K,tS R,tS nm,tU (tG ⟨g,0,tM⟩) 1 cp,tU tM 0 0,tU tM 0 0,Z U ln,Z U cl] 282));have ue:=iR E y;have G:W1.heap[N]?=tG (uc #[Z U 8,ua K,tS R,tS nm,tU (tG ⟨g,0,tM⟩) 1 cp,tU tM 0 0,tU tM 0 0,Z U ln,Z U cl] 282 (0,0)):=by rw[<-E,<-y];exact alloc_at _ _
 have xo:=aa G;have v:Mk m p L X V I S O s W1:=h.grow (by rw[y];exact ue);have vh:aE w.heap.size w W1:=by rw[y];exact ue
 have xp:=aa v.row;have xt:m<N:=by have:=aa h.row;omega
 have vm:¬(N=m\/O N):=by rintro(v|v);omega;have:=(h.ol N v).2;omega
 have vu:W1.cell? ⟨m,15,tM⟩=tG (Z U 0):=(rowAt v.row 15 rfl).1;have vx:W1.cell? ⟨m,19,tM⟩=tG (tU tM 0 0):=by rw[<-vd];exact(rowAt v.row 19 rfl).1
 obtain⟨⟨a0,a1,a2,a3,a4,a5,a6,a7,a8⟩,_,_⟩:=fV G;have vy:=zH E;have we:=zH vh;have wg:=zH G;have wj:=zH vm;have xF:=zH y;obtain⟨z,up⟩:=zE ((λw':World=>w'.cell? ⟨g,0,tM⟩=tG (Z U x.kind)/\w'.cell? ⟨g,1,tM⟩=tG (Z U x.n)/\w'.cell? ⟨g,2,tM⟩=tG (tS x.nm)/\w'.cell? ⟨g,3,tM⟩=tG (tS ⟨#[]⟩)/\w'.cell? ⟨g,4,tM⟩=tG (tU tM 0 0)/\w'.cell? ⟨g,5,tM⟩=tG (Z U x.ln)/\w'.cell? ⟨g,6,tM⟩=tG (Z U x.cl)/\w'.cell? ⟨m,2,tM⟩=tG (ua X.rt.1)/\w'.cell? ⟨m,3,tM⟩=tG (tS X.rt.2)/\w'.cell? ⟨N,4,tM⟩=tG (tU (tG ⟨g,0,tM⟩) 1 cp)):World->Prop);have vp:∀w,z w->_:=λw h=>by rw[<-up] at h;exact h
 have ur:∀W V I O s,Mk m p L X V I S O s W->W.cell? ⟨N,4,tM⟩=tG (tU (tG ⟨g,0,tM⟩) 1 cp)->z W:=λW V I O s f hc=>by
  rw[<-up];exact⟨t.2 0 _ rfl W f.pg,t.2 1 _ rfl W f.pg,t.2 2 _ rfl W f.pg,t.2 3 _ rfl W f.pg,t.2 4 _ rfl W f.pg,t.2 5 _ rfl W f.pg,t.2 6 _ rfl W f.pg,(rowAt f.row 2 rfl).1,(rowAt f.row 3 rfl).1,hc⟩
 have uv:Mk m p L X V I S O s W1.drew:=v.grow (aq _ _).drew;have wk:z W1.drew:=ur _ _ _ _ _ uv a4;have hV:=vf W1.drew O s uv;unfold Ex.cells at hV;have HV:=zH hV;have o:=zH vp;have wl:=zH ur;clear h v E ue G vh vm vd uv up vp ur hV vf t;go_enter func180,ntmps180
 go_upto_region 1 with(fail)
 rw[vy.out]
 go_upto_region 24 with(fail)
 refine aj 10 z (by kernel_rfl) ?_;refine zT 0 rfl o.out ?_;(try go_simp);refine zT 1 rfl o.out ?_;(try go_simp);refine zT 2 rfl o.out ?_;(try go_simp);refine zT 3 rfl o.out ?_;(try go_simp);refine zT 4 rfl o.out ?_;(try go_simp);refine zT 5 rfl o.out ?_;(try go_simp);refine zT 6 rfl o.out ?_;(try go_simp);refine zT 7 rfl o.out ?_;(try go_simp);refine zT 8 rfl o.out ?_;(try go_simp);refine zO 9 rfl λK' A=> ?_;go_simp;go_at_call 217;refine HV.out.mono ?_;rintro e J ⟨rfl,O4,s4,k4,x4,o4⟩;have ux:Ext (λq=>q=m\/O q) W1 J:=((Ext.refl _ _).drew).trans x4 (λq h=> .inl h);have vc:=ux.heap wg.out wj.out;have vq:z J:=wl.out _ _ _ _ _ k4 (rowAt vc 4 rfl).1;obtain⟨⟨b0,b1,b2,b3,b4,b5,b6,b7,b8⟩,_,xT⟩:=fV vc;have ws:=zH (jc ⟨18,0,d,0,0,ln,cl⟩ J k4 vt);have xf:cj (∀w5,dN m p L X V2 (I2++[⟨18,0,d,0,0,ln,cl⟩]) S O4 J w5->dN m p L X V2 (I2++[⟨18,0,d,0,0,ln,cl⟩]) S O w w5):=λw5 h5=>(dN.trans ux o4 h5).below we.out;refine A _ _ vq ?_;clear A k4 x4 o4 vc a0 a1 a2 a3 a4 a5 a6 a7 a8 vu vx;(try go_simp);refine zK rfl λK' A=> ?_;go_simp;refine A _ _ ?_;clear A;refine⟨by kernel_rfl, ?_⟩;clear vq wk ux
 go_wp2_with (go_at_call 223;refine ws.out.mono ?_;rintro e w5 ⟨rfl,vr⟩;have xj:=zH (xf.out _ vr);clear vr)
 go_end0
 exact⟨rfl,xj.out⟩
theorem zZ {m:bh}{p:Pg}{L:bh}{X:Fx}{V:bj Ty}{I:bj gV}{S:bj (bm×bh)}{O:bh->Prop}{s:Sl}(uv:X.os= tU tM 0 0)(x:mm)(A nm:bm)(E:cG fS)(G J:bh)(j:bh)(z:bm×bh)(hj:S[j]?=tG z)(hn:(z.1==nm)=tP)(hl:∀q y,j<q->S[q]?=tG y->(y.1==nm)=tR)(vp:I.length+1<=1000)(d f:aw)(w:World)(h:Mk m p L X V I S O s w):
  ge am 180 #[tW (tG ⟨m,0,tM⟩),ub #[Z U 9,ua x,tS A,tS nm,tU E G J,tU tM 0 0,tU tM 0 0,Z U d,Z U f]] w λe w'=>e= ud (.tuple #[])/\dN m p L X V (I++[⟨13,0,(z.2:aw),0,0,d,f⟩]) S O w w':=by
 obtain⟨N,t⟩:=zE w.heap.size;obtain⟨W1,K⟩:=zE (w.alloc (uc #[Z U 9,ua x,tS A,tS nm,tU E G J,tU tM 0 0,tU tM 0 0,Z U d,Z U f] 282));have ue:=iR K t;have u:W1.heap[N]?=tG (uc #[Z U 9,ua x,tS A,tS nm,tU E G J,tU tM 0 0,tU tM 0 0,Z U d,Z U f] 282 (0,0)):=by rw[<-K,<-t];exact alloc_at _ _
 have vq:=aa u;have g:Mk m p L X V I S O s W1:=h.grow (by rw[t];exact ue);have ux:aE w.heap.size w W1:=by rw[t];exact ue
 have wg:=aa g.row;have wj:m<N:=by have:=aa h.row;omega
 have vc:¬(N=m\/O N):=by rintro(g|g);omega;have:=(h.ol N g).2;omega
 have wk:W1.cell? ⟨m,15,tM⟩=tG (Z U 0):=(rowAt g.row 15 rfl).1;have wl:W1.cell? ⟨m,19,tM⟩=tG (tU tM 0 0):=by rw[<-uv];exact(rowAt g.row 19 rfl).1
 obtain⟨⟨a0,a1,a2,a3,a4,a5,a6,a7,a8⟩,_,_⟩:=fV u;have vr:=zH K;have vt:=zH ux;have ws:=zH u;have xf:=zH vc;have xj:=zH t;obtain⟨R,up⟩:=zE ((λw'=>aE W1.heap.size W1 w'):World->Prop);have vd:∀w,R w->aE W1.heap.size W1 w:=λw h=>by rw[<-up] at h;exact h
 have vf:R W1.drew:=by rw[<-up];exact(aq _ _).drew
 have vh:∀W,R W->W.cell? ⟨N,0,tM⟩=tG (Z U 9)/\W.cell? ⟨N,1,tM⟩=tG (ua x)/\W.cell? ⟨N,2,tM⟩=tG (tS A)/\W.cell? ⟨N,3,tM⟩=tG (tS nm)/\W.cell? ⟨N,4,tM⟩=tG (tU E G J)/\W.cell? ⟨N,5,tM⟩=tG (tU tM 0 0)/\W.cell? ⟨N,6,tM⟩=tG (tU tM 0 0)/\W.cell? ⟨N,7,tM⟩=tG (Z U d)/\W.cell? ⟨N,8,tM⟩=tG (Z U f):=λW hW=>by
  have r1:=((vd W hW).block N vq).trans u;exact⟨(rowAt r1 0 rfl).1,(rowAt r1 1 rfl).1,(rowAt r1 2 rfl).1,(rowAt r1 3 rfl).1,(rowAt r1 4 rfl).1,(rowAt r1 5 rfl).1,(rowAt r1 6 rfl).1,(rowAt r1 7 rfl).1,(rowAt r1 8 rfl).1⟩
 have o:=zH vh;have ur:Mk m p L X V I S O s W1.drew:=g.grow (aq _ _).drew;have vu:=zH (xX nm j z hj hn hl W1.drew ur);have vx:=zH (jc ⟨13,0,(z.2:aw),0,0,d,f⟩ W1.drew ur vp);have vy:cj (∀w5,dN m p L X V (I++[⟨13,0,(z.2:aw),0,0,d,f⟩]) S O W1.drew w5->dN m p L X V (I++[⟨13,0,(z.2:aw),0,0,d,f⟩]) S O w w5):=λw5 h5=>(h5.below (aq _ _).drew).below vt.out;clear h g K ue u ux vc uv ur up vh vd hj hn hl;go_enter func180,ntmps180
 go_upto_region 1 with(fail)
 rw[vr.out]
 go_upto_region 27 with(fail)
 refine aj 8 R (by kernel_rfl) ?_;refine zT 0 rfl o.out ?_;(try go_simp);refine zT 1 rfl o.out ?_;(try go_simp);refine zT 2 rfl o.out ?_;(try go_simp);refine zT 3 rfl o.out ?_;(try go_simp);refine zT 5 rfl o.out ?_;(try go_simp);refine zT 6 rfl o.out ?_;(try go_simp);refine zO 4 rfl λK' v=> ?_;go_simp;go_at_call 218;refine vu.out.mono ?_;rintro e _ ⟨rfl,rfl⟩;refine v _ _ vf ?_;clear v;(try go_simp);refine zT 7 rfl o.out ?_;(try go_simp);refine zK rfl λK' v=> ?_;go_simp;go_at_call 223;refine vx.out.mono ?_;rintro e w6 ⟨rfl,vm⟩;refine v _ _ ?_;clear v;refine⟨by kernel_rfl, ?_⟩;have we:=zH (vy.out _ vm);clear vm vf;go_wp2
 go_end0
 exact⟨rfl,we.out⟩
theorem bO {P:lr}{w:World}{o:mS}{a:Act}{Q:Exit->Act->World->Prop}{K:Act->World->Prop}(s x:tE)(t:gt)
  (v:o.op= .call {callee:= .builtin .append,args:=#[s,x],argTypes:=#[t,t]})(e:gt)(i:TypeInfo)(z:cA)(size rr:bh)(y:P.underlying t=tG (.slice e))(A:P.info? e=tG i)(E:i.zero=tG z)(G:i.size=size)(J:i.bytes=rr)(R:z.cells.size=size)(h7:0<size)
  (ao:cG fS)(n cap:bh)(g:bj cA)(hs:a.eval s= tU ao n cap)(up:ao=tM->n=0/\cap=0)(ue:g.length=n*size)(ur:∀b,ao=tG b->∀j u,g[j]?=tG u->w.cell? (b.add j)=tG u)
  (h:fS)(m c:bh)(d:bj cA)(hx:a.eval x= tU (tG h) m c)(hn:d.length=m*size)(hc:∀j u,d[j]?=tG u->w.cell? (h.add j)=tG u)(uv:∀u∈d,u.oneCell'=tP)
  (ux:cap<n+m)(b1:n+m<=eC)(b2:(n+m)*rr<=140737488355328)
  (hK:∀f w',w'.ownsRow w.heap.size e size f (n+m) (g++d)->w.grownBy w' tM->K (a.put o.dst f) w'):nd P o a w K Q:=by
 cases ao with
 |some b=>
  obtain⟨f,w',q,r1,r2⟩:=run_append_arg_grows (P:=P) w t o.type e i z size rr y A E G J R h7 b n cap g ue (ur b rfl) h m c d hn hc ux b1 b2;unfold nd;simp[execOp,v,resolve,invoke,builtin,hs,hx,q,mT];exact hK f w' r1 r2
 |none=>
  obtain⟨rfl,rfl⟩:=up rfl;obtain rfl:g=[]:=dr (by simpa using ue);obtain⟨f,w',q,r1,r2,_⟩:=run_append_own (P:=P) w w.heap.size t o.type e i z size rr y A E G J R h7 (tU tM 0 0) 0 [] (World.ownsRow_nil w _ e size) h m c d hn hc uv b1 b2 (cg _);unfold nd;simp[execOp,v,resolve,invoke,builtin,hs,hx,q,mT];exact hK f w' r1 r2
end Go.Proofs.YtjomgckjhcfbgaaGreat
