/- Walks. -/
import Derived.Test.YtjomgckjhcfbgaaGreatRows
import Derived.ProofKit
import Derived.ChangeSame
import Derived.Maps.OwnOps
import Derived.Maps.Views
import Derived.DeepKeys4
import Derived.Test.YtjomgckjhcfbgaaGreatY14
set_option maxRecDepth 100000
set_option maxHeartbeats 64000000
set_option linter.all false
namespace Go.Proofs.YtjomgckjhcfbgaaGreat
open Go.RowKit
open Go.Proofs.Tryz renaming prog→ac,underlying42→cJ,underlying38→cQ,underlying3→dj,underlying32→ey,underlying25→fk,underlying4→ii,underlying9→im,underlying88→ix,underlying40→m5,underlying90→ot
open _root_.List renaming getElem?_eq_getElem→am,mem_of_getElem?→cf,mem_append→cT,eq_nil_of_length_eq_zero→du,exists_cons_of_length_eq_add_one→pN
open Go.RowKit renaming Below→bh
open _root_ renaming List→bm,Int→bp,Nat→bx,Array→da,Option→eA,absurd→fW,decide_eq_true_eq→ly,Bool→nj
open Go renaming Value→cd,maxLen→dT,TypeId→gx,Program→km,MemPlace→od
open _root_.Option.some renaming inj→cD
open Go.DataW renaming trod_int→ev,trod_struct→eS,trod→kp,trod_string→lA
open _root_.Bool renaming and_eq_true→eN,true→tE,false→tG
open _root_.Option renaming some→tB,none→tD
open Go.Value renaming slice→tP
open Go.Proofs.Tryz
section
open Go.ChangeShapes Go.WideShapes Go.ChangeAt Go.RowKit
theorem own_:ownKnob ac.godebug=tD:=by kernel_rfl
theorem laidOut_:laidOutB ac=tE:=by kernel_rfl
theorem law_post {H:Type}{enc:gx×cd->H}{P:km}{f:Func}{s:ChangeSpec}{W W':World}{args:da cd}{v:cd}{d q:bm (DataW H)}{u pa pv:bm od}
  (D:DataW.Whole enc P f.params.toList s.vars tG W args.toList d q u)
  (G:∀(b:bx)(J:bx->nj)(hd:nj),DataW.TrodAll enc P W' b J hd f.resultTypes.toList (v.resultList f.resultTypes.size) (s.fn H (d++q)).results [])
  (uc:DataW.TrodAll enc P W' 0 (λb=>decide (b<W.heap.size)) tE f.params.toList args.toList (s.fn H (d++q)).args pa)
  (ud:DataW.TrodVars enc P W' (λb=>decide (b<W.heap.size)) s.vars (s.fn H (d++q)).vars pv)
  (ue:u=pa++pv)(hb:bh W.heap.size W W'):
  s.post enc P f tG tE tG tG W args v W':=by
 refine⟨d,q,u,[],pa,pv,D,G _ _ _,uc,ud,World.keptBut_mono (λp A=>⟨A, ?_⟩) (hb.frame (·∈u)),λh=> ?_⟩
 ·rw[ue,cT] at A
  exact Or.inr A
 ·exact fW h (by decide)
theorem shut_true {H:Type}{enc:gx×cd->H}{W:World}{base:bx}{d:bx->nj}{held:nj}(b:nj):DataW.Trod enc ac W base d held 4 (.bool b) (.lit (.bool b)) []:=⟨1,by simp[kp,Value.cells,ii]⟩
end
section
open Go.RowKit Go.ChangeShapes Go.WideShapes Go.Deep
section
variable {H:Type}{enc:gx×cd->H}{w:World}{base:bx}{spare:bx->nj}{held:nj}
def Ins.mode_in (w:World)(i:Ins):Prop:=∃(l:bm bp) (d:eA Addr) (cap:bx),i.modeV= tP d l.length cap/\kI w d l
theorem DW {n:bx}{d:bm cd}{x:DataW H×bm od}(h:kp enc ac w base spare held n 42 d=tB x):∃i:Ins,i.cells.toList=d/\i.args_in w/\i.mode_in w:=by
 obtain⟨i,f,u⟩:=D5 h;refine⟨i,f,u, ?_⟩;obtain⟨xs,m,_,_,uc,v,D⟩:=eS cJ h;have ud:xs.length=12:=v;have G:=(D 8 _ rfl).trans (am (show 8<xs.length by omega));obtain⟨A,L,C,q,_,J,_⟩:=jE G;refine⟨L,A,C, ?_,J⟩;rw[<-f] at q;simpa[Ins.cells,show ac.cellsOf 35=1 from by kernel_rfl] using q
theorem Gl {n:bx}{v:bm cd}{x:DataW H×bm od}(h:kp enc ac w base spare held n 92 v=tB x):∃f:Fd,f.cells.toList=v/\f.nm.size<=dT:=by
 obtain⟨xs,m,_,_,A,ur,d⟩:=eS underlying92 h;have hc:ac.cellsOf 92=5:=by kernel_rfl
 have vj:xs.length=3:=ur;rw[hc] at A;obtain⟨c0,vm,e0,uv⟩:=zU A;obtain⟨c1,vp,e1,ux⟩:=zU uv;obtain⟨c2,vq,e2,va⟩:=zU ux;obtain⟨c3,vr,e3,vc⟩:=zU va;obtain⟨c4,vu,e4,vd⟩:=zU vc;obtain rfl:=du vd;subst e4 e3 e2 e1 e0;have z1:ac.cellsOf 4=1:=by kernel_rfl
 have D:ac.cellsOf 9=1:=by kernel_rfl
 have G:ac.cellsOf 3=1:=by kernel_rfl
 have J:ac.cellsOf 32=2:=by kernel_rfl
 have z5:ac.cellsOf 40=2:=by kernel_rfl
 have g0:=(d 0 _ rfl).trans (am (show 0<xs.length by omega));obtain⟨nm,r0,_,vf⟩:=lA im g0;obtain rfl:c0= .string nm:=by simpa[D] using r0
 have g1:=(d 1 _ rfl).trans (am (show 1<xs.length by omega));obtain⟨q,m',_,_,_,vh,uc⟩:=eS ey g1;have vx:q.length=2:=vh;have p0:=(uc 0 _ rfl).trans (am (show 0<q.length by omega));have p1:=(uc 1 _ rfl).trans (am (show 1<q.length by omega));obtain⟨rp,s0,_⟩:=DataW.trod_bool ii p0;obtain⟨ud,s1,_,_⟩:=lA im p1;obtain rfl:c1= .bool rp:=by simpa[z1,J] using s0
 obtain rfl:c2= .string ud:=by simpa[D,J] using s1
 have g2:=(d 2 _ rfl).trans (am (show 2<xs.length by omega));obtain⟨u,vy,_,_,_,vi,ue⟩:=eS m5 g2;have we:u.length=2:=vi;have u0:=(ue 0 _ rfl).trans (am (show 0<u.length by omega));have u1:=(ue 1 _ rfl).trans (am (show 1<u.length by omega));obtain⟨ln,v0,_,_⟩:=ev dj u0;obtain⟨cl,v1,_,_⟩:=ev dj u1;obtain rfl:c3= .int .i64 ln:=by simpa[G,z5] using v0
 obtain rfl:c4= .int .i64 cl:=by simpa[G,z5] using v1
 exact⟨⟨nm,rp,ud,ln,cl⟩,rfl,vf⟩
theorem Gm {n:bx}{d:bm cd}{x:DataW H×bm od}(h:kp enc ac w base spare held n 90 d=tB x):∃s:St,s.cells.toList=d/\s.inn w:=by
 obtain⟨xs,m,_,_,A,ud,q⟩:=eS ot h;have hc:ac.cellsOf 90=4:=by kernel_rfl
 have vi:xs.length=3:=ud;rw[hc] at A;obtain⟨c0,vj,e0,ue⟩:=zU A;obtain⟨c1,vm,e1,ur⟩:=zU ue;obtain⟨c2,vp,e2,uv⟩:=zU ur;obtain⟨c3,vq,e3,ux⟩:=zU uv;obtain rfl:=du ux;subst e3 e2 e1 e0;have z2:ac.cellsOf 9=1:=by kernel_rfl
 have D:ac.cellsOf 3=1:=by kernel_rfl
 have G:ac.cellsOf 40=2:=by kernel_rfl
 have z6:ac.cellsOf 88=1:=by kernel_rfl
 have g0:=(q 0 _ rfl).trans (am (show 0<xs.length by omega));obtain⟨nm,r0,_,va⟩:=lA im g0;obtain rfl:c0= .string nm:=by simpa[z2] using r0
 have g1:=(q 1 _ rfl).trans (am (show 1<xs.length by omega));obtain⟨J,u,fC,r1,vc,vd,vf⟩:=open_row Fd.cells (λf:Fd=>f.nm.size<=dT) 5 (by decide) ix (by kernel_rfl) (λn d x hx=>Gl hx) g1;obtain rfl:c1= .slice J u.length fC:=by simpa[z6] using r1
 have g2:=(q 2 _ rfl).trans (am (show 2<xs.length by omega));obtain⟨v,vr,_,_,_,vh,uc⟩:=eS m5 g2;have vu:v.length=2:=vh;have u0:=(uc 0 _ rfl).trans (am (show 0<v.length by omega));have u1:=(uc 1 _ rfl).trans (am (show 1<v.length by omega));obtain⟨ln,v0,_,_⟩:=ev dj u0;obtain⟨cl,v1,_,_⟩:=ev dj u1;obtain rfl:c2= .int .i64 ln:=by simpa[D,G] using v0
 obtain rfl:c3= .int .i64 cl:=by simpa[D,G] using v1
 exact⟨⟨⟨nm,J,u.length,fC,ln,cl⟩,u⟩,rfl,rfl,vd,vc,va,vf⟩
end
end
section
open Go.RowKit Go.Maps
def Iq (x:bp):Prop:= -9223372036854775808<=x/\x<=9223372036854775807
structure IY where
 fA:eA Addr
 fC:bx
 yA:eA Addr
 yC:bx
 vals:bm cd

end
section
open Go.RowKit Go.ChangeShapes Go.WideShapes Go.Deep
theorem yN {x:bp}(h:(Lit.int .i64 x).wf=tE):Iq x:=by
 simp only[Lit.wf,eN,ly] at h;exact h
def Ins.wfs (i:Ins):Prop:=Iq i.d/\Iq i.a/\Iq i.b/\Iq i.f
section
variable {H:Type}{enc:gx×cd->H}{w:World}{base:bx}{spare:bx->nj}{held:nj}
theorem DX {n:bx}{u:bm cd}{x:DataW H×bm od}(h:kp enc ac w base spare held n 42 u=tB x):∃i:Ins,i.cells.toList=u/\(i.args_in w/\i.wfs)/\i.mode_in w:=by
 obtain⟨i,v,h2,h3⟩:=DW h;refine⟨i,v,⟨h2, ?_⟩,h3⟩;obtain⟨xs,m,_,_,ud,uc,q⟩:=eS cJ h;have ue:xs.length=12:=uc;have z:ac.cellsOf 3=1:=by kernel_rfl
 have g1:=(q 1 _ rfl).trans (am (show 1<xs.length by omega));have g2:=(q 2 _ rfl).trans (am (show 2<xs.length by omega));have g3:=(q 3 _ rfl).trans (am (show 3<xs.length by omega));have g4:=(q 4 _ rfl).trans (am (show 4<xs.length by omega));obtain⟨d,A,_,w1⟩:=ev dj g1;obtain⟨a,D,_,w2⟩:=ev dj g2;obtain⟨b,G,_,w3⟩:=ev dj g3;obtain⟨f,J,_,w4⟩:=ev dj g4;rw[<-v] at A D G J;have e1:i.d=d:=by simpa[Ins.cells,z] using A
 have e2:i.a=a:=by simpa[Ins.cells,z] using D
 have e3:i.b=b:=by simpa[Ins.cells,z] using G
 have e4:i.f=f:=by simpa[Ins.cells,z] using J
 unfold Ins.wfs;rw[e1,e2,e3,e4];exact⟨yN w1,yN w2,yN w3,yN w4⟩
theorem Fp {n:bx}{u:bm cd}{x:DataW H×bm od}(h:kp enc ac w base spare held n 38 u=tB x):∃f:Fn,f.cells.toList=u/\f.inn w/\∀i∈f.c.ins,i.wfs:=by
 obtain⟨xs,m,_,_,uc,vh,q⟩:=eS cQ h;have hc:ac.cellsOf 38=8:=by kernel_rfl
 have wx:xs.length=6:=vh;rw[hc] at uc;obtain⟨c0,xf,e0,vi⟩:=zU uc;obtain⟨c1,xj,e1,vj⟩:=zU vi;obtain⟨c2,xl,e2,vm⟩:=zU vj;obtain⟨c3,xo,e3,vp⟩:=zU vm;obtain⟨c4,xp,e4,vq⟩:=zU vp;obtain⟨c5,xr,e5,vr⟩:=zU vq;obtain⟨c6,xt,e6,vu⟩:=zU vr;obtain⟨c7,xF,e7,vx⟩:=zU vu;obtain rfl:=du vx;subst e7 e6 e5 e4 e3 e2 e1 e0;have g0:=(q 0 _ rfl).trans (am (show 0<xs.length by omega));obtain⟨nm,r0,_,vy⟩:=lA im g0;obtain rfl:c0= .string nm:=by simpa[show ac.cellsOf 9=1 from by kernel_rfl] using r0
 have g1:=(q 1 _ rfl).trans (am (show 1<xs.length by omega));obtain⟨ud,r1,_,_⟩:=ev dj g1;obtain rfl:c1= .int .i64 ud:=by simpa[show ac.cellsOf 3=1 from by kernel_rfl] using r1
 have g2:=(q 2 _ rfl).trans (am (show 2<xs.length by omega));obtain⟨ue,A,ur,r2,we,uv,_⟩:=open_row Vr.cells (λ_=>True) 3 (by decide) underlying30 (by kernel_rfl) (λn u x d=>Cg d) g2;obtain rfl:c2= .slice ue A.length ur:=by simpa[show ac.cellsOf 30=1 from by kernel_rfl] using r2
 have g3:=(q 3 _ rfl).trans (am (show 3<xs.length by omega));obtain⟨v,hv,_⟩:=Cg g3;have z4:ac.cellsOf 34=3:=by kernel_rfl
 simp[Vr.cells,z4] at hv;obtain⟨rfl,rfl,rfl⟩:=hv;have g4:=(q 4 _ rfl).trans (am (show 4<xs.length by omega));obtain⟨ux,D,va,r4,wg,vc,_⟩:=jE g4;obtain rfl:c6= .slice ux D.length va:=by simpa[show ac.cellsOf 35=1 from by kernel_rfl] using r4
 have g5:=(q 5 _ rfl).trans (am (show 5<xs.length by omega));obtain⟨vd,ins,vf,r5,wi,wj,J⟩:=open_row Ins.cells (λi=>(i.args_in w/\i.wfs)/\i.mode_in w) 13 (by decide) underlying36 (by kernel_rfl) (λn u x d=>DX d) g5;obtain rfl:c7= .slice vd ins.length vf:=by simpa[show ac.cellsOf 36=1 from by kernel_rfl] using r5
 obtain⟨wk,wl,ws⟩:=lM (λk (l:bm bp)=>∀i,ins[k]?=tB i->∃G cap,i.modeV= .slice G l.length cap/\kI w G l) ins.length (λk hk=>by
  obtain⟨i,hi⟩:∃i,ins[k]?=tB i:=⟨_,am hk⟩
  obtain⟨l,G,cap,h1,h2⟩:=(J i (cf hi)).2;exact⟨l,λj hj=>by rw[hi] at hj;obtain rfl:=cD hj;exact⟨G,cap,h1,h2⟩⟩)
 exact⟨⟨⟨nm,ud,ue,A.length,ur,v.ptr,v.tgt,v.cls,ux,D.length,va,vd,vf,ins⟩,A,D,wk⟩,rfl,⟨⟨wj,λx d=>(J x d).1.1,wi,⟨A,rfl,uv⟩,we,wg,⟨D,rfl,vc⟩⟩,vy,rfl,uv,rfl,vc,wl,λk i l h1 h2=>ws k l h2 i h1⟩,λx d=>(J x d).1.2⟩
theorem open_moW {r:Reach}{b0:bx}{v:cd}{d:DataW H}{p:bm od}(hv:Value.okWide ac w r b0 25 v)(h:DataW.Trod enc ac w base spare held 25 v d p):
  ∃m:Mo,v= .agg m.cells/\m.inn w/\∀g∈m.fs,∀i∈g.c.ins,i.wfs:=by
 obtain⟨u,fuel,ud,ue⟩:=GG fk hv h;obtain⟨xs,m,_,_,A,ur,q⟩:=eS fk ue;have hc:ac.cellsOf 25=2:=by kernel_rfl
 have vj:xs.length=2:=ur;rw[hc] at A;obtain⟨c0,uv,D⟩:=pN (show u.toList.length=1+1 from by rw[A]);have ux:uv.length=1:=by rw[D] at A;simpa using A
 obtain⟨c1,vm,e1,va⟩:=zU ux;obtain rfl:=du va;subst e1;have g0:=(q 0 _ rfl).trans (am (show 0<xs.length by omega));have g1:=(q 1 _ rfl).trans (am (show 1<xs.length by omega));obtain⟨sA,ss,sC,r0,vc,vd,vf⟩:=open_row St.cells (λs=>s.inn w) 4 (by decide) underlying22 (by kernel_rfl) (λn u x G=>Gm G) g0;obtain⟨J,fs,fC,r1,vh,vi,uc⟩:=open_row Fn.cells (λf=>f.inn w/\∀i∈f.c.ins,i.wfs) 8 (by decide) underlying23 (by kernel_rfl) (λn u x G=>Fp G) g1;rw[D] at r0 r1;obtain rfl:c0= .slice sA ss.length sC:=by simpa[show ac.cellsOf 22=1 from by kernel_rfl] using r0
 obtain rfl:c1= .slice J fs.length fC:=by simpa[show ac.cellsOf 22=1 from by kernel_rfl,show ac.cellsOf 23=1 from by kernel_rfl] using r1
 have e:u=(⟨sA,sC,J,fC,ss,fs⟩:Mo).cells:=Array.ext' D;exact⟨⟨sA,sC,J,fC,ss,fs⟩,by rw[ud,e],⟨vd,vi,vf,λf q=>(uc f q).1,vc,vh⟩,λf q=>(uc f q).2⟩
end
end
end Go.Proofs.YtjomgckjhcfbgaaGreat
