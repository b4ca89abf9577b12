/- Walks. -/
import Derived.Test.YtjomgckjhcfbgaaGreatX13
import Derived.Test.YtjomgckjhcfbgaaGreatX18
set_option maxRecDepth 100000
set_option maxHeartbeats 64000000
set_option linter.all false
namespace Go.Proofs.YtjomgckjhcfbgaaGreat
open Go.RowKit
open Go.Proofs.Tryz renaming prog→ac
open _root_.List renaming getElem?_eq_getElem→am,getElem?_eq_some_iff→bl,mem_of_getElem?→ce,mem_map→dd,length_map→dj,getElem?_map→jz,length_range→kA,range→lR,mem_range→oc
open Go.RowKit.Below renaming refl→an
open Go.RowKit renaming Below→aq,Hid→ca
open _root_ renaming List→bm,Nat→cd,Int→cj,decide_eq_false→cv,Array→cG,Option→du,beq_false_of_ne→eM,bne_iff_ne→nt
open Go renaming Value→bw,maxLen→dl,Calls→ft,Oper→ij,yielded→im,Program→i8,Addr→oA
open _root_.Nat renaming lt_of_lt_of_le→cn,zero_le→cJ,add_zero→kO
open Go.Region renaming ready→cN,wanted→dt,noSelect→ei,Mode→fy,noSelect_spec→hU,free→ia,free_spec→kf
open _root_.Int renaming ofNat→jt
open _root_.Option renaming some→qt,none→qu
open _root_.Bool renaming true→qv,false→qS
open Go.Value renaming slice→ra,pointer→rb,bool→re,agg→rh,int→Z
open Go.Obj renaming cells→rj
open Go.IntKind renaming i64→U
open Tryz
section
open Go.RowKit Go.Maps
theorem mW {l:bm cd}(h:l.Pairwise (·<·))(d:∀x∈l,x<=900000):l.length<=1000000:=by
 have f:l.Nodup:=h.imp (λh=>Nat.ne_of_lt h);have:=fO l (lR 900001) f λx o=>oc.2 (by have:=d x o;omega);rw[kA] at this;omega
theorem eU {W:World}{p:PS}{n1 n2:Nd}{f h:bm cd}{u v:du oA}{c1 c2 D G:cd}(o:iT W D (ra u f.length c1) p.H n1 f)(q:iT W G (ra v h.length c2) p.H n2 h)(A:∀n x,(n,x)∈p.H->x<=900000)(J:∀x,(n1,x)∈p.H->(n2,x)∈p.H):
  zS 46 #[ra u f.length c1,ra v h.length c2] W (re qv):=by
 have m1:=mW o.2.1 (λx d=>A _ _ ((o.2.2 x).1 d));have m2:=mW q.2.1 (λx d=>A _ _ ((q.2.2 x).1 d));have:=xD W u v (f.map jt) (h.map jt) c1 c2 o.1.at_ q.1.at_ (by rw[dj];exact m1) (by rw[dj];exact m2) (λx d=>by
  obtain⟨y,K,rfl⟩:=dd.1 d;exact dd.2 ⟨y,(q.2.2 y).2 (J y ((o.2.2 y).1 K)),rfl⟩)
 rw[dj,dj] at this;exact this
theorem yN {P:i8}{ops:cG ij}{Q:Exit->Act->World->Prop}{md:fy}{S:World->Prop}(i:cd){d:ij}{fuel:cd}{listed:cG Bool}{a:Act}{w:World}(f:ops[i]?=qt d)
  (h:fP P md ops Q S fuel (listed.setIfInBounds i qv) (a.put d.dst undef) w)
  (o:dt d (im ops a.tmps)=qS:=by rfl)
  (q:ei ops=qv:=by kernel_rfl)(u:ia md ops listed i=qv:=by kernel_rfl)(v:(cN md ops listed).contains i=qv:=by kernel_rfl)(y:listed[i]?=qt qS:=by kernel_rfl)
  (A:∀c a w,Q (.panic c) (a.put d.dst undef) w->Q (.panic c) a w:=by exact λ_ _ _ h=>h)(D:S w:=by assumption):fP P md ops Q S (fuel+1) listed a w:=
 jG f (hU q) A fuel listed a w (kf f u) (by simpa using v) y (.inr ⟨o,rfl⟩) D h
theorem iT.below {W W':World}{B:cd}{v:bw}{H:bm (Nd×cd)}{n:Nd}{l:bm cd}(h:iT W B v H n l)(d:aq W.heap.size W W'):iT W' B v H n l:=⟨ownsRow_below h.1 d,h.2⟩
theorem pointsHold_calls (m:Mo)(w:World)(hm:m.inn w)(ye:∀g∈m.fs,∀i∈g.c.ins,fI i.d/\fI i.a/\fI i.b/\fI i.f):
  zP 10 #[rh m.cells] w (re qv):=by
 obtain⟨N,hN⟩:=zE w.heap.size;obtain⟨W1,tG⟩:=zE (w.alloc (rj m.cells 25));have rx:=gQ tG hN;have rn:W1.heap.size=N+1:=by rw[<-tG];simp[hN]
 have q1:W1.heap[N]?=qt (rj m.cells 25 (0,0)):=by rw[<-tG,<-hN];exact alloc_at _ _
 have HK:ca (∀W,aq W1.heap.size W1 W->W.cell? ⟨N,0,qu⟩=qt (ra m.sA m.ss.length m.sC)/\W.cell? ⟨N,1,qu⟩=qt (ra m.fA m.fs.length m.fC)/\m.inn W/\aq N w W/\N<W.heap.size):=λW o=>by
  have h1:=(o.block N (by omega)).trans q1;have h3:=rx.trans (o.mono (by omega));exact⟨zR h1 0 _,zR h1 1 _,hm.below (by rw[hN];exact h3),h3,aa h1⟩
 obtain⟨c0,c1,yi,_⟩:=HK.out W1 (an _ _);have vr:=zH (vK W1 m yi);have vt:=zH λW=>sF W;have yk:=zH ye;have vu:=tG;simp only[Mo.cells] at vu vr;have yp:=zH vu;unfold zP;rw[hN];simp only[Mo.cells];clear hm yi q1 tG vu rx ye;go_enter func10,ntmps10
 go_upto_region 1 with(fail)
 rw[yp.out];clear hN
 go_wp2_with fail
 go_at_call 27;refine vr.out.mono ?_;rintro e w2 ⟨b,rfl,hb,rr⟩;obtain⟨d0,d1,uv,yq,_⟩:=HK.out w2 rr;have tv:=zH rr;clear yp vr;cases b with
 |false=>
  clear c0 c1 hb rr uv yq
  go_wp2_with (go_at_call 29;refine(vt.out _).mono ?_;rintro e w3 ⟨rfl,rN⟩;have HR:=zH (HK.out w3 (tv.out.trans (rN.mono tv.out.size))).2.2.2.1;clear rN)
  go_ret;exact⟨rfl,HR.out⟩
 |true=>
 have ux:=hb rfl;have yr:=kC uv ux.2.2;have tM:=zH (pW m w2 yr);have yv:=zH uv;obtain⟨F,hF⟩:=zE (dE m);rw[hF] at tM;simp only[Mo.cells] at tM;clear c0 c1 hb rr uv yq yr
 by_cases yy:F=0
 rotate_left
 ·have e0:(F != 0)=qv:=by rw[nt];exact yy
  clear hF
  go_wp2_with (first
   |(go_at_call 13;refine tM.out.mono ?_;rintro e w3 ⟨rfl,rN⟩;have tl:=zH (tv.out.trans (rN.mono tv.out.size));clear rN)
   |(go_at_call 29;refine(vt.out _).mono ?_;rintro e w4 ⟨rfl,tP⟩;have HR:=zH (HK.out w4 (tl.out.trans (tP.mono tl.out.size))).2.2.2.1;clear tP))
  go_ret;exact⟨rfl,HR.out⟩
 subst yy;have e0:((0:cj) != 0)=qS:=rfl;have sT:=zH hF;have tR:lh w2 m:=Cv yv.out ux yk.out (λg hg i hi tz y hy=>by
  obtain⟨j,hj⟩:=List.getElem?_of_mem hg;obtain⟨k,hk⟩:=List.getElem?_of_mem hi;have h1:=zI hF hj hk tz y hy;have h2:=(kC yv.out ux.2.2).vl g hg;unfold fI;omega)
 have vx:ca (∀W,aq w2.heap.size w2 W->lh W m):=λW o=>⟨eD.belowP tR.ri o,tR.wf,tR.ni,tR.nf⟩
 clear hF tR ux
 go_upto_region 3 with(go_at_call 13;refine tM.out.mono ?_;rintro e w3 ⟨rfl,rN⟩;have tl:=zH (tv.out.trans (rN.mono tv.out.size));have yW:=zH rN;clear rN)
 clear d0 d1 e0;obtain⟨d0,d1,_⟩:=HK.out w3 tl.out;have zc:=zH (jM m w3 (vx.out w3 yW.out) sT.out);clear tM
 go_upto_region 4 with(go_at_call 30;refine zc.out.mono ?_;rintro e w4 ⟨Q,p,tg,s,rfl,hst,zd,hP,tP⟩;have vy:=zH hst;have zj:=zH zd;have HP:=zH hP;have wa:ca (aq W1.heap.size W1 w4):=zH (tl.out.trans (tP.mono tl.out.size));clear hst zd hP tP)
 clear d0 d1 zc;obtain⟨T,hT⟩:=zE (Q+3);rw[hT] at HP⊢;have CM:p.St.length<=400:=by
  rw[vy.out];have:=dU (l:=m.xi);have:=(vx.out w2 (an _ _)).ni;omega
 have rS:ca (∀n x,(n,x)∈p.H->x<=900000):=λn x hx=>by
  have h1:=fU ((zj.out n x).1 hx);rw[<-vy.out] at h1;omega
 have zp:=zH (ll w4 HP.out (by omega))
 go_upto_region 5 with(go_at_call 31;refine zp.out.mono ?_;rintro e w5 ⟨v5,rfl,zr,va⟩;have Bk:=zH zr;have sq:=zH va;clear zr va)
 have Bm:=zH (HP.out.grow sq.out);have vc:ca (aq W1.heap.size W1 w5):=wa.out.trans (sq.out.mono wa.out.size);have wb:ca (lh w2 m):=vx.out w2 (an _ _);clear zp HP wa sq tl yW hT
 go_upto_region 6 with(fail)
 go_loopw [6] (λkk wr=>∃j:cd,j<=m.fs.length/\kk= Z U (j:cj)/\aq w5.heap.size w5 wr) (λkk _=>m.fs.length-(intOf kk).toNat)
 case atStart=>exact⟨0,cJ _,rfl,an _ _⟩
 case round=>
  obtain⟨j,hj,rfl,vd⟩:=hrel;have vf:aq W1.heap.size W1 wr:=vc.out.trans (vd.mono vc.out.size);obtain⟨d0,d1,zv,_,By⟩:=HK.out wr vf;have CN:=wb.out.nf
  by_cases we:j<m.fs.length
  rotate_left
  ·have CT:¬(j:cj)<(m.fs.length:cj):=by omega
   have C3:decide (j<m.fs.length)=qS:=cv we;have vh:=zH vf;clear vd vf zv d0
   go_wp2_with (go_at_call 29;refine(vt.out _).mono ?_;rintro e w6 ⟨rfl,vi⟩;have HR:=zH (HK.out w6 (vh.out.trans (vi.mono vh.out.size))).2.2.2.1;clear vi)
   go_ret;exact⟨rfl,HR.out⟩
  obtain⟨g,hg⟩:∃g,m.fs[j]?=qt g:=⟨_,am we⟩
  have C4:(j:cj)<(m.fs.length:cj):=by omega
  have tm:=ce hg;have vh:=zH vd;have HG:=zH hg;clear vf zv hg vd
  go_upto_region 9 with(fail)
  clear d0 d1 By
  go_loopw [7] (λkk wq=>∃k:cd,k<=g.c.ins.length/\kk= Z U (k:cj)/\aq w5.heap.size w5 wq) (λkk _=>g.c.ins.length-(intOf kk).toNat)
  case atStart=>exact⟨0,cJ _,rfl,vh.out⟩
  case round=>
   obtain⟨k,hk,rfl,tA⟩:=hrel;have wg:aq W1.heap.size W1 wr:=vc.out.trans (tA.mono vc.out.size);obtain⟨d0,d1,vj,_,C5⟩:=HK.out wr wg;have BE:m.fs≠[]:=λe=>by rw[e] at tm;simp at tm
   obtain⟨fb,fo,vm,C6,wi⟩:=vj.frow BE;have tS:=vj.fin g tm;have BT:g.c.ins≠[]:=by
    have BY:=lJ ((iR sT.out).2.2.2.2.1 g tm);intro e;have:=BY.2.1;rw[e] at this;simp at this
   obtain⟨ib,io,wj,C7,wk⟩:=tS.code.row BT;have An:=wi j g HG.out 7 _ rfl;rw[wj] at An;rw[vm] at d1;have B4:g.c.ins.length<=dl:=tS.code.len;unfold dl at B4
   by_cases sY:k<g.c.ins.length
   rotate_left
   ·have Dd:decide (k<g.c.ins.length)=qS:=cv sY
    have Dg:¬(k:cj)<(g.c.ins.length:cj):=by omega
    have B5:=zH tA;clear tA wg vj vm tS wj wk wi d0;go_wp2;go_roundw
    case rel=>exact⟨j+1,we,by go_num,B5.out⟩
    case measure=>simp[intOf];omega
   obtain⟨i,hi⟩:∃i,g.c.ins[k]?=qt i:=⟨_,am sY⟩
   have vn:=ce hi;have Do:(k:cj)<(g.c.ins.length:cj):=by omega
   obtain⟨As,ga,gc,wl,tU⟩:=tS.code.args i vn;have hst:=xB (i:=i) As (w:=wr);obtain⟨_,mo,mn,mc,wn⟩:=As;have sf:∀(q:cd)(u:bw),i.cells.toList[q]?=qt u->wr.cell? ⟨ib,io+k*13+q,qu⟩=qt u:=λq u hu=>wk k i hi q u hu;have x0:=sf 0 _ rfl;have x1:=sf 1 _ rfl;have x2:=sf 2 _ rfl;have x3:=sf 3 _ rfl;have x4:=sf 4 _ rfl;have x5:=sf 5 _ rfl;have x6:=sf 6 _ rfl;have x7:=sf 7 _ rfl;have x8:=sf 8 _ rfl;have x9:=sf 9 _ rfl;have At:=sf 10 _ rfl;have Ax:=sf 11 _ rfl;have AD:=sf 12 _ rfl;rw[kO] at x0;rw[wl] at x7;rw[wn] at x8;obtain⟨D,hD⟩:=zE wr.heap.size;obtain⟨G,tW⟩:=zE (wr.alloc (rj i.cells 42));have rl:=iF tW;have ws:G.heap[D]?=qt (rj i.cells 42 (0,0)):=by rw[<-tW,<-hD];exact alloc_at _ _
   have tB:aq w5.heap.size w5 G:=tA.trans (rl.mono tA.size);have sy:=yk.out g tm i vn;have Ds:=sT.out;have ua:ca (∀W,aq G.heap.size G W->Pm T Q (Q+1) (Q+2) m (w3.heap.size+1) tg s p W):=λW o=>Bm.out.grow (tB.trans (o.mono tB.size));have wx:fI (j:cj):=fZ (by omega);have te:ca (∀W,aq G.heap.size G W->∀v:cj,0<=v->fI v->ft ac 44 #[rb (qt ⟨T,0,qu⟩),Z U (j:cj),Z U v] W (lM p.H (aQ j v) W)):=λW o v h0 h1=>
    mQ W (ua.out W o) j v ⟨by omega,h0⟩ (bK wx h1) rS.out
   have AE:ca (∀W,aq G.heap.size G W->∀x v:cj,0<=x->fI x->0<=v->fI v->ft ac 36 #[rb (qt ⟨T,0,qu⟩),Z U x,Z U v] W (lM p.H (kP x v) W)):=λW o x v h0 h1 h2 h3=>
    qB W (ua.out W o) x v ⟨h0,h2⟩ (vG h1 h3) rS.out
   have B6:ca (∀W,aq G.heap.size G W->∀f v:cj,0<=f->fI f->0<=v->fI v->ft ac 44 #[rb (qt ⟨T,0,qu⟩),Z U f,Z U v] W (lM p.H (aQ f v) W)):=λW o x v h0 h1 h2 h3=>
    mQ W (ua.out W o) x v ⟨h0,h2⟩ (bK h1 h3) rS.out
   have AF:ca (∀W,aq G.heap.size G W->∀f:cj,0<=f->fI f->ft ac 42 #[rb (qt ⟨T,0,qu⟩),Z U f] W (lM p.H (kN f) W)):=λW o f h0 h1=>
    oG W (ua.out W o) f h0 (qo h1) rS.out
   have AG:ca (∀W,aq G.heap.size G W->zP 34 #[v5,rh #[Z U (j:cj),Z U (k:cj)]] W (Z U (kz ((j:cj),(k:cj)) 0 (aF m.xi)))):=λW o=>by
    rw[<-vy.out];exact zh W v5 p.St j k (ownsRow_below Bk.out (tB.trans (o.mono tB.size))) (by omega)
   have B7:ca (∀W,aq G.heap.size G W->au W ga i.args):=λW o=>tU.at_.below (rl.trans (o.mono rl.size));have B8:=wb.out.ri.al g tm i vn;have rB:ca (∀n x,(n,x)∈p.H↔m.lf n x):=zj.out;have sr:=zH tB;have HI:=zH hi;obtain⟨op,d,a,b,ff,nn,DA,DB,DE,DG,DH,ln,cl,args⟩:=i;simp only at wl wn sy B8;simp only[Ins.cells] at hst tW ws x0 x1 x2 x3 x4 x5 x6 x7 x8 x9 At Ax AD;subst wl wn;have AH:=zH tW;have AI:=zH ws;clear tA wg vj wi tS wk sf tU tW rl ws tB vn hi;have B9:m.fA=qt ⟨fb,fo,qu⟩:=vm;clear B9 vm wj
   go_upto_region 13 with(fail)
   (try rw[AH.out]);(try rw[hD]);obtain⟨SI,xf⟩:=zE ((λW=>aq G.heap.size G W):World->Prop);have tf:ca (∀W,aq G.heap.size G W->SI W):=λW o=>by rw[<-xf];exact o
   have ub:ca (∀W,SI W->aq G.heap.size G W):=λW o=>by rw[<-xf] at o;exact o
   have J:ca (∀W,SI W->W.cell? ⟨D,0,qu⟩=qt (Z U op)/\W.cell? ⟨D,1,qu⟩=qt (Z U d)/\W.cell? ⟨D,2,qu⟩=qt (Z U a)/\W.cell? ⟨D,3,qu⟩=qt (Z U b)/\W.cell? ⟨D,4,qu⟩=qt (Z U ff)/\W.cell? ⟨D,7,qu⟩=qt (ra ga args.length gc)/\D<W.heap.size):=λW o=>by
    have r:=((ub.out W o).block D (aa AI.out)).trans AI.out;exact⟨zR r 0 _,zR r 1 _,zR r 2 _,zR r 3 _,zR r 4 _,zR r 7 _,aa r⟩
   obtain⟨V,hV⟩:=zE G.drew;have rm:SI V:=by rw[<-hV];exact tf.out _ (an _ _).drew
   have HV:=zH hV;obtain⟨i0,i1,i2,i3,i4,i7,iD⟩:=J.out G (tf.out _ (an _ _));have DM:k<9223372036854775807:=by omega
   clear xf hV x0 x1 x2 x3 x4 x5 x6 x7 x8 x9 At Ax AD An d1 hst hD AH
   by_cases xj:op=12
   ·as_aux_lemma=>
     obtain⟨sk,x,AK,vp⟩:=Cs sT.out HG.out HI.out xj;simp only at sk vp;subst xj;rw[AK] at AG;have AM:x<=900000:=rS.out _ x ((rB.out _ _).2 vp);have AN:ca (∀W,SI W->zP 33 #[rb (qt ⟨T,0,qu⟩),Z U (j:cj),Z U d,Z U (x:cj)] W (re qv)):=λW o=>by
      obtain⟨q,Cd,AS⟩:=kw W (ua.out W (ub.out W o)) j d x ⟨by omega,sk⟩ (bK wx sy.1) (fZ (by omega));rw[Cd.2 ⟨x,rfl,(rB.out _ _).2 vp⟩] at AS;exact AS
     clear AK vp;have sn:=tf;have K:=ub;obtain⟨R,rK⟩:=zE SI;rw[rK] at sn K J rm AN;clear rK
     go_upto_region 15 with(fail)
     refine bQ R (by kernel_rfl) ?_;rw[HV.out];refine yT 0 rfl J.out ?_;(try go_simp);refine yT 1 rfl J.out ?_;(try go_simp);refine yT 2 rfl J.out ?_;(try go_simp);refine yT 3 rfl J.out ?_;(try go_simp);refine yT 4 rfl J.out ?_;(try go_simp);refine yT 5 rfl J.out ?_;(try go_simp);refine yT 6 rfl J.out ?_;(try go_simp);refine yT 7 rfl J.out ?_;(try go_simp);refine yO 8 rfl λK' A=> ?_;go_simp;go_at_call 34;refine(AG.out V (K.out V rm)).mono ?_;rintro e W5 ⟨rfl,va⟩;have se:R W5:=sn.out _ ((K.out V rm).trans (va.mono (K.out V rm).size));refine A _ _ se ?_;clear A;(try go_simp);refine yO 9 rfl λK' A=> ?_;go_simp;go_at_call 33;refine(AN.out W5 se).mono ?_;rintro e W6 ⟨rfl,vi⟩;have rv:R W6:=sn.out _ ((K.out W5 se).trans (vi.mono (K.out W5 se).size));refine A _ _ rv ?_;clear A;(try go_simp);refine yT 10 rfl J.out ?_;(try go_simp);refine⟨by kernel_rfl, ?_⟩;have sB:ca (aq w5.heap.size w5 W6):=sr.out.trans ((K.out W6 rv).mono sr.out.size);go_wp2;go_roundw
     case rel=>exact⟨k+1,sY,by go_num,sB.out⟩
     case measure=>simp[intOf];omega
   have DO:((op:cj)==12)=qS:=eM xj
   by_cases h9:op=9
   ·as_aux_lemma=>
     obtain⟨sE,sk,hh⟩:=A7 sT.out HG.out HI.out h9;simp only at sE sk hh;subst h9;have sn:=tf;have K:=ub;obtain⟨R,rK⟩:=zE SI;rw[rK] at sn K J rm;clear rK
     go_upto_region 17 with(fail)
     refine bQ R (by kernel_rfl) ?_;rw[HV.out];refine yT 0 rfl J.out ?_;(try go_simp);refine yT 1 rfl J.out ?_;(try go_simp);refine yT 2 rfl J.out ?_;(try go_simp);refine yT 3 rfl J.out ?_;(try go_simp);refine yT 5 rfl J.out ?_;(try go_simp);refine yT 6 rfl J.out ?_;(try go_simp);refine yT 7 rfl J.out ?_;(try go_simp);refine yT 8 rfl J.out ?_;(try go_simp);refine yO 4 rfl λK' A=> ?_;go_simp;go_at_call 44;refine(te.out V (K.out V rm) a sE sy.2.1).mono ?_;rintro e W5 ⟨l1,a1,c1,rfl,rn,rx⟩;have se:R W5:=sn.out _ ((K.out V rm).trans (rx.mono (K.out V rm).size));refine A _ _ se ?_;clear A;(try go_simp);refine yO 9 rfl λK' A=> ?_;go_simp;go_at_call 44;refine(te.out W5 (K.out W5 se) d sk sy.1).mono ?_;rintro e W6 ⟨l2,a2,c2,rfl,rI,rr⟩;have rv:R W6:=sn.out _ ((K.out W5 se).trans (rr.mono (K.out W5 se).size));have rn:=rn.below rr;refine A _ _ rv ?_;clear A;(try go_simp);refine yO 10 rfl λK' A=> ?_;go_simp;go_at_call 46;refine(eU rn rI rS.out (λx hx=>(rB.out _ _).2 (hh x ((rB.out _ _).1 hx)))).mono ?_;rintro e _ ⟨rfl,rfl⟩;refine A _ _ rv ?_;clear A;(try go_simp);refine yT 11 rfl J.out ?_;(try go_simp);refine⟨by kernel_rfl, ?_⟩;have sB:ca (aq w5.heap.size w5 W6):=sr.out.trans ((K.out W6 rv).mono sr.out.size);go_wp2;go_roundw
     case rel=>exact⟨k+1,sY,by go_num,sB.out⟩
     case measure=>simp[intOf];omega
   have e9:((op:cj)==9)=qS:=eM h9;have vq:fI ff:=sy.2.2.2
   by_cases xl:op=10
   ·as_aux_lemma=>
     obtain⟨sE,sk,th,hh⟩:=A8 sT.out HG.out HI.out xl;simp only at sE sk th hh;subst xl;have tn:=zH (te.out G (an _ _) a sE sy.2.1)
     go_upto_region 22 with(go_at_call 44;refine tn.out.mono ?_;rintro e W5 ⟨l1,a1,c1,rfl,rn,rx⟩;have sL:=zH rn;have sq:=zH rx;clear rn rx)
     clear i0 i1 i2 i3 i4 i7 iD HV rm tn;have Cl:=mW sL.out.2.1 (λx hx=>rS.out _ _ ((sL.out.2.2 x).1 hx))
     go_loopw [9,11] (λs9 tp wv=>∃q:cd,q<=l1.length/\s9= re qv/\tp= Z U (q:cj)/\aq W5.heap.size W5 wv) (λ_ tp _=>l1.length-(intOf tp).toNat)
     case atStart=>exact⟨0,cJ _,rfl,rfl,an _ _⟩
     case round=>
      obtain⟨q,hq,rfl,rfl,rL⟩:=hrel;have rl:aq G.heap.size G wr:=sq.out.trans (rL.mono sq.out.size)
      by_cases sX:q<l1.length
      rotate_left
      ·have AT:decide (q<l1.length)=qS:=cv sX
       have AW:¬(q:cj)<(l1.length:cj):=by omega
       obtain⟨i0,i1,i2,i3,i4,i7,iD⟩:=J.out wr (tf.out _ rl);have sB:ca (aq w5.heap.size w5 wr):=sr.out.trans (rl.mono sr.out.size);clear rL rl;go_wp2;go_roundw
       case rel=>exact⟨k+1,sY,by go_num,sB.out⟩
       case measure=>simp[intOf];omega
      obtain⟨x,hx⟩:∃x,l1[q]?=qt x:=⟨_,am sX⟩
      have A0:(q:cj)<(l1.length:cj):=by omega
      have uc:m.lf (aQ j a) x:=(rB.out _ _).1 ((sL.out.2.2 x).1 (ce hx));have AM:x<=900000:=rS.out _ x ((rB.out _ _).2 uc);obtain⟨eg,eo,rfl,tr,ud⟩:=(sL.out.below rL).1.at_ (λe=>by have:=(bl.1 hx).1;rw[List.map_eq_nil_iff] at e;rw[e] at this;simp at this);have tt:=ud q (jt x) (by rw[jz,hx];rfl);rw[show jt x=(x:cj) from rfl] at tt;obtain⟨V,hV⟩:=zE wr.drew;obtain⟨R,rK⟩:=zE ((λW=>aq wr.heap.size wr W):World->Prop);have ue:ca (∀W,aq wr.heap.size wr W->R W):=λW o=>by rw[<-rK];exact o
      have sx:ca (∀W,R W->aq wr.heap.size wr W):=λW o=>by rw[<-rK] at o;exact o
      have K:ca (∀W,R W->aq G.heap.size G W):=λW o=>rl.trans ((sx.out W o).mono rl.size);have rm:R V:=by rw[<-hV];exact ue.out _ (an _ _).drew
      have ti:ca (∀W W',R W->aq W.heap.size W W'->R W'):=λW W' h1 h2=>ue.out _ ((sx.out W h1).trans (h2.mono (sx.out W h1).size));have h:ca (∀W,R W->W.cell? ⟨D,0,qu⟩=qt (Z U 10)/\W.cell? ⟨D,1,qu⟩=qt (Z U d)/\W.cell? ⟨D,2,qu⟩=qt (Z U a)/\W.cell? ⟨D,3,qu⟩=qt (Z U b)/\W.cell? ⟨D,4,qu⟩=qt (Z U ff)/\D<W.heap.size/\W.cell? ⟨eg,eo+q,qu⟩=qt (Z U (x:cj))/\eg<W.heap.size):=λW o=>by
       obtain⟨i0,i1,i2,i3,i4,i7,iD⟩:=J.out W (tf.out _ (K.out W o));refine⟨i0,i1,i2,i3,i4,iD, ?_,cn tr (sx.out W o).size⟩;rw[(sx.out W o).cell (p:=⟨eg,eo+q,qu⟩) tr];exact tt
      have HV:=zH hV;have tj:=zH rL;clear hV rK ud tt tr rL hx rl
      go_upto_region 24 with(fail)
      refine bQ R (by kernel_rfl) ?_;rw[HV.out];refine yT 0 rfl h.out ?_;(try go_simp);refine yT 1 rfl h.out ?_;(try go_simp);refine yT 2 rfl h.out ?_;(try go_simp);refine yT 3 rfl h.out ?_;(try go_simp);refine yT 4 rfl h.out ?_;(try go_simp);refine yT 5 rfl h.out ?_;(try go_simp);refine yT 6 rfl h.out ?_;(try go_simp);refine yT 7 rfl h.out ?_;(try go_simp);refine yT 8 rfl h.out ?_;(try go_simp);refine yT 9 rfl h.out ?_;(try go_simp);refine yT 10 rfl h.out ?_;(try go_simp);refine yT 11 rfl h.out ?_;(try go_simp);refine yT 12 rfl h.out ?_;(try go_simp);refine yT 14 rfl h.out ?_;(try go_simp);refine yT 15 rfl h.out ?_;(try go_simp);refine yT 16 rfl h.out ?_;(try go_simp);refine yT 17 rfl h.out ?_;(try go_simp);refine yO 13 rfl λK' A=> ?_;go_simp;go_at_call 36;refine(AE.out V (K.out V rm) (x:cj) ff (by omega) (fZ (by omega)) th vq).mono ?_;rintro e W6 ⟨l2,a2,c2,rfl,rI,rr⟩;have rv:R W6:=ti.out V _ rm rr;refine A _ _ rv ?_;clear A;(try go_simp);refine yO 18 rfl λK' A=> ?_;go_simp;go_at_call 44;refine(te.out W6 (K.out W6 rv) d sk sy.1).mono ?_;rintro e W7 ⟨l3,a3,c3,rfl,xo,rN⟩;have sR:R W7:=ti.out W6 _ rv rN;have rI:=rI.below rN;refine A _ _ sR ?_;clear A;(try go_simp);refine yO 19 rfl λK' A=> ?_;go_simp;go_at_call 46;refine(eU rI xo rS.out (λy hy=>(rB.out _ _).2 (hh x y uc ((rB.out _ _).1 hy)))).mono ?_;rintro e _ ⟨rfl,rfl⟩;refine A _ _ sR ?_;clear A;(try go_simp);refine yT 20 rfl h.out ?_;(try go_simp);refine yT 21 rfl h.out ?_;(try go_simp);refine yN 22 rfl ?_;(try go_simp);refine yN 23 rfl ?_;(try go_simp);refine yN 24 rfl ?_;(try go_simp);refine yN 25 rfl ?_;(try go_simp);refine yN 26 rfl ?_;(try go_simp);refine yN 27 rfl ?_;(try go_simp);refine yN 28 rfl ?_;(try go_simp);refine yN 29 rfl ?_;(try go_simp);refine yN 30 rfl ?_;(try go_simp);refine yN 31 rfl ?_;(try go_simp);refine yN 32 rfl ?_;(try go_simp);refine yN 33 rfl ?_;(try go_simp);refine yN 34 rfl ?_;(try go_simp);refine yN 35 rfl ?_;(try go_simp);refine yN 36 rfl ?_;(try go_simp);refine yN 37 rfl ?_;(try go_simp);refine yN 38 rfl ?_;(try go_simp);refine yN 39 rfl ?_;(try go_simp);refine yN 40 rfl ?_;(try go_simp);refine yT 41 rfl h.out ?_;(try go_simp);refine yT 42 rfl h.out ?_;(try go_simp);refine yT 43 rfl h.out ?_;(try go_simp);refine⟨by kernel_rfl, ?_⟩;have ur:ca (aq W5.heap.size W5 W7):=tj.out.trans ((sx.out W7 sR).mono tj.out.size);go_wp2;go_roundw
      case rel=>exact⟨q+1,by omega,rfl,by go_num,ur.out⟩
      case measure=>simp[intOf];omega
   have DP:((op:cj)==10)=qS:=eM xl
   by_cases xp:op=11
   ·as_aux_lemma=>
     obtain⟨sE,sk,th,hh⟩:=Ct sT.out HG.out HI.out xp;simp only at sE sk th hh;subst xp;have tn:=zH (te.out G (an _ _) a sE sy.2.1)
     go_upto_region 22 with(go_at_call 44;refine tn.out.mono ?_;rintro e W5 ⟨l1,a1,c1,rfl,rn,rx⟩;have sL:=zH rn;have sq:=zH rx;clear rn rx)
     clear i0 i1 i2 i3 i4 i7 iD HV rm tn;have Cl:=mW sL.out.2.1 (λx hx=>rS.out _ _ ((sL.out.2.2 x).1 hx))
     go_loopw [9,11] (λs9 tp wv=>∃q:cd,q<=l1.length/\s9= re qv/\tp= Z U (q:cj)/\aq W5.heap.size W5 wv) (λ_ tp _=>l1.length-(intOf tp).toNat)
     case atStart=>exact⟨0,cJ _,rfl,rfl,an _ _⟩
     case round=>
      obtain⟨q,hq,rfl,rfl,rL⟩:=hrel;have rl:aq G.heap.size G wr:=sq.out.trans (rL.mono sq.out.size)
      by_cases sX:q<l1.length
      rotate_left
      ·have AT:decide (q<l1.length)=qS:=cv sX
       have AW:¬(q:cj)<(l1.length:cj):=by omega
       obtain⟨i0,i1,i2,i3,i4,i7,iD⟩:=J.out wr (tf.out _ rl);have sB:ca (aq w5.heap.size w5 wr):=sr.out.trans (rl.mono sr.out.size);clear rL rl;go_wp2;go_roundw
       case rel=>exact⟨k+1,sY,by go_num,sB.out⟩
       case measure=>simp[intOf];omega
      obtain⟨x,hx⟩:∃x,l1[q]?=qt x:=⟨_,am sX⟩
      have A0:(q:cj)<(l1.length:cj):=by omega
      have uc:m.lf (aQ j a) x:=(rB.out _ _).1 ((sL.out.2.2 x).1 (ce hx));have AM:x<=900000:=rS.out _ x ((rB.out _ _).2 uc);obtain⟨eg,eo,rfl,tr,ud⟩:=(sL.out.below rL).1.at_ (λe=>by have:=(bl.1 hx).1;rw[List.map_eq_nil_iff] at e;rw[e] at this;simp at this);have tt:=ud q (jt x) (by rw[jz,hx];rfl);rw[show jt x=(x:cj) from rfl] at tt;obtain⟨V,hV⟩:=zE wr.drew;obtain⟨R,rK⟩:=zE ((λW=>aq wr.heap.size wr W):World->Prop);have ue:ca (∀W,aq wr.heap.size wr W->R W):=λW o=>by rw[<-rK];exact o
      have sx:ca (∀W,R W->aq wr.heap.size wr W):=λW o=>by rw[<-rK] at o;exact o
      have K:ca (∀W,R W->aq G.heap.size G W):=λW o=>rl.trans ((sx.out W o).mono rl.size);have rm:R V:=by rw[<-hV];exact ue.out _ (an _ _).drew
      have ti:ca (∀W W',R W->aq W.heap.size W W'->R W'):=λW W' h1 h2=>ue.out _ ((sx.out W h1).trans (h2.mono (sx.out W h1).size));have h:ca (∀W,R W->W.cell? ⟨D,0,qu⟩=qt (Z U 11)/\W.cell? ⟨D,1,qu⟩=qt (Z U d)/\W.cell? ⟨D,2,qu⟩=qt (Z U a)/\W.cell? ⟨D,3,qu⟩=qt (Z U b)/\W.cell? ⟨D,4,qu⟩=qt (Z U ff)/\D<W.heap.size/\W.cell? ⟨eg,eo+q,qu⟩=qt (Z U (x:cj))/\eg<W.heap.size):=λW o=>by
       obtain⟨i0,i1,i2,i3,i4,i7,iD⟩:=J.out W (tf.out _ (K.out W o));refine⟨i0,i1,i2,i3,i4,iD, ?_,cn tr (sx.out W o).size⟩;rw[(sx.out W o).cell (p:=⟨eg,eo+q,qu⟩) tr];exact tt
      have HV:=zH hV;have tj:=zH rL;clear hV rK ud tt tr rL hx rl
      go_upto_region 24 with(fail)
      refine bQ R (by kernel_rfl) ?_;rw[HV.out];refine yT 0 rfl h.out ?_;(try go_simp);refine yT 1 rfl h.out ?_;(try go_simp);refine yT 2 rfl h.out ?_;(try go_simp);refine yT 3 rfl h.out ?_;(try go_simp);refine yT 4 rfl h.out ?_;(try go_simp);refine yT 5 rfl h.out ?_;(try go_simp);refine yN 6 rfl ?_;(try go_simp);refine yN 7 rfl ?_;(try go_simp);refine yN 8 rfl ?_;(try go_simp);refine yN 9 rfl ?_;(try go_simp);refine yN 10 rfl ?_;(try go_simp);refine yN 11 rfl ?_;(try go_simp);refine yN 12 rfl ?_;(try go_simp);refine yN 13 rfl ?_;(try go_simp);refine yN 14 rfl ?_;(try go_simp);refine yN 15 rfl ?_;(try go_simp);refine yN 16 rfl ?_;(try go_simp);refine yN 17 rfl ?_;(try go_simp);refine yN 18 rfl ?_;(try go_simp);refine yN 19 rfl ?_;(try go_simp);refine yT 20 rfl h.out ?_;(try go_simp);refine yT 21 rfl h.out ?_;(try go_simp);refine yT 22 rfl h.out ?_;(try go_simp);refine yT 23 rfl h.out ?_;(try go_simp);refine yT 24 rfl h.out ?_;(try go_simp);refine yT 25 rfl h.out ?_;(try go_simp);refine yT 26 rfl h.out ?_;(try go_simp);refine yT 27 rfl h.out ?_;(try go_simp);refine yT 28 rfl h.out ?_;(try go_simp);refine yT 29 rfl h.out ?_;(try go_simp);refine yT 31 rfl h.out ?_;(try go_simp);refine yT 32 rfl h.out ?_;(try go_simp);refine yT 33 rfl h.out ?_;(try go_simp);refine yT 34 rfl h.out ?_;(try go_simp);refine yT 35 rfl h.out ?_;(try go_simp);refine yT 36 rfl h.out ?_;(try go_simp);refine yT 37 rfl h.out ?_;(try go_simp);refine yO 30 rfl λK' A=> ?_;go_simp;go_at_call 44;refine(te.out V (K.out V rm) b sk sy.2.2.1).mono ?_;rintro e W6 ⟨l2,a2,c2,rfl,rI,rr⟩;have rv:R W6:=ti.out V _ rm rr;refine A _ _ rv ?_;clear A;(try go_simp);refine yO 38 rfl λK' A=> ?_;go_simp;go_at_call 36;refine(AE.out W6 (K.out W6 rv) (x:cj) ff (by omega) (fZ (by omega)) th vq).mono ?_;rintro e W7 ⟨l3,a3,c3,rfl,xo,rN⟩;have sR:R W7:=ti.out W6 _ rv rN;have rI:=rI.below rN;refine A _ _ sR ?_;clear A;(try go_simp);refine yO 39 rfl λK' A=> ?_;go_simp;go_at_call 46;refine(eU rI xo rS.out (λy hy=>(rB.out _ _).2 (hh x y uc ((rB.out _ _).1 hy)))).mono ?_;rintro e _ ⟨rfl,rfl⟩;refine A _ _ sR ?_;clear A;(try go_simp);refine yT 40 rfl h.out ?_;(try go_simp);refine yT 41 rfl h.out ?_;(try go_simp);refine yT 42 rfl h.out ?_;(try go_simp);refine yT 43 rfl h.out ?_;(try go_simp);refine⟨by kernel_rfl, ?_⟩;have ur:ca (aq W5.heap.size W5 W7):=tj.out.trans ((sx.out W7 sR).mono tj.out.size);go_wp2;go_roundw
      case rel=>exact⟨q+1,by omega,rfl,by go_num,ur.out⟩
      case measure=>simp[intOf];omega
   have DQ:((op:cj)==11)=qS:=eM xp
   by_cases tz:op=15
   ·as_aux_lemma=>
     obtain⟨th,sk,A1,A2⟩:=A9 sT.out HG.out HI.out tz;have A3:=zI sT.out HG.out HI.out tz;simp only at th sk A1 A2 A3;subst tz;have DS:=wb.out.ri.vl g tm;have sn:=tf;have K:=ub;obtain⟨R,rK⟩:=zE SI;rw[rK] at sn K J rm;clear rK
     go_upto_region 26 with(fail)
     refine bQ R (by kernel_rfl) ?_;rw[HV.out];refine yT 0 rfl J.out ?_;(try go_simp);refine yT 1 rfl J.out ?_;(try go_simp);refine yT 2 rfl J.out ?_;(try go_simp);refine yT 4 rfl J.out ?_;(try go_simp);refine yT 5 rfl J.out ?_;(try go_simp);refine yT 6 rfl J.out ?_;(try go_simp);refine yT 7 rfl J.out ?_;(try go_simp);refine yO 3 rfl λK' A=> ?_;go_simp;go_at_call 42;refine(AF.out V (K.out V rm) ff th vq).mono ?_;rintro e W5 ⟨l1,a1,c1,rfl,rn,rx⟩;have se:R W5:=sn.out _ ((K.out V rm).trans (rx.mono (K.out V rm).size));refine A _ _ se ?_;clear A;(try go_simp);refine yO 8 rfl λK' A=> ?_;go_simp;go_at_call 44;refine(te.out W5 (K.out W5 se) d sk sy.1).mono ?_;rintro e W6 ⟨l2,a2,c2,rfl,rI,rr⟩;have rv:R W6:=sn.out _ ((K.out W5 se).trans (rr.mono (K.out W5 se).size));have rn:=rn.below rr;refine A _ _ rv ?_;clear A;(try go_simp);refine yO 9 rfl λK' A=> ?_;go_simp;go_at_call 46;refine(eU rn rI rS.out (λx hx=>(rB.out _ _).2 (A1 x ((rB.out _ _).1 hx)))).mono ?_;rintro e _ ⟨rfl,rfl⟩;refine A _ _ rv ?_;clear A;(try go_simp);refine yT 10 rfl J.out ?_;(try go_simp);refine⟨by kernel_rfl, ?_⟩;have tD:=zH (K.out W6 rv);clear i0 i1 i2 i3 i4 i7 iD HV rm se rv rn rI rx rr;obtain⟨i0,i1,i2,i3,i4,i7,iD⟩:=J.out W6 (sn.out _ tD.out)
     go_upto_region 28 with(fail)
     clear i0 i1 i2 i3 i4 i7 iD
     go_loopw [9,12] (λs9 xr wv=>∃q:cd,q<=args.length/\s9= re qv/\xr= Z U (q:cj)/\aq W6.heap.size W6 wv) (λ_ xr _=>args.length-(intOf xr).toNat)
     case atStart=>exact⟨0,cJ _,rfl,rfl,an _ _⟩
     case round=>
      obtain⟨q,hq,rfl,rfl,rL⟩:=hrel;have rl:aq G.heap.size G wr:=tD.out.trans (rL.mono tD.out.size);obtain⟨i0,i1,i2,i3,i4,i7,iD⟩:=J.out wr (sn.out _ rl)
      by_cases sX:q<args.length
      rotate_left
      ·have AT:decide (q<args.length)=qS:=cv sX
       have AW:¬(q:cj)<(args.length:cj):=by omega
       have sB:ca (aq w5.heap.size w5 wr):=sr.out.trans (rl.mono sr.out.size);clear rL rl;go_wp2;go_roundw
       case rel=>exact⟨k+1,sY,by go_num,sB.out⟩
       case measure=>simp[intOf];omega
      obtain⟨y,hy⟩:∃y,args[q]?=qt y:=⟨_,am sX⟩
      have A0:(q:cj)<(args.length:cj):=by omega
      obtain⟨Cp,D0⟩:=A3 y (ce hy);have CA:fI y:=by unfold fI;omega
      have CC:=(A2 q y hy).2;obtain⟨V,hV⟩:=zE wr.drew;obtain⟨SQ,xt⟩:=zE ((λW=>aq wr.heap.size wr W):World->Prop);have A4:ca (∀W,aq wr.heap.size wr W->SQ W):=λW o=>by rw[<-xt];exact o
      have tE:ca (∀W,SQ W->aq wr.heap.size wr W):=λW o=>by rw[<-xt] at o;exact o
      have xF:ca (∀W,SQ W->aq G.heap.size G W):=λW o=>rl.trans ((tE.out W o).mono rl.size);have rm:SQ V:=by rw[<-hV];exact A4.out _ (an _ _).drew
      have ti:ca (∀W W',SQ W->aq W.heap.size W W'->SQ W'):=λW W' h1 h2=>A4.out _ ((tE.out W h1).trans (h2.mono (tE.out W h1).size));obtain⟨ag,xT,tU,ya,A5⟩:=(B7.out wr rl) (λe=>by rw[e] at sX;simp at sX)
      have A6:=A5 q y hy;have h:ca (∀W,SQ W->W.cell? ⟨D,4,qu⟩=qt (Z U ff)/\W.cell? ⟨D,7,qu⟩=qt (ra (qt ⟨ag,xT,qu⟩) args.length gc)/\D<W.heap.size/\W.cell? ⟨ag,xT+q,qu⟩=qt (Z U y)/\ag<W.heap.size):=λW o=>by
       obtain⟨i0,i1,i2,i3,i4,i7,iD⟩:=J.out W (sn.out _ (xF.out W o));rw[tU] at i7;refine⟨i4,i7,iD, ?_,cn ya (tE.out W o).size⟩;rw[(tE.out W o).cell (p:=⟨ag,xT+q,qu⟩) ya];exact A6
      have HV:=zH hV;have tj:=zH rL;have HY:=zH hy;clear hV xt A5 A6 ya rL rl hy
      go_upto_region 30 with(fail)
      clear i0 i1 i2 i3 i4 i7 iD tU;refine bQ SQ (by kernel_rfl) ?_;rw[HV.out];refine yT 0 rfl h.out ?_;(try go_simp);refine yT 1 rfl h.out ?_;(try go_simp);refine yT 2 rfl h.out ?_;(try go_simp);refine yT 3 rfl h.out ?_;(try go_simp);refine yT 4 rfl h.out ?_;(try go_simp);refine yT 5 rfl h.out ?_;(try go_simp);refine yT 6 rfl h.out ?_;(try go_simp);refine yT 7 rfl h.out ?_;(try go_simp);refine yT 8 rfl h.out ?_;(try go_simp);refine yT 10 rfl h.out ?_;(try go_simp);refine yT 11 rfl h.out ?_;(try go_simp);refine yT 12 rfl h.out ?_;(try go_simp);refine yT 13 rfl h.out ?_;(try go_simp);refine yO 9 rfl λK' A=> ?_;go_simp;go_at_call 44;refine(te.out V (xF.out V rm) y Cp CA).mono ?_;rintro e W7 ⟨l1,a1,c1,rfl,rn,rx⟩;have sR:SQ W7:=ti.out V _ rm rx;refine A _ _ sR ?_;clear A;(try go_simp);refine yO 14 rfl λK' A=> ?_;go_simp;go_at_call 44;refine(B6.out W7 (xF.out W7 sR) ff (q:cj) th vq (by omega) (fZ (by omega))).mono ?_;rintro e W8 ⟨l2,a2,c2,rfl,rI,rr⟩;have yb:SQ W8:=ti.out W7 _ sR rr;have rn:=rn.below rr;refine A _ _ yb ?_;clear A;(try go_simp);refine yO 15 rfl λK' A=> ?_;go_simp;go_at_call 46;refine(eU rn rI rS.out (λx hx=>(rB.out _ _).2 (CC x ((rB.out _ _).1 hx)))).mono ?_;rintro e _ ⟨rfl,rfl⟩;refine A _ _ yb ?_;clear A;(try go_simp);refine yT 16 rfl h.out ?_;(try go_simp);refine yT 17 rfl h.out ?_;(try go_simp);refine⟨by kernel_rfl, ?_⟩;have ur:ca (aq W6.heap.size W6 W8):=tj.out.trans ((tE.out W8 yb).mono tj.out.size);go_wp2;go_roundw
      case rel=>exact⟨q+1,by omega,rfl,by go_num,ur.out⟩
      case measure=>simp[intOf];omega
   have D1:((op:cj)==15)=qS:=eM tz
   by_cases yd:op=18
   ·as_aux_lemma=>
     obtain⟨sE,hh⟩:=Cu sT.out HG.out HI.out yd;simp only at sE hh;subst yd;have tn:=zH (te.out G (an _ _) a sE sy.2.1);have CD:=zH (λW o=>AF.out W o (j:cj) (by omega) wx)
     go_wp2_with (first
      |(go_at_call 44;refine tn.out.mono ?_;rintro e W5 ⟨l1,a1,c1,rfl,rn,rx⟩;have sL:=zH rn;have sq:=zH rx;clear rn rx)
      |(go_at_call 42;refine(CD.out W5 sq.out).mono ?_;rintro e W6 ⟨l2,a2,c2,rfl,rI,rr⟩;have CH:=zH rI;have tD:=zH rr;clear rI rr)
      |(go_at_call 46;refine(eU (sL.out.below tD.out) CH.out rS.out (λx hx=>(rB.out _ _).2 (hh x ((rB.out _ _).1 hx)))).mono ?_;rintro e _ ⟨rfl,rfl⟩))
     have sB:ca (aq w5.heap.size w5 W6):=sr.out.trans ((sq.out.trans (tD.out.mono sq.out.size)).mono sr.out.size);go_roundw
     case rel=>exact⟨k+1,sY,by go_num,sB.out⟩
     case measure=>simp[intOf];omega
   have D2:((op:cj)==18)=qS:=eM yd;go_wp2;go_roundw
   case rel=>exact⟨k+1,sY,by go_num,sr.out⟩
   case measure=>simp[intOf];omega
end
end Go.Proofs.YtjomgckjhcfbgaaGreat
