/- Walks. -/
import Derived.Test.YtjomgckjhcfbgaaGreatY13
import Derived.Test.YtjomgckjhcfbgaaGreatY23
set_option maxRecDepth 100000
set_option maxHeartbeats 64000000
set_option linter.all false
namespace Go.Proofs.YtjomgckjhcfbgaaGreat
open Go.RowKit
open Go.Proofs.Tryz renaming prog→ac
open _root_.List renaming getElem?_eq_getElem→am,mem_of_getElem?→cf
open Go.RowKit.Below renaming refl→aq
open Go.RowKit renaming Below→bh,Hid→cm
open _root_ renaming Int→bp,Nat→bx,decide_eq_false→cL,decide_eq_true→ef,congrArg→eM,bne_iff_ne→qq
open _root_.Nat renaming zero_le→cN
open Go.Value renaming int→eE,slice→tP,pointer→tR,bool→tU,agg→tW,int→Z
open Go renaming Calls→gd
open Go.IntKind renaming wrap_i64→jx,i64→me,i64→U
open _root_.Option renaming some→tB,none→tD
open _root_.Bool renaming true→tE,false→tG
open Go.Obj renaming cells→ua
open Go.Ending renaming returned→ub
open Tryz
section
open Go.RowKit Go.Maps
theorem pointsSets_calls (m:Mo)(w:World)(hm:m.inn w)(AM:∀g∈m.fs,∀i∈g.c.ins,fO i.d/\fO i.a/\fO i.b/\fO i.f):
  zP 9 #[tW m.cells] w (tU tE):=by
 obtain⟨N,hN⟩:=zE w.heap.size;obtain⟨W1,we⟩:=zE (w.alloc (ua m.cells 25));have AN:=iV we hN;have D3:W1.heap.size=N+1:=by rw[<-we];simp[hN]
 have q1:W1.heap[N]?=tB (ua m.cells 25 (0,0)):=by rw[<-we,<-hN];exact alloc_at _ _
 have HK:cm (∀W,bh W1.heap.size W1 W->W.cell? ⟨N,0,tD⟩=tB (tP m.sA m.ss.length m.sC)/\W.cell? ⟨N,1,tD⟩=tB (tP m.fA m.fs.length m.fC)/\m.inn W/\bh N w W/\N<W.heap.size):=λW h=>by
  have h1:=(h.block N (by omega)).trans q1;have h3:=AN.trans (h.mono (by omega));exact⟨zR h1 0 _,zR h1 1 _,hm.below (by rw[hN];exact h3),h3,ae h1⟩
 obtain⟨c0,c1,AS,_⟩:=HK.out W1 (aq _ _);have ye:=zH (yH W1 m AS);have yi:=zH λW=>vO W;have Dd:=zH AM;have yk:=we;simp only[Mo.cells] at yk ye;have AT:=zH yk;unfold zP;rw[hN];simp only[Mo.cells];clear hm AS q1 we yk AN AM;go_enter func9,ntmps9
 go_upto_region 1 with(fail)
 rw[AT.out];clear hN
 go_wp2_with fail
 go_at_call 27;refine ye.out.mono ?_;rintro e w2 ⟨b,rfl,hb,xr⟩;obtain⟨d0,d1,xt,AW,_⟩:=HK.out w2 xr;have vm:=zH xr;clear AT ye;cases b with
 |false=>
  clear c0 c1 hb xr xt AW
  go_wp2_with (go_at_call 29;refine(yi.out _).mono ?_;rintro e w3 ⟨rfl,uc⟩;have HR:=zH (HK.out w3 (vm.out.trans (uc.mono vm.out.size))).2.2.2.1;clear uc)
  go_ret;exact⟨rfl,HR.out⟩
 |true=>
 have vf:=hb rfl;have A0:=mJ xt vf.2.2;have yp:cm (∀W,bh w2.heap.size w2 W->dR W m):=λW h=>dR.belowP A0 h;have A2:=zH xt;have Dg:=zH vf;clear c0 c1 hb xr xt AW A0 vf
 by_cases hF:bf m=0
 rotate_left
 ·have A4:=zH (yF m w2 (yp.out w2 (aq _ _)) hF)
  have wg:cm (∀W,bh w2.heap.size w2 W->zP 13 #[tW #[tP m.sA m.ss.length m.sC,tP m.fA m.fs.length m.fC]] W (Z U (bf m))):=λW h=>l8 m W (yp.out W h);obtain⟨F,A5⟩:=zE (bf m);rw[A5] at A4 wg hF;have e0:(F != 0)=tE:=by rw[qq];exact hF
  clear A5
  go_upto_region 4 with(go_at_call 30;refine A4.out.mono ?_;rintro e w3 ⟨rfl,uc⟩;have vp:=zH uc;have ur:=zH (vm.out.trans (uc.mono vm.out.size));clear uc)
  clear d0 d1;obtain⟨d0,d1,_⟩:=HK.out w3 ur.out;have xF:=zH (wg.out w3 vp.out)
  go_upto_region 5 with(go_at_call 13;refine xF.out.mono ?_;rintro e w4 ⟨rfl,vh⟩;have vi:=zH (ur.out.trans (vh.mono ur.out.size));clear vh)
  clear d0 d1
  go_wp2_with (go_at_call 29;refine(yi.out _).mono ?_;rintro e w5 ⟨rfl,vq⟩;have HR:=zH (HK.out w5 (vi.out.trans (vq.mono vi.out.size))).2.2.2.1;clear vq)
  go_ret;exact⟨rfl,HR.out⟩
 have yq:=zH hF;have vf:=Dg.out;have vr:mF w2 m:=EY A2.out vf Dd.out (λg hg i hi Do y hy=>by
  obtain⟨j,hj⟩:=List.getElem?_of_mem hg;obtain⟨k,hk⟩:=List.getElem?_of_mem hi;have h1:=Gb hF hj hk Do y hy;have h2:=(mJ A2.out vf.2.2).vl g hg;unfold fO;omega)
 have yr:cm (∀W,bh w2.heap.size w2 W->mF W m):=λW h=>⟨dR.belowP vr.ri h,vr.wf,vr.ni,vr.nf⟩
 have A6:=zH (lw m w2 vr hF);have wg:cm (∀W,bh w2.heap.size w2 W->zP 13 #[tW #[tP m.sA m.ss.length m.sC,tP m.fA m.fs.length m.fC]] W (Z U 0)):=λW h=>by
  rw[<-hF];exact l8 m W (yp.out W h)
 have e0:((0:bp) != 0)=tG:=rfl;clear hF vr vf
 go_upto_region 4 with(go_at_call 30;refine A6.out.mono ?_;rintro e w3 ⟨Q,p,tg,s,rfl,hst,Bk,hP,uc⟩;have Bm:=zH hst;have By:=zH Bk;have HP:=zH hP;have vp:=zH uc;have ur:=zH (vm.out.trans (uc.mono vm.out.size));clear hst Bk hP uc)
 clear d0 d1 A6;obtain⟨d0,d1,_⟩:=HK.out w3 ur.out;have xF:=zH (wg.out w3 vp.out)
 go_upto_region 5 with(go_at_call 13;refine xF.out.mono ?_;rintro e w4 ⟨rfl,vh⟩;have BE:=zH vh;have BT:=zH (vp.out.trans (vh.mono vp.out.size));have vi:=zH (ur.out.trans (vh.mono ur.out.size));clear vh)
 clear d0 d1 xF wg;obtain⟨d0,d1,_⟩:=HK.out w4 vi.out
 go_upto_region 7 with(fail)
 have yv:=zH (AB m w4 (yr.out w4 BT.out) yq.out);simp only[Mo.cells] at yv
 go_upto_region 8 with(go_at_call 37;refine yv.out.mono ?_;rintro e w5 ⟨n,S,B,sv,vv,rv,gv,vt,gt,rl,x,D4,rfl,Ds,hM,BY,hx,vq⟩;obtain⟨b0,y0,DA⟩:=ai hM.sites;obtain⟨b1,y1,e1⟩:=ai hM.vars.own;obtain⟨b2,y2,e2⟩:=ai hM.res.own;obtain⟨b3,y3,e3⟩:=ai hM.flds.own;subst DA e1 e2 e3;have HM:=zH hM;have wi:=zH BY;have HX:=zH hx;have yy:=zH ((BE.out).trans (vq.mono BE.out.size));have yW:=zH (vi.out.trans (vq.mono vi.out.size));clear Ds hM BY hx vq)
 clear yv;have zc:n<=400:=by
  have h1:=wi.out.ns;have h2:=dN (l:=m.xi);have h3:=(yr.out w2 (aq _ _)).ni;omega
 obtain⟨S6,zd⟩:=zE w5.heap.size;obtain⟨q,xT⟩:=zE (w5.alloc (ua #[tP b0 (aj m.xi).length y0,tP b1 vt.length y1,tP b2 rl.length y2,tP b3 gt.length y3] 99));have ya:=iq xT;have zj:q.heap[S6]?=tB (ua #[tP b0 (aj m.xi).length y0,tP b1 vt.length y1,tP b2 rl.length y2,tP b3 gt.length y3] 99 (0,0)):=by rw[<-xT,<-zd];exact alloc_at _ _
 obtain⟨Ek,zp⟩:=HM.out.copy12 ya zj (by omega);have zr:bh w3.heap.size w3 q:=yy.out.trans (ya.mono yy.out.size);obtain⟨T,hT⟩:=zE (Q+3);rw[hT] at HP⊢;have zv:cm (nu q m T S6 n):=⟨⟨_,_,_,_,_,_,_,HP.out.grow zr,By.out⟩,⟨_,_,_,_,_,_,_,_,_,_,zp,wi.out,HX.out⟩,yq.out,zc,wi.out.ns⟩
 have B4:cm (bh W1.heap.size W1 q):=yW.out.trans (ya.mono yW.out.size);have B5:=zH (HP.out.grow zr);have B6:=zp.sites;have An:cm (∀W,bh q.heap.size q W->W.ownsRow B 67 2 (tP b0 (aj m.xi).length y0) (aj m.xi).length ((aj m.xi).flatMap pR)):=λW h=>ownsRow_below B6 h;have B8:=zH wi.out.ns;have DB:=zH (yr.out w2 (aq _ _)).nf;have As:=zH zj;have DE:=zH zc;have At:cm (p.St=aj m.xi):=Bm.out;clear HP By HM wi HX yW yy vi ur BT vp Bm ya zj zp zr B6 zc hT
 try rw[zd]
 rw[xT];clear zd xT;have DG:(aj m.xi).length<=400:=by rw[B8.out];exact DE.out
 obtain⟨SR,Ax⟩:=zE ((λW=>bh q.heap.size q W):World->Prop);have wj:cm (∀W,bh q.heap.size q W->SR W):=λW h=>by rw[<-Ax];exact h
 have ud:cm (∀W,SR W->bh q.heap.size q W):=λW h=>by rw[<-Ax] at h;exact h
 have vj:cm (∀W,SR W->W.cell? ⟨S6,0,tD⟩=tB (tP b0 (aj m.xi).length y0)/\S6<W.heap.size):=λW h=>by
  have r:=((ud.out W h).block S6 (ae As.out)).trans As.out;exact⟨zR r 0 _,ae r⟩
 have AD:cm (∀W,SR W->gd ac 31 #[tR (tB ⟨T,0,tD⟩)] W λe w'=>∃B' ao cap,e= ub (tP ao (aj m.xi).length cap)/\w'.ownsRow B' 67 2 (tP ao (aj m.xi).length cap) (aj m.xi).length ((aj m.xi).flatMap pR)/\bh W.heap.size W w'):=λW h=>by
  refine(nK W (B5.out.grow (ud.out W h)) (by rw[At.out];omega)).mono ?_;rintro e w' ⟨v',rfl,ho,hb⟩;rw[At.out] at ho;obtain⟨ao,cap,rfl⟩:=ai ho;exact⟨_,ao,cap,rfl,ho,hb⟩
 obtain⟨V,hV⟩:=zE q.drew;have yb:SR V:=by rw[<-hV];exact wj.out _ (aq _ _).drew
 have HV:=zH hV;obtain⟨L,hL⟩:=zE (aj m.xi);rw[hL] at AD vj An DG B8;have EV:=zH hL;clear Ax hV d0 d1 hL;refine bL SR (by kernel_rfl) ?_;(try rw[HV.out]);refine yT 0 rfl vj.out ?_;(try go_simp);refine yT 2 rfl vj.out ?_;(try go_simp);refine yT 3 rfl vj.out ?_;(try go_simp);refine yO 1 rfl λK' hK=> ?_;go_simp;go_at_call 31;refine(AD.out V yb).mono ?_;rintro e W7 ⟨B7,a7,c7,rfl,B9,Cd⟩;have wk:SR W7:=wj.out _ ((ud.out V yb).trans (Cd.mono (ud.out V yb).size));have Cl:=zH (ru W7 _ _ _ _ _ _ L (by omega) B9 (An.out W7 (ud.out W7 wk)));clear B9;refine hK _ _ wk ?_;clear hK;(try go_simp);refine yO 4 rfl λK' hK=> ?_;go_simp;go_at_call 40;refine Cl.out.mono ?_;rintro e W8 ⟨rfl,Cp⟩;have AE:SR W8:=wj.out _ ((ud.out W7 wk).trans (Cp.mono (ud.out W7 wk).size));refine hK _ _ AE ?_;clear hK;(try go_simp);refine yT 5 rfl vj.out ?_;(try go_simp);refine⟨by kernel_rfl, ?_⟩;have DH:=zH (ud.out W8 AE);have AF:cm (∀W,bh q.heap.size q W->W.cell? ⟨N,0,tD⟩=tB (tP m.sA m.ss.length m.sC)/\W.cell? ⟨N,1,tD⟩=tB (tP m.fA m.fs.length m.fC)/\m.inn W/\bh N w W/\N<W.heap.size):=λW h=>HK.out W (B4.out.trans (h.mono B4.out.size));have DM:cm (∀W,bh q.heap.size q W->W.cell? ⟨S6,0,tD⟩=tB (tP b0 L.length y0)/\S6<W.heap.size):=λW h=>vj.out W (wj.out W h);clear wk AE Cd Cp Cl AD vj An wj ud yb HV B5 At As
 go_upto_region 11 with(fail)
 go_loopw [7] (λu wr=>∃j:bx,j<=m.fs.length+2/\u= Z U ((j:bp)-1)/\bh q.heap.size q wr) (λu _=>m.fs.length+2-(intOf u+1).toNat)
 case atStart=>exact⟨0,cN _,rfl,DH.out⟩
 case round=>
  obtain⟨j,hj,rfl,yd⟩:=hrel;obtain⟨d0,d1,CA,_,CC⟩:=AF.out wr yd;have uv:=zH yd
  by_cases DO:j<m.fs.length+2
  ·obtain⟨f,hf⟩:=zE ((j:bp)-1)
   have E0:=DB.out;have CD:f<=(m.fs.length:bp):=by omega
   have CH:fO f:=by unfold fO;omega
   have CM:f+1=((j+1:bx):bp)-1:=by omega
   have CN:me.wrap (f+1)=f+1:=by rw[jx];omega
   rw[hf];have HF:=zH hf;have wl:=zH CM;obtain⟨l,hl,hc⟩:=zv.out.result f CH;have HC:=zH hc;clear yd CA hf CM hc
   go_upto_region 16 with(first
    |(go_at_call 42;refine(HC.out _ uv.out).1.mono ?_;rintro e wa ⟨Ba,aa,ca,rfl,ux,va⟩;have vu:=zH ux;have D:=zH (uv.out.trans (va.mono uv.out.size));clear ux va)
    |(go_at_call 43;refine(HC.out _ D.out).2.mono ?_;rintro e wb ⟨Bb,ab,cb,rfl,vc,G⟩;have vx:=zH (Fj wb hl (ownsRow_below vu.out G) vc);have ue:=zH (D.out.trans (G.mono D.out.size));clear vc G)
    |(go_at_call 41;refine vx.out.mono ?_;rintro e wn ⟨rfl,vd⟩;have ws:=zH (ue.out.trans (vd.mono ue.out.size));clear vd))
   clear HC vx vu D ue hl d0 d1 CC
   go_loopw [8] (λu wq=>∃i:bx,i<=402/\u= Z U ((i:bp)-1)/\bh q.heap.size q wq) (λu _=>402-(intOf u+1).toNat)
   case atStart=>exact⟨0,cN _,rfl,ws.out⟩
   case round=>
    obtain⟨i,hi,rfl,A⟩:=hrel;have J:=zH A;obtain⟨d0,d1,wx,_,E3⟩:=AF.out wr A
    by_cases vy:0<=f/\f<(m.fs.length:bp)
    rotate_left
    ·clear A wx d0
     by_cases h0:f<0
     ·have t1:decide (0<=f)=tG:=cL (by omega)
      clear vy;go_wp2;go_roundw
      case rel=>exact⟨j+1,by omega,by first|exact eM (eE .i64) wl.out|(rw[wl.out])|go_num,J.out⟩
      case measure=>have:=HF.out;simp[intOf];omega
     ·have t1:decide (0<=f)=tE:=ef (by omega)
      have t2:decide (f<(m.fs.length:bp))=tG:=cL (by omega);clear vy;go_wp2;go_roundw
      case rel=>exact⟨j+1,by omega,by first|exact eM (eE .i64) wl.out|(rw[wl.out])|go_num,J.out⟩
      case measure=>have:=HF.out;simp[intOf];omega
    obtain⟨fn,xf⟩:∃fn:bx,f=(fn:bp):=⟨f.toNat,by omega⟩
    have DP:fn<m.fs.length:=by omega
    obtain⟨g,hg⟩:∃g,m.fs[fn]?=tB g:=⟨_,am DP⟩
    have AG:m.fs≠[]:=λe=>by rw[e] at hg;simp at hg
    obtain⟨fb,fo,AH,E4,AI⟩:=wx.frow AG;have DQ:=AI fn g hg 2 _ rfl;rw[(wx.fin g (cf hg)).nvars] at DQ;have E6:=(jm ((dJ yq.out).2.2.2.2.1 g (cf hg))).1;rw[AH] at d1;have t1:decide (0<=f)=tE:=ef vy.1;have t2:decide (f<(m.fs.length:bp))=tE:=ef vy.2;have E7:(fn:bp)<(m.fs.length:bp):=by omega
    by_cases xj:i<g.vs.length+2
    rotate_left
    ·have t3:decide ((i:bp)-1<=(g.vs.length:bp))=tG:=cL (by omega)
     have Fc:=zH xf;have CT:cm ((fn:bp)+1=((j+1:bx):bp)-1):=by rw[<-xf];exact wl.out
     have Fi:me.wrap ((fn:bp)+1)=(fn:bp)+1:=by rw[jx];omega
     have DS:cm ((j:bp)-1=(fn:bp)):=by rw[<-xf];exact HF.out
     subst xf;clear A wx d0 hg AG AI AH vy CD CN;go_wp2;go_roundw
     case rel=>exact⟨j+1,by omega,by first|exact eM (eE .i64) CT.out|(rw[CT.out])|go_num,J.out⟩
     case measure=>have:=DS.out;simp[intOf];omega
    have t3:decide ((i:bp)-1<=(g.vs.length:bp))=tE:=ef (by omega);obtain⟨v,hv⟩:=zE ((i:bp)-1);have AK:fO v:=by unfold fO;omega
    have xl:v+1=((i+1:bx):bp)-1:=by omega
    have D0:me.wrap (v+1)=v+1:=by rw[jx];omega
    rw[hv] at t3⊢;have HV:=zH hv;have xo:=zH xl;have xp:=zH xj;obtain⟨l,hl,_,_,hc⟩:=zv.out.var f v CH AK;have HC:=zH hc;subst xf;clear A wx d0 hg AG AI AH vy CD CN hv xl hc hi xj
    go_upto_region 17 with(first
    |(go_at_call 44;refine(HC.out _ J.out).1.mono ?_;rintro e wa ⟨Ba,aa,ca,rfl,ux,va⟩;have vu:=zH ux;have D:=zH (J.out.trans (va.mono J.out.size));clear ux va)
    |(go_at_call 38;refine(HC.out _ D.out).2.mono ?_;rintro e wb ⟨Bb,ab,cb,rfl,vc,G⟩;have vx:=zH (Fj wb hl (ownsRow_below vu.out G) vc);have ue:=zH (D.out.trans (G.mono D.out.size));clear vc G)
    |(go_at_call 41;refine vx.out.mono ?_;rintro e wn ⟨rfl,vd⟩;have ws:=zH (ue.out.trans (vd.mono ue.out.size));clear vd))
    go_wp2;go_roundw
    case rel=>exact⟨i+1,by have:=xp.out;omega,by first|exact eM (eE .i64) xo.out|(rw[xo.out])|go_num,ws.out⟩
    case measure=>have:=HV.out;have:=xp.out;simp[intOf];omega
  ·have t0:decide ((j:bp)-1<=(m.fs.length:bp))=tG:=cL (by omega)
   clear yd CA d0
   go_upto_region 21 with(fail)
   clear t0 d1 CC DO
   go_loopw [9] (λu wq=>∃i:bx,i<=L.length+2/\u= Z U ((i:bp)-1)/\bh q.heap.size q wq) (λu _=>L.length+2-(intOf u+1).toNat)
   case atStart=>exact⟨0,cN _,rfl,uv.out⟩
   case round=>
    obtain⟨i,hi,rfl,A⟩:=hrel;have uv:=zH A;obtain⟨d0,d1⟩:=DM.out wr A
    by_cases xj:i<L.length+2
    rotate_left
    ·have t0:decide ((i:bp)-1<=(L.length:bp))=tG:=cL (by omega)
     clear A
     go_wp2_with (go_at_call 29;refine(yi.out _).mono ?_;rintro e w9 ⟨rfl,C3⟩;have HR:=zH (AF.out w9 (uv.out.trans (C3.mono uv.out.size))).2.2.2.1;clear C3)
     go_ret;exact⟨rfl,HR.out⟩
    have xp:=zH xj;obtain⟨x,hx⟩:=zE ((i:bp)-1);have D1:fO x:=by unfold fO;omega
    have C4:x+1=((i+1:bx):bp)-1:=by omega
    have Fk:me.wrap (x+1)=x+1:=by rw[jx];omega
    have t0:decide (x<=(L.length:bp))=tE:=ef (by omega);rw[hx];have D2:=zH hx;have C5:=zH C4;clear A hx C4 xj hi
    go_upto_region 24 with(fail)
    clear d0 d1 t0
    go_loopw [10] (λu wq=>∃k:bx,k<=7/\u= Z U ((k:bp)-1)/\bh q.heap.size q wq) (λu _=>7-(intOf u+1).toNat)
    case atStart=>exact⟨0,cN _,rfl,uv.out⟩
    case round=>
     obtain⟨k,hk,rfl,A⟩:=hrel;have J:=zH A
     by_cases C6:k<7
     rotate_left
     ·have t0:decide ((k:bp)-1<6)=tG:=cL (by omega)
      clear A;go_wp2;go_roundw
      case rel=>exact⟨i+1,by have:=xp.out;omega,by first|exact eM (eE .i64) C5.out|(rw[C5.out])|go_num,J.out⟩
      case measure=>have:=D2.out;have:=xp.out;simp[intOf];omega
     have C7:=zH C6;obtain⟨v,hv⟩:=zE ((k:bp)-1);have AK:fO v:=by unfold fO;omega
     have xl:v+1=((k+1:bx):bp)-1:=by omega
     have D0:me.wrap (v+1)=v+1:=by rw[jx];omega
     have t0:decide (v<6)=tE:=ef (by omega);rw[hv];have HV:=zH hv;have xo:=zH xl;obtain⟨l,hl,hc⟩:=zv.out.field x v D1 AK;have HC:=zH hc;clear A hv xl hc C6 hk
     go_upto_region 25 with(first
    |(go_at_call 36;refine(HC.out _ J.out).1.mono ?_;rintro e wa ⟨Ba,aa,ca,rfl,ux,va⟩;have vu:=zH ux;have D:=zH (J.out.trans (va.mono J.out.size));clear ux va)
    |(go_at_call 45;refine(HC.out _ D.out).2.mono ?_;rintro e wb ⟨Bb,ab,cb,rfl,vc,G⟩;have vx:=zH (Fj wb hl (ownsRow_below vu.out G) vc);have ue:=zH (D.out.trans (G.mono D.out.size));clear vc G)
    |(go_at_call 41;refine vx.out.mono ?_;rintro e wn ⟨rfl,vd⟩;have ws:=zH (ue.out.trans (vd.mono ue.out.size));clear vd))
     go_wp2;go_roundw
     case rel=>exact⟨k+1,by have:=C7.out;omega,by first|exact eM (eE .i64) xo.out|(rw[xo.out])|go_num,ws.out⟩
     case measure=>have:=HV.out;have:=C7.out;simp[intOf];omega
end
end Go.Proofs.YtjomgckjhcfbgaaGreat
