/- Walks. -/
import Derived.Test.YtjomgckjhcfbgaaGreatY11
set_option maxRecDepth 100000
set_option maxHeartbeats 64000000
set_option linter.all false
namespace Go.Proofs.YtjomgckjhcfbgaaGreat
open Go.RowKit
open Go.Proofs.Tryz renaming prog→ac,underlying42→cJ,underlying38→cQ,ntmps49→tp
open _root_.List renaming getElem?_eq_getElem→am,drop→iv,getElem?_eq_none→my
open Go.RowKit.Below renaming refl→aq
open Go.RowKit renaming Below→bh,Hid→cm
open _root_ renaming Int→bp,Nat→bx,if_neg→cE,decide_eq_false→cL,if_pos→cR,Array→da,decide_eq_true→ef,Bool→nj,and_true→pc,if_true→rh
open Go renaming Value→cd,wpList_load_row→ci,maxLen→dT,wpQuiet_nil→eh,beq_toListBytes→fY
open _root_.Int renaming toNat_natCast→cP
open _root_.Option.some renaming injEq→dt
open Go.Addr.mk renaming injEq→eW
open Go.Op renaming equalIn→gE
open _root_.Bool renaming or_false→lO,false_eq_true→pj,not_false→qT,not_true→sy,true→tE,false→tG
open _root_.Option renaming some→tB,none→tD
open Go.Value renaming string→tM,slice→tP,bool→tU,agg→tW,int→Z
open Go.Obj renaming cells→ua
open Go.IntKind renaming i64→U
open Tryz
theorem vG (m:Mo)(g:Fn)(i:Ins)(w:World)(h:oJ w m g)(hi:i.args_in w)(zc:i.args.length<=40)(AI:∀v,isVar g.vs.length v=tE->m.known (az g.vs v)=tE)(q:i.op=1\/i.op=2\/i.op=3\/i.op=5\/i.op=6):
  zP 49 #[tW m.cells,tW g.cells,tW i.cells] w (Z U (aD m g i)):=by
 obtain⟨ao,N,W1,hN,zd,xF,HN,vh,AK,AM,vd,xT,HJ,Bk,ya,zj,zp,zr⟩:=fU h hi zc;obtain⟨wD,bD,bR,o1,o2,vu,wg,xl,wi,yb,vx⟩:=gq (g:=g) (i:=i) (by omega) (by omega);rw[AK.out];simp only[Mo.cells,gc,Ins.cells] at xF⊢;have zv:=zH xF;obtain⟨R,hR⟩:=zE (aD m g i);rw[hR];have HR:=zH hR;have An:=zH h;have AN:=zH q;have As:=vd.out W1 (aq _ _);have At:=zH As.ir;clear h hi zc AI xF hR q;have Ax:W1.heap.size=N+3:=zd;go_enter func49,tp
 go_upto_region 1 with(fail)
 rw[zv.out];clear zv As hN
 go_upto_region 2 with(first
  |(refine ci rfl 42 _ rfl (N+2) rfl 42 _ (0,0) _ At.out cJ rfl (by kernel_rfl) ?_)
  |(go_at_call 86;refine(zj.out _).mono ?_;rintro e w2 ⟨rfl,vy⟩;have AD:=zH vy;clear vy))
 have vy:bh (N+3) W1 w2:=by have:=AD.out;rwa [Ax] at this
 have i0:=(vd.out w2 vy).i0;have xo:=zH vy;clear vy Ax zd AD;rw[yb.out]
 go_upto_region 4 with(fail)
 clear i0 o1 o2;obtain⟨S,hS⟩:∃S:World->Prop,S=bh (N+3) W1:=⟨_,rfl⟩
 have D:cm (∀w',S w'↔bh (N+3) W1 w'):=λw'=>by rw[hS]
 have xp:cm (∀w',S w'->∀j u,(#[tM g.c.nm,Z U g.c.par,tP ao g.vs.length g.c.varsC,tU g.c.rp,tM g.c.rto,Z U g.c.rcl,tP g.c.fromA g.c.nfrom g.c.fromC,tP g.c.insA g.c.ins.length g.c.insC]:da cd).toList[j]?=tB u->w'.cell? ((⟨N+1,0,tD⟩:Addr).add j)=tB u):=λw' h=>dI (vd.out w' ((D.out w').1 h)).gr;have yd:cm (∀w',S w'->∀j u,(#[Z U i.op,Z U i.d,Z U i.a,Z U i.b,Z U i.f,Z U i.n,tM i.sign,i.argsV,i.modeV,Z U i.tI,Z U i.els,Z U i.ln,Z U i.cl]:da cd).toList[j]?=tB u->w'.cell? ((⟨N+1+1,0,tD⟩:Addr).add j)=tB u):=λw' h=>dI (vd.out w' ((D.out w').1 h)).ir;have ur:cm (∀w',S w'->True/\True):=λ_ _=>⟨trivial,trivial⟩
 clear hS
 go_cut [7,37] from 23 to 37 (λd b wc=>d= Z U (if wD=tE then(i.d,tE) else(0,tG)).1/\b= tU (!(bR&&(!wD||bD)))/\bh (N+3) W1 wc)
 case first=>
  have AS:S w2.drew:=(D.out _).2 xo.out.drew;cases wD with
  |true=>
   simp only[rh];refine ak 5 S (by kernel_rfl) ?_;refine zT 0 rfl ur.out ?_
   try go_simp
   refine zT 1 rfl ur.out ?_
   try go_simp
   refine zL 2 rfl 38 ⟨N+1,0,tD⟩ xp.out cQ ?_
   try go_simp
   refine zT 3 rfl ur.out ?_
   try go_simp
   refine zO 4 rfl λK' G=> ?_;go_simp;have xr:∀c,S (w2.alloc c).drew:=λc=>(D.out _).2 ((xo.out.alloc (by have:=xo.out.size;rw[vh.out] at this;exact this) _).drew);have AE:aA (w2.alloc (ua #[Z U i.d] 3)).drew (tB ⟨w2.heap.size,0,tD⟩) [i.d]:=aA.one w2 i.d rfl;refine G _ _ (xr _) ?_;clear G
   try go_simp
   refine zK rfl λK' G=> ?_;go_simp;go_at_call 87;refine(ya.out _ (tB ⟨w2.heap.size,0,tD⟩) 1 [i.d] (by simp) AE).mono ?_;rintro e w5 ⟨rfl,AF⟩;have AT:S w5:=(D.out _).2 (((D.out _).1 (xr _)).trans (AF.mono (by have:=((D.out _).1 (xr (ua #[Z U i.d] 3))).size;rw[vh.out] at this;exact this)));rw[wg.out];refine G _ _ ?_;clear G AF xr AS AE
   try go_simp
   cases bD with
   |false=>
    refine aZ 6 rfl (by kernel_rfl) (by kernel_rfl) (·=w5) rfl ?_;dsimp only[iv]
    repeat (go_big_quiet_step (fail))
    refine eh ?_;rintro _ rfl;go_wp2
    go_meet
    case rel=>exact⟨rfl,by simp,(D.out _).1 AT⟩
   |true=>
    refine eX (S:=S) (k:=12) _ _ _ _ ?_;refine zT 6 rfl ur.out ?_
    try go_simp
    refine zT 7 rfl ur.out ?_
    try go_simp
    refine zT 8 rfl ur.out ?_
    try go_simp
    refine zL 9 rfl 38 ⟨N+1,0,tD⟩ xp.out cQ ?_
    try go_simp
    refine zL 10 rfl 42 ⟨N+1+1,0,tD⟩ yd.out cJ ?_
    try go_simp
    refine zO 11 rfl λK' G=> ?_;go_simp;go_at_call 88;refine(zp.out _ ((D.out _).1 (by assumption))).mono ?_;rintro e w7 ⟨ro,rc,rfl,wj,wk⟩;have vi:S w7:=(D.out _).2 (((D.out _).1 (by assumption)).trans (wk.mono (by have:=((D.out _).1 (by assumption)).size;rw[vh.out] at this;exact this)));have wl:=wj.at_;refine G _ _ vi ?_;clear G wj wk
    try go_simp
    refine zK rfl λK' G=> ?_;go_simp;go_at_call 87;refine(ya.out _ _ _ _ zr.out wl).mono ?_;rintro e w8 ⟨rfl,ws⟩;have ye:=((D.out _).1 vi).trans (ws.mono (by have:=((D.out _).1 vi).size;rw[vh.out] at this;exact this));rw[xl.out];refine G _ _ ?_;clear G wl ws
    try go_simp
    refine aZ 13 rfl (by kernel_rfl) (by kernel_rfl) (·=w8) rfl ?_;dsimp only[iv]
    repeat (go_big_quiet_step (fail))
    refine eh ?_;rintro _ rfl;go_wp2
    go_meet
    case rel=>exact⟨rfl,by simp,ye⟩
  |false=>
    simp only[pj,if_false];refine ak 12 S (by kernel_rfl) ?_;refine zT 0 rfl ur.out ?_
    try go_simp
    refine zT 1 rfl ur.out ?_
    try go_simp
    refine zN 2 rfl ?_
    try go_simp
    refine zN 3 rfl ?_
    try go_simp
    refine zN 4 rfl ?_
    try go_simp
    refine zN 5 rfl ?_
    try go_simp
    refine zN 6 rfl ?_
    try go_simp
    refine zT 7 rfl ur.out ?_
    try go_simp
    refine zT 8 rfl ur.out ?_
    try go_simp
    refine zL 9 rfl 38 ⟨N+1,0,tD⟩ xp.out cQ ?_
    try go_simp
    refine zL 10 rfl 42 ⟨N+1+1,0,tD⟩ yd.out cJ ?_
    try go_simp
    refine zO 11 rfl λK' G=> ?_;go_simp;go_at_call 88;refine(zp.out _ ((D.out _).1 (by assumption))).mono ?_;rintro e w7 ⟨ro,rc,rfl,wj,wk⟩;have vi:S w7:=(D.out _).2 (((D.out _).1 (by assumption)).trans (wk.mono (by have:=((D.out _).1 (by assumption)).size;rw[vh.out] at this;exact this)));have wl:=wj.at_;refine G _ _ vi ?_;clear G wj wk
    try go_simp
    refine zK rfl λK' G=> ?_;go_simp;go_at_call 87;refine(ya.out _ _ _ _ zr.out wl).mono ?_;rintro e w8 ⟨rfl,ws⟩;have ye:=((D.out _).1 vi).trans (ws.mono (by have:=((D.out _).1 vi).size;rw[vh.out] at this;exact this));rw[xl.out];refine G _ _ ?_;clear G wl ws
    try go_simp
    refine aZ 13 rfl (by kernel_rfl) (by kernel_rfl) (·=w8) rfl ?_;dsimp only[iv]
    repeat (go_big_quiet_step (fail))
    refine eh ?_;rintro _ rfl;go_wp2
    go_meet
    case rel=>exact⟨rfl,by simp,ye⟩
 case rest=>
  obtain⟨rfl,rfl,ue⟩:=hcut;have we:=zH (xT.out wc ue);have A:=vd.out wc ue;have HV:cm (∀v,isVar g.vs.length v=tE->∃(k b wx:bx) (x:Vr),v=(k:bp)/\k<g.vs.length/\ao=tB ⟨b,wx,tD⟩/\az g.vs v=(x.ptr,x.tgt)/\∀W,bh (N+3) W1 W->W.cell? ⟨b,wx+k*3,tD⟩=tB (tU x.ptr)/\W.cell? ⟨b,wx+k*3+1,tD⟩=tB (tM x.tgt)):=λv hv=>by
   obtain⟨k,b,wx,x,q1,q2,q3,q4,q5,q6,q7⟩:=dU An.out.vars hv;refine⟨k,b,wx,x,q1,q2,by rw[<-AM.out];exact q3,q5,λW hW=> ?_⟩;have AG:=xT.out W hW;rw[HN.out] at q4;exact⟨by rw[AG.cell (p:=⟨b,_,tD⟩) (show b<N by omega)];exact q6,by rw[AG.cell (p:=⟨b,_,tD⟩) (show b<N by omega)];exact q7⟩
  have AW:=An.out.vl;unfold dT at AW;have HO:cm (∀W b f,zP 51 #[tU b,Z U f] W (Z U (bM (!b) f))):=λW b f=>bi b f W;have xf:cm (∀W W':World,bh (N+3) W1 W->bh W.heap.size W W'->bh N w W'):=λW W' h1 h2=>xT.out W' (h1.trans (h2.mono (by have:=h1.size;rw[vh.out] at this;exact this)));obtain⟨B,J⟩:=zE (bR&&(!wD||bD));rw[J];cases B with
  |false=>
   have uv:cm (R=15):=by unfold cm;rw[<-HR.out];unfold aD;rw[cE vu.out,cR (by rw[vx.out];exact J)]
   clear A HV J;obtain⟨wv,AH⟩:=zE ((if wD=tE then(i.d,tE) else(0,tG)):bp×nj);rw[AH,qT];clear AH yb;go_wp2;go_ret;rw[uv.out,HN.out];exact⟨rfl,we.out⟩
  |true=>
  rw[sy];clear D xp yd ur xo yb zj At;rcases AN.out with q|q|q|q|q
  ·
   have ew:wD=tE:=by rw[<-wi.out,q];decide
   subst ew;have ux:bR=tE:=(by simpa using J:_/\_).1;have va:bD=tE:=(by simpa using J:_/\_).2;have vj:isVar g.vs.length i.d=tE:=by have:=wg.out;rw[va] at this;simpa[aJ] using this
   have hE:=eG HR vu vx (by rw[ux,va];simp);have i0:=A.i0;rw[q] at i0;have g7:=A.g7;have g2:=A.g2;obtain⟨kd,yi,yk,xd,vm,yp,vp,vc,uc⟩:=HV.out i.d vj;have yq:=zH uc;obtain⟨d0,d1⟩:=uc wc ue;clear uc;have yr:(kd:bp)<(g.vs.length:bp):=by omega
   subst vp;obtain⟨pd,vq⟩:=zE xd.ptr;rw[vq] at d0 vc;have uv:cm (R=bM (!pd) 7):=by unfold cm;rw[hE];simp[q,ay,dX,vc]
   simp only[rh];rw[vm];clear q hE J A vd HV
   go_wp2_with (go_at_call 51;refine(HO.out _ _ _).mono ?_;rintro e w9 ⟨rfl,ud⟩;have vf:=zH (xf.out _ _ ue ud);clear ud)
   go_ret;rw[uv.out,HN.out];exact⟨rfl,by first|exact vf.out|exact we.out⟩
  ·
   have ew:wD=tE:=by rw[<-wi.out,q];decide
   subst ew;have ux:bR=tE:=(by simpa using J:_/\_).1;have va:bD=tE:=(by simpa using J:_/\_).2;have vj:isVar g.vs.length i.d=tE:=by have:=wg.out;rw[va] at this;simpa[aJ] using this
   have hE:=eG HR vu vx (by rw[ux,va];simp);have i0:=A.i0;rw[q] at i0;have g7:=A.g7;have g2:=A.g2;obtain⟨kd,yi,yk,xd,vm,yp,vp,vc,uc⟩:=HV.out i.d vj;have yq:=zH uc;obtain⟨d0,d1⟩:=uc wc ue;clear uc;have yr:(kd:bp)<(g.vs.length:bp):=by omega
   subst vp;obtain⟨pd,vq⟩:=zE xd.ptr;rw[vq] at d0 vc;have uv:cm (R=bM pd 7):=by unfold cm;rw[hE];simp[q,ay,vc]
   simp only[rh];rw[vm];clear q hE J A vd HV
   go_wp2_with (go_at_call 51;refine(HO.out _ _ _).mono ?_;rintro e w9 ⟨rfl,ud⟩;have vf:=zH (xf.out _ _ ue ud);clear ud)
   go_ret;rw[uv.out,HN.out];exact⟨rfl,by first|exact vf.out|exact we.out⟩
  ·
   have ew:wD=tE:=by rw[<-wi.out,q];decide
   subst ew;have ux:bR=tE:=(by simpa using J:_/\_).1;have va:bD=tE:=(by simpa using J:_/\_).2;have vj:isVar g.vs.length i.d=tE:=by have:=wg.out;rw[va] at this;simpa[aJ] using this
   have yv:isVar g.vs.length i.a=tE:=fM (by rw[xl.out];exact ux) (by rw[q];decide);have hE:=eG HR vu vx (by rw[ux,va];simp);have i0:=A.i0;rw[q] at i0;have g7:=A.g7;have g2:=A.g2;have i2:=A.i2;obtain⟨kd,yi,yk,xd,vm,yp,vp,vc,uc⟩:=HV.out i.d vj;have yq:=zH uc;obtain⟨d0,d1⟩:=uc wc ue;clear uc;have yr:(kd:bp)<(g.vs.length:bp):=by omega
   obtain⟨ka,A0,A2,xa,yy,A4,xt,xj,vr⟩:=HV.out i.a yv;have A5:=zH vr;obtain⟨a0,a1⟩:=vr wc ue;clear vr;have A6:(ka:bp)<(g.vs.length:bp):=by omega
   subst vp;simp only[dt,eW,pc] at xt;obtain⟨rfl,rfl⟩:=xt;rw[yy] at i2;obtain⟨pd,vq⟩:=zE xd.ptr;rw[vq] at d0 vc;obtain⟨pa,yW⟩:=zE xa.ptr;rw[yW] at a0 xj;have uv:cm (R=bM (!(pd||pa)) 7):=by unfold cm;rw[hE];simp[q,ay,dX,vc,xj]
   simp only[rh];rw[vm];clear q hE J A vd HV;cases pd<;>(go_wp2_with (go_at_call 51;refine(HO.out _ _ _).mono ?_;rintro e w9 ⟨rfl,ud⟩;have vf:=zH (xf.out _ _ ue ud);clear ud);go_ret;rw[uv.out,HN.out];exact⟨rfl,by first|exact vf.out|exact we.out⟩)
  ·
   have ew:wD=tE:=by rw[<-wi.out,q];decide
   subst ew;have ux:bR=tE:=(by simpa using J:_/\_).1;have va:bD=tE:=(by simpa using J:_/\_).2;have vj:isVar g.vs.length i.d=tE:=by have:=wg.out;rw[va] at this;simpa[aJ] using this
   have hE:=eG HR vu vx (by rw[ux,va];simp);have i0:=A.i0;rw[q] at i0;have g7:=A.g7;have g2:=A.g2;obtain⟨kd,yi,yk,xd,vm,yp,vp,vc,uc⟩:=HV.out i.d vj;have yq:=zH uc;obtain⟨d0,d1⟩:=uc wc ue;clear uc;have yr:(kd:bp)<(g.vs.length:bp):=by omega
   subst vp;obtain⟨pd,vq⟩:=zE xd.ptr;rw[vq] at d0 vc;have uv:cm (R=bM (!pd) 7):=by unfold cm;rw[hE];simp[q,ay,dX,vc]
   simp only[rh];rw[vm];clear q hE J A vd HV
   go_wp2_with (go_at_call 51;refine(HO.out _ _ _).mono ?_;rintro e w9 ⟨rfl,ud⟩;have vf:=zH (xf.out _ _ ue ud);clear ud)
   go_ret;rw[uv.out,HN.out];exact⟨rfl,by first|exact vf.out|exact we.out⟩
  ·
   have ew:wD=tG:=by rw[<-wi.out,q];decide
   subst ew;have ux:bR=tE:=by simpa using J
   have yv:isVar g.vs.length i.a=tE:=fM (by rw[xl.out];exact ux) (by rw[q];decide);have hE:=eG HR vu vx (by rw[ux];simp);have i0:=A.i0;rw[q] at i0;have g7:=A.g7;have g2:=A.g2;have i2:=A.i2;obtain⟨ka,A0,A2,xa,yy,A4,xt,xj,vr⟩:=HV.out i.a yv;have A5:=zH vr;obtain⟨a0,a1⟩:=vr wc ue;clear vr;have A6:(ka:bp)<(g.vs.length:bp):=by omega
   subst xt;rw[yy] at i2;obtain⟨pa,yW⟩:=zE xa.ptr;rw[yW] at a0 xj;have uv:cm (R=bM (!pa) 7):=by unfold cm;rw[hE];simp[q,ay,dX,xj]
   clear q hE J A vd HV
   go_wp2_with (go_at_call 51;refine(HO.out _ _ _).mono ?_;rintro e w9 ⟨rfl,ud⟩;have vf:=zH (xf.out _ _ ue ud);clear ud)
   go_ret;rw[uv.out,HN.out];exact⟨rfl,by first|exact vf.out|exact we.out⟩
theorem vH (m:Mo)(g:Fn)(i:Ins)(w:World)(h:oJ w m g)(hi:i.args_in w)(yv:i.args.length<=40)(AW:∀v,isVar g.vs.length v=tE->m.known (az g.vs v)=tE)(q:i.op=4\/i.op=13\/i.op=14\/i.op=16):
  zP 49 #[tW m.cells,tW g.cells,tW i.cells] w (Z U (aD m g i)):=by
 obtain⟨ao,N,W1,hN,yy,xr,HN,vc,A0,A2,va,xt,HJ,B9,xF,yW,zc,zd⟩:=fU h hi yv;obtain⟨wD,bD,bR,o1,o2,vr,xT,vp,xj,ya,vu⟩:=gq (g:=g) (i:=i) (by omega) (by omega);rw[A0.out];simp only[Mo.cells,gc,Ins.cells] at xr⊢;have zj:=zH xr;obtain⟨R,hR⟩:=zE (aD m g i);rw[hR];have HR:=zH hR;have zp:=zH h;have A4:=zH q;have zr:=va.out W1 (aq _ _);have zv:=zH zr.ir;clear h hi yv AW xr hR q;have An:W1.heap.size=N+3:=yy;go_enter func49,tp
 go_upto_region 1 with(fail)
 rw[zj.out];clear zj zr hN
 go_upto_region 2 with(first
  |(refine ci rfl 42 _ rfl (N+2) rfl 42 _ (0,0) _ zv.out cJ rfl (by kernel_rfl) ?_)
  |(go_at_call 86;refine(yW.out _).mono ?_;rintro e w2 ⟨rfl,vq⟩;have As:=zH vq;clear vq))
 have vq:bh (N+3) W1 w2:=by have:=As.out;rwa [An] at this
 have i0:=(va.out w2 vq).i0;have xl:=zH vq;clear vq An yy As;rw[ya.out]
 go_upto_region 4 with(fail)
 clear i0 o1 o2;obtain⟨S,hS⟩:∃S:World->Prop,S=bh (N+3) W1:=⟨_,rfl⟩
 have J:cm (∀w',S w'↔bh (N+3) W1 w'):=λw'=>by rw[hS]
 have xo:cm (∀w',S w'->∀j u,(#[tM g.c.nm,Z U g.c.par,tP ao g.vs.length g.c.varsC,tU g.c.rp,tM g.c.rto,Z U g.c.rcl,tP g.c.fromA g.c.nfrom g.c.fromC,tP g.c.insA g.c.ins.length g.c.insC]:da cd).toList[j]?=tB u->w'.cell? ((⟨N+1,0,tD⟩:Addr).add j)=tB u):=λw' h=>dI (va.out w' ((J.out w').1 h)).gr;have yb:cm (∀w',S w'->∀j u,(#[Z U i.op,Z U i.d,Z U i.a,Z U i.b,Z U i.f,Z U i.n,tM i.sign,i.argsV,i.modeV,Z U i.tI,Z U i.els,Z U i.ln,Z U i.cl]:da cd).toList[j]?=tB u->w'.cell? ((⟨N+1+1,0,tD⟩:Addr).add j)=tB u):=λw' h=>dI (va.out w' ((J.out w').1 h)).ir;have ue:cm (∀w',S w'->True/\True):=λ_ _=>⟨trivial,trivial⟩
 clear hS
 go_cut [7,37] from 23 to 37 (λd b wc=>d= Z U (if wD=tE then(i.d,tE) else(0,tG)).1/\b= tU (!(bR&&(!wD||bD)))/\bh (N+3) W1 wc)
 case first=>
  have A5:S w2.drew:=(J.out _).2 xl.out.drew;cases wD with
  |true=>
   simp only[rh];refine ak 5 S (by kernel_rfl) ?_;refine zT 0 rfl ue.out ?_
   try go_simp
   refine zT 1 rfl ue.out ?_
   try go_simp
   refine zL 2 rfl 38 ⟨N+1,0,tD⟩ xo.out cQ ?_
   try go_simp
   refine zT 3 rfl ue.out ?_
   try go_simp
   refine zO 4 rfl λK' hK=> ?_;go_simp;have xp:∀c,S (w2.alloc c).drew:=λc=>(J.out _).2 ((xl.out.alloc (by have:=xl.out.size;rw[vc.out] at this;exact this) _).drew);have At:aA (w2.alloc (ua #[Z U i.d] 3)).drew (tB ⟨w2.heap.size,0,tD⟩) [i.d]:=aA.one w2 i.d rfl;refine hK _ _ (xp _) ?_;clear hK
   try go_simp
   refine zK rfl λK' hK=> ?_;go_simp;go_at_call 87;refine(xF.out _ (tB ⟨w2.heap.size,0,tD⟩) 1 [i.d] (by simp) At).mono ?_;rintro e w5 ⟨rfl,Ax⟩;have A6:S w5:=(J.out _).2 (((J.out _).1 (xp _)).trans (Ax.mono (by have:=((J.out _).1 (xp (ua #[Z U i.d] 3))).size;rw[vc.out] at this;exact this)));rw[xT.out];refine hK _ _ ?_;clear hK Ax xp A5 At
   try go_simp
   cases bD with
   |false=>
    refine aZ 6 rfl (by kernel_rfl) (by kernel_rfl) (·=w5) rfl ?_;dsimp only[iv]
    repeat (go_big_quiet_step (fail))
    refine eh ?_;rintro _ rfl;go_wp2
    go_meet
    case rel=>exact⟨rfl,by simp,(J.out _).1 A6⟩
   |true=>
    refine eX (S:=S) (k:=12) _ _ _ _ ?_;refine zT 6 rfl ue.out ?_
    try go_simp
    refine zT 7 rfl ue.out ?_
    try go_simp
    refine zT 8 rfl ue.out ?_
    try go_simp
    refine zL 9 rfl 38 ⟨N+1,0,tD⟩ xo.out cQ ?_
    try go_simp
    refine zL 10 rfl 42 ⟨N+1+1,0,tD⟩ yb.out cJ ?_
    try go_simp
    refine zO 11 rfl λK' hK=> ?_;go_simp;go_at_call 88;refine(zc.out _ ((J.out _).1 (by assumption))).mono ?_;rintro e w7 ⟨ro,rc,rfl,vx,vy⟩;have vi:S w7:=(J.out _).2 (((J.out _).1 (by assumption)).trans (vy.mono (by have:=((J.out _).1 (by assumption)).size;rw[vc.out] at this;exact this)));have we:=vx.at_;refine hK _ _ vi ?_;clear hK vx vy
    try go_simp
    refine zK rfl λK' hK=> ?_;go_simp;go_at_call 87;refine(xF.out _ _ _ _ zd.out we).mono ?_;rintro e w8 ⟨rfl,vd⟩;have yd:=((J.out _).1 vi).trans (vd.mono (by have:=((J.out _).1 vi).size;rw[vc.out] at this;exact this));rw[vp.out];refine hK _ _ ?_;clear hK we vd
    try go_simp
    refine aZ 13 rfl (by kernel_rfl) (by kernel_rfl) (·=w8) rfl ?_;dsimp only[iv]
    repeat (go_big_quiet_step (fail))
    refine eh ?_;rintro _ rfl;go_wp2
    go_meet
    case rel=>exact⟨rfl,by simp,yd⟩
  |false=>
    simp only[pj,if_false];refine ak 12 S (by kernel_rfl) ?_;refine zT 0 rfl ue.out ?_
    try go_simp
    refine zT 1 rfl ue.out ?_
    try go_simp
    refine zN 2 rfl ?_
    try go_simp
    refine zN 3 rfl ?_
    try go_simp
    refine zN 4 rfl ?_
    try go_simp
    refine zN 5 rfl ?_
    try go_simp
    refine zN 6 rfl ?_
    try go_simp
    refine zT 7 rfl ue.out ?_
    try go_simp
    refine zT 8 rfl ue.out ?_
    try go_simp
    refine zL 9 rfl 38 ⟨N+1,0,tD⟩ xo.out cQ ?_
    try go_simp
    refine zL 10 rfl 42 ⟨N+1+1,0,tD⟩ yb.out cJ ?_
    try go_simp
    refine zO 11 rfl λK' hK=> ?_;go_simp;go_at_call 88;refine(zc.out _ ((J.out _).1 (by assumption))).mono ?_;rintro e w7 ⟨ro,rc,rfl,vx,vy⟩;have vi:S w7:=(J.out _).2 (((J.out _).1 (by assumption)).trans (vy.mono (by have:=((J.out _).1 (by assumption)).size;rw[vc.out] at this;exact this)));have we:=vx.at_;refine hK _ _ vi ?_;clear hK vx vy
    try go_simp
    refine zK rfl λK' hK=> ?_;go_simp;go_at_call 87;refine(xF.out _ _ _ _ zd.out we).mono ?_;rintro e w8 ⟨rfl,vd⟩;have yd:=((J.out _).1 vi).trans (vd.mono (by have:=((J.out _).1 vi).size;rw[vc.out] at this;exact this));rw[vp.out];refine hK _ _ ?_;clear hK we vd
    try go_simp
    refine aZ 13 rfl (by kernel_rfl) (by kernel_rfl) (·=w8) rfl ?_;dsimp only[iv]
    repeat (go_big_quiet_step (fail))
    refine eh ?_;rintro _ rfl;go_wp2
    go_meet
    case rel=>exact⟨rfl,by simp,yd⟩
 case rest=>
  obtain⟨rfl,rfl,uc⟩:=hcut;have ux:=zH (xt.out wc uc);have A:=va.out wc uc;have HV:cm (∀v,isVar g.vs.length v=tE->∃(k b wg:bx) (x:Vr),v=(k:bp)/\k<g.vs.length/\ao=tB ⟨b,wg,tD⟩/\az g.vs v=(x.ptr,x.tgt)/\∀W,bh (N+3) W1 W->W.cell? ⟨b,wg+k*3,tD⟩=tB (tU x.ptr)/\W.cell? ⟨b,wg+k*3+1,tD⟩=tB (tM x.tgt)):=λv hv=>by
   obtain⟨k,b,wg,x,q1,q2,q3,q4,q5,q6,q7⟩:=dU zp.out.vars hv;refine⟨k,b,wg,x,q1,q2,by rw[<-A2.out];exact q3,q5,λW hW=> ?_⟩;have AD:=xt.out W hW;rw[HN.out] at q4;exact⟨by rw[AD.cell (p:=⟨b,_,tD⟩) (show b<N by omega)];exact q6,by rw[AD.cell (p:=⟨b,_,tD⟩) (show b<N by omega)];exact q7⟩
  have Bk:=zp.out.vl;unfold dT at Bk;have HO:cm (∀W b f,zP 51 #[tU b,Z U f] W (Z U (bM (!b) f))):=λW b f=>bi b f W;have vf:cm (∀W W':World,bh (N+3) W1 W->bh W.heap.size W W'->bh N w W'):=λW W' h1 h2=>xt.out W' (h1.trans (h2.mono (by have:=h1.size;rw[vc.out] at this;exact this)));obtain⟨B,hB⟩:=zE (bR&&(!wD||bD));rw[hB];cases B with
  |false=>
   have D:cm (R=15):=by unfold cm;rw[<-HR.out];unfold aD;rw[cE vr.out,cR (by rw[vu.out];exact hB)]
   clear A HV hB;obtain⟨wv,AE⟩:=zE ((if wD=tE then(i.d,tE) else(0,tG)):bp×nj);rw[AE,qT];clear AE ya;go_wp2;go_ret;rw[D.out,HN.out];exact⟨rfl,ux.out⟩
  |true=>
  rw[sy];clear J xo yb ue xl ya yW zv;rcases A4.out with q|q|q|q
  ·
   have ew:wD=tE:=by rw[<-xj.out,q];decide
   subst ew;have ur:bR=tE:=(by simpa using hB:_/\_).1;have wi:bD=tE:=(by simpa using hB:_/\_).2;have ye:isVar g.vs.length i.d=tE:=by have:=xT.out;rw[wi] at this;simpa[aJ] using this
   have wj:isVar g.vs.length i.a=tE:=fM (by rw[vp.out];exact ur) (by rw[q];decide);have Bm:isVar g.vs.length i.b=tE:=yg (by rw[vp.out];exact ur) (by rw[q];decide);have hE:=eG HR vr vu (by rw[ur,wi];simp);have i0:=A.i0;rw[q] at i0;have g7:=A.g7;have g2:=A.g2;have i2:=A.i2;have i3:=A.i3;obtain⟨kd,By,BE,xd,yi,BT,yk,wk,vj⟩:=HV.out i.d ye;have BY:=zH vj;obtain⟨d0,d1⟩:=vj wc uc;clear vj;have B4:(kd:bp)<(g.vs.length:bp):=by omega
   obtain⟨ka,AF,AG,xa,wl,AH,vm,vh,uv⟩:=HV.out i.a wj;have AI:=zH uv;obtain⟨a0,a1⟩:=uv wc uc;clear uv;have AK:(ka:bp)<(g.vs.length:bp):=by omega
   obtain⟨kb,Cd,Cl,xb,B5,Cp,AM,AN,yp⟩:=HV.out i.b Bm;have CA:=zH yp;obtain⟨b0,b1⟩:=yp wc uc;clear yp;have CC:(kb:bp)<(g.vs.length:bp):=by omega
   subst yk;simp only[dt,eW,pc] at vm;obtain⟨rfl,rfl⟩:=vm;simp only[dt,eW,pc] at AM;obtain⟨rfl,rfl⟩:=AM;rw[wl] at i2;rw[B5] at i3;obtain⟨pd,yq⟩:=zE xd.ptr;rw[yq] at d0 wk;obtain⟨pa,ws⟩:=zE xa.ptr;rw[ws] at a0 vh;obtain⟨pb,B6⟩:=zE xb.ptr;rw[B6] at b0 AN;have i6:=A.i6;have D:cm (R=eO (bM (!(pd||(pa||pb))) 7) i.sign gK):=by unfold cm;rw[hE];simp[q,ay,dX,wk,vh,AN]
   have AS:cm (∀W,zP 89 #[tM i.sign] W (tU (gK.any λx=>x==i.sign))):=λW=>zZ i.sign W;obtain⟨sg,yr⟩:=zE (gK.any λx=>x==i.sign);rw[yr] at AS;have wx:cm (∀z,eO z i.sign gK=if z≠0 then z else bM sg 3):=λz=>by unfold eO;rw[yr]
   rw[wx.out] at D;clear yr wx;simp only[rh];rw[yi];clear q hE hB A va HV;cases pd
   ·cases pa
    ·cases pb
     ·go_wp2_with (first|(go_at_call 89;refine(AS.out _).mono ?_;rintro e w8 ⟨rfl,vd⟩;have B8:=zH (uc.trans (vd.mono (by have:=uc.size;rw[vc.out] at this;exact this)));clear vd)|(go_at_call 51;refine(HO.out _ _ _).mono ?_;rintro e w9 ⟨rfl,G⟩;have ud:=zH (vf.out _ _ B8.out G);clear G))
      go_ret;rw[D.out,HN.out];exact⟨by cases sg<;>rfl,ud.out⟩
     ·go_wp2
      go_ret;rw[D.out,HN.out];exact⟨rfl,ux.out⟩
    ·go_wp2
     go_ret;rw[D.out,HN.out];exact⟨rfl,ux.out⟩
   ·go_wp2
    go_ret;rw[D.out,HN.out];exact⟨rfl,ux.out⟩
  ·
   have ew:wD=tG:=by rw[<-xj.out,q];decide
   subst ew;have ur:bR=tE:=by simpa using hB
   have wj:isVar g.vs.length i.a=tE:=fM (by rw[vp.out];exact ur) (by rw[q];decide);have hE:=eG HR vr vu (by rw[ur];simp);have i0:=A.i0;rw[q] at i0;have g7:=A.g7;have g2:=A.g2;have i2:=A.i2;obtain⟨ka,AF,AG,xa,wl,AH,vm,vh,uv⟩:=HV.out i.a wj;have AI:=zH uv;obtain⟨a0,a1⟩:=uv wc uc;clear uv;have AK:(ka:bp)<(g.vs.length:bp):=by omega
   subst vm;rw[wl] at i2;obtain⟨pa,ws⟩:=zE xa.ptr;rw[ws] at a0 vh;have D:cm (R=bM pa 7):=by unfold cm;rw[hE];simp[q,ay,vh]
   clear q hE hB A va HV
   go_wp2_with (go_at_call 51;refine(HO.out _ _ _).mono ?_;rintro e w9 ⟨rfl,G⟩;have ud:=zH (vf.out _ _ uc G);clear G)
   go_ret;rw[D.out,HN.out];exact⟨rfl,by first|exact ud.out|exact ux.out⟩
  ·
   have ew:wD=tE:=by rw[<-xj.out,q];decide
   subst ew;have ur:bR=tE:=(by simpa using hB:_/\_).1;have wi:bD=tE:=(by simpa using hB:_/\_).2;have ye:isVar g.vs.length i.d=tE:=by have:=xT.out;rw[wi] at this;simpa[aJ] using this
   have wj:isVar g.vs.length i.a=tE:=fM (by rw[vp.out];exact ur) (by rw[q];decide);have hE:=eG HR vr vu (by rw[ur,wi];simp);have i0:=A.i0;rw[q] at i0;have g7:=A.g7;have g2:=A.g2;have i2:=A.i2;obtain⟨kd,By,BE,xd,yi,BT,yk,wk,vj⟩:=HV.out i.d ye;have BY:=zH vj;obtain⟨d0,d1⟩:=vj wc uc;clear vj;have B4:(kd:bp)<(g.vs.length:bp):=by omega
   obtain⟨ka,AF,AG,xa,wl,AH,vm,vh,uv⟩:=HV.out i.a wj;have AI:=zH uv;obtain⟨a0,a1⟩:=uv wc uc;clear uv;have AK:(ka:bp)<(g.vs.length:bp):=by omega
   subst yk;simp only[dt,eW,pc] at vm;obtain⟨rfl,rfl⟩:=vm;rw[wl] at i2;obtain⟨pd,yq⟩:=zE xd.ptr;rw[yq] at d0 wk;obtain⟨pa,ws⟩:=zE xa.ptr;rw[ws] at a0 vh;have i6:=A.i6;have D:cm (R=eO (bM (!pd&&pa) 7) i.sign ji):=by unfold cm;rw[hE];simp[q,ay,wk,vh]
   have AT:cm ((ji.any λx=>x==i.sign)=(i.sign.toList==[61,61]||i.sign.toList==[33,61])):=by
    unfold cm ji;simp only[List.any_cons,List.any_nil,lO];rw[fY,fY,BEq.comm (a:=i.sign.toList),BEq.comm (a:=i.sign.toList)];rw[show(ByteArray.mk #[61,61]).toList=[61,61] from by decide+kernel,show(ByteArray.mk #[33,61]).toList=[33,61] from by decide+kernel]
   have wx:cm (∀z,eO z i.sign ji=if z≠0 then z else bM (i.sign.toList==[61,61]||i.sign.toList==[33,61]) 3):=λz=>by unfold eO;rw[AT.out]
   rw[wx.out] at D;clear wx AT;simp only[rh];rw[yi];clear q hE hB A va HV;cases pd
   ·cases pa
    ·go_wp2
     go_ret;rw[D.out,HN.out];exact⟨rfl,ux.out⟩
    ·by_cases s1:i.sign.toList=[61,61]
     ·have xf:cm (R=0):=by unfold cm;rw[D.out,s1];rfl
      go_wp2_with (go_at_call 51;refine(HO.out _ _ _).mono ?_;rintro e w9 ⟨rfl,G⟩;have ud:=zH (vf.out _ _ uc G);clear G)
      go_ret;rw[xf.out,HN.out];exact⟨rfl,ud.out⟩
     ·by_cases s2:i.sign.toList=[33,61]
      ·have xf:cm (R=0):=by unfold cm;rw[D.out,s2];rfl
       go_wp2_with (go_at_call 51;refine(HO.out _ _ _).mono ?_;rintro e w9 ⟨rfl,G⟩;have ud:=zH (vf.out _ _ uc G);clear G)
       go_ret;rw[xf.out,HN.out];exact⟨rfl,ud.out⟩
      ·have xf:cm (R=bM (i.sign.toList==[61,61]||i.sign.toList==[33,61]) 3):=by unfold cm;rw[D.out];rfl
       go_wp2_with (go_at_call 51;refine(HO.out _ _ _).mono ?_;rintro e w9 ⟨rfl,G⟩;have ud:=zH (vf.out _ _ uc G);clear G)
       go_ret;rw[xf.out,HN.out];exact⟨rfl,ud.out⟩
   ·go_wp2
    go_ret;rw[D.out,HN.out];exact⟨rfl,ux.out⟩
  ·
   have ew:wD=tG:=by rw[<-xj.out,q];decide
   subst ew;have ur:bR=tE:=by simpa using hB
   have hE:=eG HR vr vu (by rw[ur];simp);have i0:=A.i0;rw[q] at i0;have g7:=A.g7;have i9:=A.i9;obtain⟨n,hn⟩:=zE g.c.ins.length;obtain⟨t,ht⟩:=zE i.tI;rw[ht] at i9;rw[hn] at g7;have D:cm (R=bM (isVar n t) 15):=by unfold cm;rw[hE];simp[q,hn,ht]
   clear q hE hB A va HV
   by_cases t0:t<0
   ·have e:isVar n t=tG:=by unfold isVar;rw[cL (by omega)];rfl
    rw[e] at D;have e0:decide (t<0)=tE:=ef t0
    go_wp2_with (go_at_call 51;refine(HO.out _ _ _).mono ?_;rintro e w9 ⟨rfl,G⟩;have ud:=zH (vf.out _ _ uc G);clear G)
    go_ret;rw[D.out,HN.out];exact⟨rfl,by first|exact ud.out|exact ux.out⟩
   have e0:decide (t<0)=tG:=cL t0
   by_cases t1:(n:bp)<=t
   ·have e:isVar n t=tG:=by unfold isVar;rw[cL (show¬t<(n:bp) by omega),Bool.and_false]
    rw[e] at D;have e1:decide ((n:bp)<=t)=tE:=ef t1
    go_wp2_with (go_at_call 51;refine(HO.out _ _ _).mono ?_;rintro e w9 ⟨rfl,G⟩;have ud:=zH (vf.out _ _ uc G);clear G)
    go_ret;rw[D.out,HN.out];exact⟨rfl,by first|exact ud.out|exact ux.out⟩
   ·have e:isVar n t=tE:=eF.2 ⟨by omega,by omega⟩
    rw[e] at D;have e1:decide ((n:bp)<=t)=tG:=cL t1
    go_wp2_with (go_at_call 51;refine(HO.out _ _ _).mono ?_;rintro e w9 ⟨rfl,G⟩;have ud:=zH (vf.out _ _ uc G);clear G)
    go_ret;rw[D.out,HN.out];exact⟨rfl,by first|exact ud.out|exact ux.out⟩
theorem vI (m:Mo)(g:Fn)(i:Ins)(w:World)(h:oJ w m g)(hi:i.args_in w)(As:i.args.length<=40)(A2:∀v,isVar g.vs.length v=tE->m.known (az g.vs v)=tE)(q:i.op=9\/i.op=12\/i.op=18):
  zP 49 #[tW m.cells,tW g.cells,tW i.cells] w (Z U (aD m g i)):=by
 obtain⟨ao,N,W1,hN,At,ye,HN,vd,A4,A5,uc,vh,HJ,B8,yi,Ax,AD,AE⟩:=fU h hi As;obtain⟨wD,bD,bR,o1,o2,xo,yk,xp,yp,yq,xr⟩:=gq (g:=g) (i:=i) (by omega) (by omega);rw[A4.out];simp only[Mo.cells,gc,Ins.cells] at ye⊢;have AF:=zH ye;obtain⟨R,hR⟩:=zE (aD m g i);rw[hR];have HR:=zH hR;have xt:=zH h;have A6:=zH q;have AG:=uc.out W1 (aq _ _);have AH:=zH AG.ir;clear h hi As A2 ye hR q;have AI:W1.heap.size=N+3:=At;go_enter func49,tp
 go_upto_region 1 with(fail)
 rw[AF.out];clear AF AG hN
 go_upto_region 2 with(first
  |(refine ci rfl 42 _ rfl (N+2) rfl 42 _ (0,0) _ AH.out cJ rfl (by kernel_rfl) ?_)
  |(go_at_call 86;refine(Ax.out _).mono ?_;rintro e w2 ⟨rfl,vr⟩;have AK:=zH vr;clear vr))
 have vr:bh (N+3) W1 w2:=by have:=AK.out;rwa [AI] at this
 have i0:=(uc.out w2 vr).i0;have xF:=zH vr;clear vr AI At AK;rw[yq.out]
 go_upto_region 4 with(fail)
 clear i0 o1 o2;obtain⟨S,hS⟩:∃S:World->Prop,S=bh (N+3) W1:=⟨_,rfl⟩
 have A:cm (∀w',S w'↔bh (N+3) W1 w'):=λw'=>by rw[hS]
 have xT:cm (∀w',S w'->∀j u,(#[tM g.c.nm,Z U g.c.par,tP ao g.vs.length g.c.varsC,tU g.c.rp,tM g.c.rto,Z U g.c.rcl,tP g.c.fromA g.c.nfrom g.c.fromC,tP g.c.insA g.c.ins.length g.c.insC]:da cd).toList[j]?=tB u->w'.cell? ((⟨N+1,0,tD⟩:Addr).add j)=tB u):=λw' h=>dI (uc.out w' ((A.out w').1 h)).gr;have yr:cm (∀w',S w'->∀j u,(#[Z U i.op,Z U i.d,Z U i.a,Z U i.b,Z U i.f,Z U i.n,tM i.sign,i.argsV,i.modeV,Z U i.tI,Z U i.els,Z U i.ln,Z U i.cl]:da cd).toList[j]?=tB u->w'.cell? ((⟨N+1+1,0,tD⟩:Addr).add j)=tB u):=λw' h=>dI (uc.out w' ((A.out w').1 h)).ir;have ue:cm (∀w',S w'->True/\True):=λ_ _=>⟨trivial,trivial⟩
 clear hS
 go_cut [7,37] from 23 to 37 (λd b wc=>d= Z U (if wD=tE then(i.d,tE) else(0,tG)).1/\b= tU (!(bR&&(!wD||bD)))/\bh (N+3) W1 wc)
 case first=>
  have Bk:S w2.drew:=(A.out _).2 xF.out.drew;cases wD with
  |true=>
   simp only[rh];refine ak 5 S (by kernel_rfl) ?_;refine zT 0 rfl ue.out ?_
   try go_simp
   refine zT 1 rfl ue.out ?_
   try go_simp
   refine zL 2 rfl 38 ⟨N+1,0,tD⟩ xT.out cQ ?_
   try go_simp
   refine zT 3 rfl ue.out ?_
   try go_simp
   refine zO 4 rfl λK' G=> ?_;go_simp;have ya:∀c,S (w2.alloc c).drew:=λc=>(A.out _).2 ((xF.out.alloc (by have:=xF.out.size;rw[vd.out] at this;exact this) _).drew);have AM:aA (w2.alloc (ua #[Z U i.d] 3)).drew (tB ⟨w2.heap.size,0,tD⟩) [i.d]:=aA.one w2 i.d rfl;refine G _ _ (ya _) ?_;clear G
   try go_simp
   refine zK rfl λK' G=> ?_;go_simp;go_at_call 87;refine(yi.out _ (tB ⟨w2.heap.size,0,tD⟩) 1 [i.d] (by simp) AM).mono ?_;rintro e w5 ⟨rfl,AN⟩;have Bm:S w5:=(A.out _).2 (((A.out _).1 (ya _)).trans (AN.mono (by have:=((A.out _).1 (ya (ua #[Z U i.d] 3))).size;rw[vd.out] at this;exact this)));rw[yk.out];refine G _ _ ?_;clear G AN ya Bk AM
   try go_simp
   cases bD with
   |false=>
    refine aZ 6 rfl (by kernel_rfl) (by kernel_rfl) (·=w5) rfl ?_;dsimp only[iv]
    repeat (go_big_quiet_step (fail))
    refine eh ?_;rintro _ rfl;go_wp2
    go_meet
    case rel=>exact⟨rfl,by simp,(A.out _).1 Bm⟩
   |true=>
    refine eX (S:=S) (k:=12) _ _ _ _ ?_;refine zT 6 rfl ue.out ?_
    try go_simp
    refine zT 7 rfl ue.out ?_
    try go_simp
    refine zT 8 rfl ue.out ?_
    try go_simp
    refine zL 9 rfl 38 ⟨N+1,0,tD⟩ xT.out cQ ?_
    try go_simp
    refine zL 10 rfl 42 ⟨N+1+1,0,tD⟩ yr.out cJ ?_
    try go_simp
    refine zO 11 rfl λK' G=> ?_;go_simp;go_at_call 88;refine(AD.out _ ((A.out _).1 (by assumption))).mono ?_;rintro e w7 ⟨ro,rc,rfl,vx,vy⟩;have vi:S w7:=(A.out _).2 (((A.out _).1 (by assumption)).trans (vy.mono (by have:=((A.out _).1 (by assumption)).size;rw[vd.out] at this;exact this)));have we:=vx.at_;refine G _ _ vi ?_;clear G vx vy
    try go_simp
    refine zK rfl λK' G=> ?_;go_simp;go_at_call 87;refine(yi.out _ _ _ _ AE.out we).mono ?_;rintro e w8 ⟨rfl,wg⟩;have yv:=((A.out _).1 vi).trans (wg.mono (by have:=((A.out _).1 vi).size;rw[vd.out] at this;exact this));rw[xp.out];refine G _ _ ?_;clear G we wg
    try go_simp
    refine aZ 13 rfl (by kernel_rfl) (by kernel_rfl) (·=w8) rfl ?_;dsimp only[iv]
    repeat (go_big_quiet_step (fail))
    refine eh ?_;rintro _ rfl;go_wp2
    go_meet
    case rel=>exact⟨rfl,by simp,yv⟩
  |false=>
    simp only[pj,if_false];refine ak 12 S (by kernel_rfl) ?_;refine zT 0 rfl ue.out ?_
    try go_simp
    refine zT 1 rfl ue.out ?_
    try go_simp
    refine zN 2 rfl ?_
    try go_simp
    refine zN 3 rfl ?_
    try go_simp
    refine zN 4 rfl ?_
    try go_simp
    refine zN 5 rfl ?_
    try go_simp
    refine zN 6 rfl ?_
    try go_simp
    refine zT 7 rfl ue.out ?_
    try go_simp
    refine zT 8 rfl ue.out ?_
    try go_simp
    refine zL 9 rfl 38 ⟨N+1,0,tD⟩ xT.out cQ ?_
    try go_simp
    refine zL 10 rfl 42 ⟨N+1+1,0,tD⟩ yr.out cJ ?_
    try go_simp
    refine zO 11 rfl λK' G=> ?_;go_simp;go_at_call 88;refine(AD.out _ ((A.out _).1 (by assumption))).mono ?_;rintro e w7 ⟨ro,rc,rfl,vx,vy⟩;have vi:S w7:=(A.out _).2 (((A.out _).1 (by assumption)).trans (vy.mono (by have:=((A.out _).1 (by assumption)).size;rw[vd.out] at this;exact this)));have we:=vx.at_;refine G _ _ vi ?_;clear G vx vy
    try go_simp
    refine zK rfl λK' G=> ?_;go_simp;go_at_call 87;refine(yi.out _ _ _ _ AE.out we).mono ?_;rintro e w8 ⟨rfl,wg⟩;have yv:=((A.out _).1 vi).trans (wg.mono (by have:=((A.out _).1 vi).size;rw[vd.out] at this;exact this));rw[xp.out];refine G _ _ ?_;clear G we wg
    try go_simp
    refine aZ 13 rfl (by kernel_rfl) (by kernel_rfl) (·=w8) rfl ?_;dsimp only[iv]
    repeat (go_big_quiet_step (fail))
    refine eh ?_;rintro _ rfl;go_wp2
    go_meet
    case rel=>exact⟨rfl,by simp,yv⟩
 case rest=>
  obtain⟨rfl,rfl,ud⟩:=hcut;have yy:=zH (vh.out wc ud);have D:=uc.out wc ud;have HV:cm (∀v,isVar g.vs.length v=tE->∃(k b wi:bx) (x:Vr),v=(k:bp)/\k<g.vs.length/\ao=tB ⟨b,wi,tD⟩/\az g.vs v=(x.ptr,x.tgt)/\∀W,bh (N+3) W1 W->W.cell? ⟨b,wi+k*3,tD⟩=tB (tU x.ptr)/\W.cell? ⟨b,wi+k*3+1,tD⟩=tB (tM x.tgt)):=λv hv=>by
   obtain⟨k,b,wi,x,q1,q2,q3,q4,q5,q6,q7⟩:=dU xt.out.vars hv;refine⟨k,b,wi,x,q1,q2,by rw[<-A5.out];exact q3,q5,λW hW=> ?_⟩;have yb:=vh.out W hW;rw[HN.out] at q4;exact⟨by rw[yb.cell (p:=⟨b,_,tD⟩) (show b<N by omega)];exact q6,by rw[yb.cell (p:=⟨b,_,tD⟩) (show b<N by omega)];exact q7⟩
  have By:=xt.out.vl;unfold dT at By;have HO:cm (∀W b f,zP 51 #[tU b,Z U f] W (Z U (bM (!b) f))):=λW b f=>bi b f W;have B9:cm (∀W W':World,bh (N+3) W1 W->bh W.heap.size W W'->bh N w W'):=λW W' h1 h2=>vh.out W' (h1.trans (h2.mono (by have:=h1.size;rw[vd.out] at this;exact this)));obtain⟨B,hB⟩:=zE (bR&&(!wD||bD));rw[hB];cases B with
  |false=>
   have ur:cm (R=15):=by unfold cm;rw[<-HR.out];unfold aD;rw[cE xo.out,cR (by rw[xr.out];exact hB)]
   clear D HV hB;obtain⟨wv,AS⟩:=zE ((if wD=tE then(i.d,tE) else(0,tG)):bp×nj);rw[AS,qT];clear AS yq;go_wp2;go_ret;rw[ur.out,HN.out];exact⟨rfl,yy.out⟩
  |true=>
  rw[sy];clear A xT yr ue xF yq Ax AH;rcases A6.out with q|q|q
  ·
   have ew:wD=tE:=by rw[<-yp.out,q];decide
   subst ew;have vj:bR=tE:=(by simpa using hB:_/\_).1;have wj:bD=tE:=(by simpa using hB:_/\_).2;have yW:isVar g.vs.length i.d=tE:=by have:=yk.out;rw[wj] at this;simpa[aJ] using this
   have zc:isVar g.vs.length i.a=tE:=fM (by rw[xp.out];exact vj) (by rw[q];decide);have hE:=eG HR xo xr (by rw[vj,wj];simp);have i0:=D.i0;rw[q] at i0;have g7:=D.g7;have g2:=D.g2;have i2:=D.i2;obtain⟨kd,uv,ux,xd,zd,BE,zj,vu,vm⟩:=HV.out i.d yW;have wk:=zH vm;obtain⟨d0,d1⟩:=vm wc ud;clear vm;have BT:(kd:bp)<(g.vs.length:bp):=by omega
   obtain⟨ka,wl,ws,xa,wx,BY,yd,vp,vq⟩:=HV.out i.a zc;have xf:=zH vq;obtain⟨a0,a1⟩:=vq wc ud;clear vq;have B4:(ka:bp)<(g.vs.length:bp):=by omega
   subst zj;simp only[dt,eW,pc] at yd;obtain⟨rfl,rfl⟩:=yd;rw[wx] at i2;have J:cm (∀p:BW wc,bh (N+3) W1 p.w):=λp=>ud.trans (p.h.mono (by have:=ud.size;rw[vd.out] at this;exact this));have va:cm (∀p:BW wc,Bx m g i (tB ⟨uv,ux,tD⟩) N p.w):=λp=>uc.out p.w (J.out p);have xj:cm (∀(p:BW wc) b f,zP 51 #[tU b,Z U f] p.w (Z U (bM (!b) f))):=λp b f=>bi b f p.w;have Cd:=zH vp;have Cl:=zH vu;obtain⟨pa,zp⟩:=zE xa.ptr;obtain⟨dq,vc⟩:=zE (((pa,xa.tgt):Ty)==(xd.ptr,xd.tgt));have AT:∀w,(gE 10000 32 (tW #[tU pa,tM xa.tgt]) (tW #[tU xd.ptr,tM xd.tgt])).run ac w= .ok dq w:=λw=>by rw[dH,vc]
   rw[zp] at vp a0;have ur:cm (R=bM (pa&&dq) 7):=by unfold cm;rw[hE];simp only[q,ay,vp,vu,vc];simp
   have q0:∀p:BW wc,p.w.cell? ⟨N+1,2,tD⟩=tB (tP (tB ⟨uv,ux,tD⟩) g.vs.length g.c.varsC):=λp=>(va.out p).g2;have q1:∀p:BW wc,p.w.cell? ⟨N+2,2,tD⟩=tB (Z U (ka:bp)):=λp=>by rw[<-wx];exact(va.out p).i2
   have q2:∀p:BW wc,p.w.cell? ⟨uv,ux+ka*3,tD⟩=tB (tU pa):=λp=>by rw[<-zp];exact(xf.out p.w (J.out p)).1
   have q3:∀p:BW wc,p.w.cell? ⟨uv,ux+ka*3+1,tD⟩=tB (tM xa.tgt):=λp=>(xf.out p.w (J.out p)).2;have q4:∀p:BW wc,p.w.cell? ⟨uv,ux+kd*3,tD⟩=tB (tU xd.ptr):=λp=>(wk.out p.w (J.out p)).1;have q5:∀p:BW wc,p.w.cell? ⟨uv,ux+kd*3+1,tD⟩=tB (tM xd.tgt):=λp=>(wk.out p.w (J.out p)).2;clear vc zp vp vu;simp only[rh];rw[zd];clear q hE hB D uc HV;cases pa<;>cases dq
   all_goals
    go_wp2_with fail
    clear i0 g2 i2 a0 a1 d0 d1;refine zQ ?_
    repeat (go_big_quiet_step (first|(go_at_call 51;exact aW (xj.out _ _ _))))
    refine eh ?_;rintro _ ⟨p,rfl⟩;have xl:=zH (vh.out p.w (J.out p));clear q0 q1 q2 q3 q4 q5;go_wp2;go_ret;rw[ur.out,HN.out];exact⟨rfl,xl.out⟩
  ·
   have ew:wD=tE:=by rw[<-yp.out,q];decide
   subst ew;have vj:bR=tE:=(by simpa using hB:_/\_).1;have wj:bD=tE:=(by simpa using hB:_/\_).2;have yW:isVar g.vs.length i.d=tE:=by have:=yk.out;rw[wj] at this;simpa[aJ] using this
   have hE:=eG HR xo xr (by rw[vj,wj];simp);have i0:=D.i0;rw[q] at i0;have g7:=D.g7;have g2:=D.g2;obtain⟨kd,uv,ux,xd,zd,BE,zj,vu,vm⟩:=HV.out i.d yW;have wk:=zH vm;obtain⟨d0,d1⟩:=vm wc ud;clear vm;have BT:(kd:bp)<(g.vs.length:bp):=by omega
   subst zj;have J:cm (∀p:BW wc,bh (N+3) W1 p.w):=λp=>ud.trans (p.h.mono (by have:=ud.size;rw[vd.out] at this;exact this));have va:cm (∀p:BW wc,Bx m g i (tB ⟨uv,ux,tD⟩) N p.w):=λp=>uc.out p.w (J.out p);have xj:cm (∀(p:BW wc) b f,zP 51 #[tU b,Z U f] p.w (Z U (bM (!b) f))):=λp b f=>bi b f p.w;have i4:=D.i4;have m0:=D.m0;have vf:R=if i.f<0 then 15 else match m.ss[i.f.toNat]? with
    |none=>15
    |some s=>bM (az g.vs i.d==(tE,s.s.nm)) 7:=by rw[hE];simp only[q,ay];simp;rfl
   obtain⟨f,hf⟩:=zE i.f;rw[hf] at vf i4;have B5:=xt.out.mo.ns;unfold dT at B5
   by_cases zr:f<0
   ·have ur:cm (R=15):=by unfold cm;rw[vf,cR zr]
    have e0:decide (f<0)=tE:=ef zr;clear q hE vf hB D uc HV hf;go_wp2;go_ret;rw[ur.out,HN.out];exact⟨rfl,yy.out⟩
   obtain⟨F,rfl⟩:∃F:bx,f=(F:bp):=⟨f.toNat,by omega⟩
   rw[cE zr,cP] at vf
   by_cases zv:F<m.ss.length
   rotate_left
   ·have ur:cm (R=15):=by unfold cm;rw[vf,my (by omega)]
    have B6:(m.ss.length:bp)<=(F:bp):=by omega
    clear q hE vf hB D uc HV hf;go_wp2;go_ret;rw[ur.out,HN.out];exact⟨rfl,yy.out⟩
   have B6:(F:bp)<(m.ss.length:bp):=by omega
   obtain⟨st,hst⟩:∃s,m.ss[F]?=tB s:=⟨_,am zv⟩
   rw[hst,vu] at vf;obtain⟨sb,so,An,AW,A0⟩:=xt.out.mo.srow (by intro e;rw[e] at zv;simp at zv);rw[An] at m0;obtain⟨dq,vc⟩:=zE (((xd.ptr,xd.tgt):Ty)==(tE,st.s.nm));have AT:∀w,(gE 10000 32 (tW #[tU xd.ptr,tM xd.tgt]) (tW #[tU tE,tM st.s.nm])).run ac w= .ok dq w:=λw=>by rw[dH,vc]
   have ur:cm (R=bM dq 7):=by unfold cm;rw[vf,<-vc]
   have q0:∀p:BW wc,p.w.cell? ⟨N+1,2,tD⟩=tB (tP (tB ⟨uv,ux,tD⟩) g.vs.length g.c.varsC):=λp=>(va.out p).g2;have q1:∀p:BW wc,p.w.cell? ⟨N+2,4,tD⟩=tB (Z U (F:bp)):=λp=>by rw[<-hf];exact(va.out p).i4
   have q2:∀p:BW wc,p.w.cell? ⟨N,0,tD⟩=tB (tP (tB ⟨sb,so,tD⟩) m.ss.length m.sC):=λp=>by rw[<-An];exact(va.out p).m0
   have q3:∀p:BW wc,p.w.cell? ⟨sb,so+F*4,tD⟩=tB (tM st.s.nm):=λp=>by
    have yb:=vh.out p.w (J.out p);rw[HN.out] at AW;rw[yb.cell (p:=⟨sb,_,tD⟩) (show sb<N by omega)];exact A0 F st hst 0 _ rfl
   have q4:∀p:BW wc,p.w.cell? ⟨uv,ux+kd*3,tD⟩=tB (tU xd.ptr):=λp=>(wk.out p.w (J.out p)).1;have q5:∀p:BW wc,p.w.cell? ⟨uv,ux+kd*3+1,tD⟩=tB (tM xd.tgt):=λp=>(wk.out p.w (J.out p)).2;clear vc vu vf hf hst An AW A0;simp only[rh];rw[zd];clear q hE hB D uc HV;cases dq
   all_goals
    go_wp2_with fail
    clear i0 g2 i4 m0 d0 d1;refine zQ ?_
    repeat (go_big_quiet_step (first|(go_at_call 51;exact aW (xj.out _ _ _))))
    refine eh ?_;rintro _ ⟨p,rfl⟩;have xl:=zH (vh.out p.w (J.out p));clear q0 q1 q2 q3 q4 q5;go_wp2;go_ret;rw[ur.out,HN.out];exact⟨rfl,xl.out⟩
  ·
   have ew:wD=tG:=by rw[<-yp.out,q];decide
   subst ew;have vj:bR=tE:=by simpa using hB
   have zc:isVar g.vs.length i.a=tE:=fM (by rw[xp.out];exact vj) (by rw[q];decide);have hE:=eG HR xo xr (by rw[vj];simp);have i0:=D.i0;rw[q] at i0;have g7:=D.g7;have g2:=D.g2;have i2:=D.i2;obtain⟨ka,wl,ws,xa,wx,BY,yd,vp,vq⟩:=HV.out i.a zc;have xf:=zH vq;obtain⟨a0,a1⟩:=vq wc ud;clear vq;have B4:(ka:bp)<(g.vs.length:bp):=by omega
   subst yd;rw[wx] at i2;have J:cm (∀p:BW wc,bh (N+3) W1 p.w):=λp=>ud.trans (p.h.mono (by have:=ud.size;rw[vd.out] at this;exact this));have va:cm (∀p:BW wc,Bx m g i (tB ⟨wl,ws,tD⟩) N p.w):=λp=>uc.out p.w (J.out p);have xj:cm (∀(p:BW wc) b f,zP 51 #[tU b,Z U f] p.w (Z U (bM (!b) f))):=λp b f=>bi b f p.w;obtain⟨dq,vc⟩:=zE (((xa.ptr,xa.tgt):Ty)==(g.c.rp,g.c.rto));have AT:∀w,(gE 10000 32 (tW #[tU xa.ptr,tM xa.tgt]) (tW #[tU g.c.rp,tM g.c.rto])).run ac w= .ok dq w:=λw=>by rw[dH,vc]
   have ur:cm (R=bM dq 7):=by unfold cm;rw[hE,vp,<-vc];simp only[q];simp[Fn.ret]
   have q0:∀p:BW wc,p.w.cell? ⟨N+1,2,tD⟩=tB (tP (tB ⟨wl,ws,tD⟩) g.vs.length g.c.varsC):=λp=>(va.out p).g2;have q1:∀p:BW wc,p.w.cell? ⟨N+2,2,tD⟩=tB (Z U (ka:bp)):=λp=>by rw[<-wx];exact(va.out p).i2
   have q2:∀p:BW wc,p.w.cell? ⟨wl,ws+ka*3,tD⟩=tB (tU xa.ptr):=λp=>(xf.out p.w (J.out p)).1;have q3:∀p:BW wc,p.w.cell? ⟨wl,ws+ka*3+1,tD⟩=tB (tM xa.tgt):=λp=>(xf.out p.w (J.out p)).2;have q4:∀p:BW wc,p.w.cell? ⟨N+1,3,tD⟩=tB (tU g.c.rp):=λp=>(va.out p).g3;have q5:∀p:BW wc,p.w.cell? ⟨N+1,3+1,tD⟩=tB (tM g.c.rto):=λp=>(va.out p).g4;clear vc vp;clear q hE hB D uc HV;cases dq
   all_goals
    go_wp2_with fail
    clear i0 g2 i2 a0 a1;refine zQ ?_
    repeat (go_big_quiet_step (first|(go_at_call 51;exact aW (xj.out _ _ _))))
    refine eh ?_;rintro _ ⟨p,rfl⟩;have xl:=zH (vh.out p.w (J.out p));clear q0 q1 q2 q3 q4 q5;go_wp2;go_ret;rw[ur.out,HN.out];exact⟨rfl,xl.out⟩
theorem vJ (m:Mo)(g:Fn)(i:Ins)(w:World)(h:oJ w m g)(hi:i.args_in w)(Ax:i.args.length<=40)(AD:∀v,isVar g.vs.length v=tE->m.known (az g.vs v)=tE)(A:i.op=7\/i.op=8\/i.op=10\/i.op=11):
  zP 49 #[tW m.cells,tW g.cells,tW i.cells] w (Z U (aD m g i)):=by
 obtain⟨ao,N,W1,hN,AE,yb,HN,vd,we,A5,va,yd,HJ,B9,ye,AF,AG,AH⟩:=fU h hi Ax;obtain⟨wD,bD,bR,o1,o2,wg,yi,vc,xp,yk,wi⟩:=gq (g:=g) (i:=i) (by omega) (by omega);rw[we.out];simp only[Mo.cells,gc,Ins.cells] at yb⊢;have AI:=zH yb;obtain⟨R,hR⟩:=zE (aD m g i);rw[hR];have HR:=zH hR;have xr:=zH AD;have AK:=zH h;have A6:=zH A;have AM:=va.out W1 (aq _ _);have AN:=zH AM.ir;clear h hi Ax AD yb hR A;have AS:W1.heap.size=N+3:=AE;go_enter func49,tp
 go_upto_region 1 with(fail)
 rw[AI.out];clear AI AM hN
 go_upto_region 2 with(first
  |(refine ci rfl 42 _ rfl (N+2) rfl 42 _ (0,0) _ AN.out cJ rfl (by kernel_rfl) ?_)
  |(go_at_call 86;refine(AF.out _).mono ?_;rintro e w2 ⟨rfl,vy⟩;have AT:=zH vy;clear vy))
 have vy:bh (N+3) W1 w2:=by have:=AT.out;rwa [AS] at this
 have i0:=(va.out w2 vy).i0;have xt:=zH vy;clear vy AS AE AT;rw[yk.out]
 go_upto_region 4 with(fail)
 clear i0 o1 o2;obtain⟨S,hS⟩:∃S:World->Prop,S=bh (N+3) W1:=⟨_,rfl⟩
 have D:cm (∀w',S w'↔bh (N+3) W1 w'):=λw'=>by rw[hS]
 have xF:cm (∀w',S w'->∀j u,(#[tM g.c.nm,Z U g.c.par,tP ao g.vs.length g.c.varsC,tU g.c.rp,tM g.c.rto,Z U g.c.rcl,tP g.c.fromA g.c.nfrom g.c.fromC,tP g.c.insA g.c.ins.length g.c.insC]:da cd).toList[j]?=tB u->w'.cell? ((⟨N+1,0,tD⟩:Addr).add j)=tB u):=λw' h=>dI (va.out w' ((D.out w').1 h)).gr;have yp:cm (∀w',S w'->∀j u,(#[Z U i.op,Z U i.d,Z U i.a,Z U i.b,Z U i.f,Z U i.n,tM i.sign,i.argsV,i.modeV,Z U i.tI,Z U i.els,Z U i.ln,Z U i.cl]:da cd).toList[j]?=tB u->w'.cell? ((⟨N+1+1,0,tD⟩:Addr).add j)=tB u):=λw' h=>dI (va.out w' ((D.out w').1 h)).ir;have uv:cm (∀w',S w'->True/\True):=λ_ _=>⟨trivial,trivial⟩
 clear hS
 go_cut [7,37] from 23 to 37 (λd b wc=>d= Z U (if wD=tE then(i.d,tE) else(0,tG)).1/\b= tU (!(bR&&(!wD||bD)))/\bh (N+3) W1 wc)
 case first=>
  have Bk:S w2.drew:=(D.out _).2 xt.out.drew;cases wD with
  |true=>
   simp only[rh];refine ak 5 S (by kernel_rfl) ?_;refine zT 0 rfl uv.out ?_
   try go_simp
   refine zT 1 rfl uv.out ?_
   try go_simp
   refine zL 2 rfl 38 ⟨N+1,0,tD⟩ xF.out cQ ?_
   try go_simp
   refine zT 3 rfl uv.out ?_
   try go_simp
   refine zO 4 rfl λK' hK=> ?_;go_simp;have xT:∀c,S (w2.alloc c).drew:=λc=>(D.out _).2 ((xt.out.alloc (by have:=xt.out.size;rw[vd.out] at this;exact this) _).drew);have AW:aA (w2.alloc (ua #[Z U i.d] 3)).drew (tB ⟨w2.heap.size,0,tD⟩) [i.d]:=aA.one w2 i.d rfl;refine hK _ _ (xT _) ?_;clear hK
   try go_simp
   refine zK rfl λK' hK=> ?_;go_simp;go_at_call 87;refine(ye.out _ (tB ⟨w2.heap.size,0,tD⟩) 1 [i.d] (by simp) AW).mono ?_;rintro e w5 ⟨rfl,A0⟩;have Bm:S w5:=(D.out _).2 (((D.out _).1 (xT _)).trans (A0.mono (by have:=((D.out _).1 (xT (ua #[Z U i.d] 3))).size;rw[vd.out] at this;exact this)));rw[yi.out];refine hK _ _ ?_;clear hK A0 xT Bk AW
   try go_simp
   cases bD with
   |false=>
    refine aZ 6 rfl (by kernel_rfl) (by kernel_rfl) (·=w5) rfl ?_;dsimp only[iv]
    repeat (go_big_quiet_step (fail))
    refine eh ?_;rintro _ rfl;go_wp2
    go_meet
    case rel=>exact⟨rfl,by simp,(D.out _).1 Bm⟩
   |true=>
    refine eX (S:=S) (k:=12) _ _ _ _ ?_;refine zT 6 rfl uv.out ?_
    try go_simp
    refine zT 7 rfl uv.out ?_
    try go_simp
    refine zT 8 rfl uv.out ?_
    try go_simp
    refine zL 9 rfl 38 ⟨N+1,0,tD⟩ xF.out cQ ?_
    try go_simp
    refine zL 10 rfl 42 ⟨N+1+1,0,tD⟩ yp.out cJ ?_
    try go_simp
    refine zO 11 rfl λK' hK=> ?_;go_simp;go_at_call 88;refine(AG.out _ ((D.out _).1 (by assumption))).mono ?_;rintro e w7 ⟨ro,rc,rfl,wj,wk⟩;have vf:S w7:=(D.out _).2 (((D.out _).1 (by assumption)).trans (wk.mono (by have:=((D.out _).1 (by assumption)).size;rw[vd.out] at this;exact this)));have wl:=wj.at_;refine hK _ _ vf ?_;clear hK wj wk
    try go_simp
    refine zK rfl λK' hK=> ?_;go_simp;go_at_call 87;refine(ye.out _ _ _ _ AH.out wl).mono ?_;rintro e w8 ⟨rfl,ws⟩;have yq:=((D.out _).1 vf).trans (ws.mono (by have:=((D.out _).1 vf).size;rw[vd.out] at this;exact this));rw[vc.out];refine hK _ _ ?_;clear hK wl ws
    try go_simp
    refine aZ 13 rfl (by kernel_rfl) (by kernel_rfl) (·=w8) rfl ?_;dsimp only[iv]
    repeat (go_big_quiet_step (fail))
    refine eh ?_;rintro _ rfl;go_wp2
    go_meet
    case rel=>exact⟨rfl,by simp,yq⟩
  |false=>
    simp only[pj,if_false];refine ak 12 S (by kernel_rfl) ?_;refine zT 0 rfl uv.out ?_
    try go_simp
    refine zT 1 rfl uv.out ?_
    try go_simp
    refine zN 2 rfl ?_
    try go_simp
    refine zN 3 rfl ?_
    try go_simp
    refine zN 4 rfl ?_
    try go_simp
    refine zN 5 rfl ?_
    try go_simp
    refine zN 6 rfl ?_
    try go_simp
    refine zT 7 rfl uv.out ?_
    try go_simp
    refine zT 8 rfl uv.out ?_
    try go_simp
    refine zL 9 rfl 38 ⟨N+1,0,tD⟩ xF.out cQ ?_
    try go_simp
    refine zL 10 rfl 42 ⟨N+1+1,0,tD⟩ yp.out cJ ?_
    try go_simp
    refine zO 11 rfl λK' hK=> ?_;go_simp;go_at_call 88;refine(AG.out _ ((D.out _).1 (by assumption))).mono ?_;rintro e w7 ⟨ro,rc,rfl,wj,wk⟩;have vf:S w7:=(D.out _).2 (((D.out _).1 (by assumption)).trans (wk.mono (by have:=((D.out _).1 (by assumption)).size;rw[vd.out] at this;exact this)));have wl:=wj.at_;refine hK _ _ vf ?_;clear hK wj wk
    try go_simp
    refine zK rfl λK' hK=> ?_;go_simp;go_at_call 87;refine(ye.out _ _ _ _ AH.out wl).mono ?_;rintro e w8 ⟨rfl,ws⟩;have yq:=((D.out _).1 vf).trans (ws.mono (by have:=((D.out _).1 vf).size;rw[vd.out] at this;exact this));rw[vc.out];refine hK _ _ ?_;clear hK wl ws
    try go_simp
    refine aZ 13 rfl (by kernel_rfl) (by kernel_rfl) (·=w8) rfl ?_;dsimp only[iv]
    repeat (go_big_quiet_step (fail))
    refine eh ?_;rintro _ rfl;go_wp2
    go_meet
    case rel=>exact⟨rfl,by simp,yq⟩
 case rest=>
  obtain⟨rfl,rfl,J⟩:=hcut;have By:=zH (yd.out wc J);have q:=va.out wc J;have HV:cm (∀v,isVar g.vs.length v=tE->∃(k b wx:bx) (x:Vr),v=(k:bp)/\k<g.vs.length/\ao=tB ⟨b,wx,tD⟩/\az g.vs v=(x.ptr,x.tgt)/\∀W,bh (N+3) W1 W->W.cell? ⟨b,wx+k*3,tD⟩=tB (tU x.ptr)/\W.cell? ⟨b,wx+k*3+1,tD⟩=tB (tM x.tgt)):=λv hv=>by
   obtain⟨k,b,wx,x,q1,q2,q3,q4,q5,q6,q7⟩:=dU AK.out.vars hv;refine⟨k,b,wx,x,q1,q2,by rw[<-A5.out];exact q3,q5,λW hW=> ?_⟩;have A2:=yd.out W hW;rw[HN.out] at q4;exact⟨by rw[A2.cell (p:=⟨b,_,tD⟩) (show b<N by omega)];exact q6,by rw[A2.cell (p:=⟨b,_,tD⟩) (show b<N by omega)];exact q7⟩
  have BE:=AK.out.vl;unfold dT at BE;have HO:cm (∀W b f,zP 51 #[tU b,Z U f] W (Z U (bM (!b) f))):=λW b f=>bi b f W;have ya:cm (∀W W':World,bh (N+3) W1 W->bh W.heap.size W W'->bh N w W'):=λW W' h1 h2=>yd.out W' (h1.trans (h2.mono (by have:=h1.size;rw[vd.out] at this;exact this)));obtain⟨B,hB⟩:=zE (bR&&(!wD||bD));rw[hB];cases B with
  |false=>
   have xf:cm (R=15):=by unfold cm;rw[<-HR.out];unfold aD;rw[cE wg.out,cR (by rw[wi.out];exact hB)]
   clear q HV hB;obtain⟨wv,A4⟩:=zE ((if wD=tE then(i.d,tE) else(0,tG)):bp×nj);rw[A4,qT];clear A4 yk;go_wp2;go_ret;rw[xf.out,HN.out];exact⟨rfl,By.out⟩
  |true=>
  rw[sy];clear D xF yp uv xt yk AF AN;rcases A6.out with A|A|A|A
  ·
   have ew:wD=tE:=by rw[<-xp.out,A];decide
   subst ew;have ur:bR=tE:=(by simpa using hB:_/\_).1;have xj:bD=tE:=(by simpa using hB:_/\_).2;have xl:isVar g.vs.length i.d=tE:=by have:=yi.out;rw[xj] at this;simpa[aJ] using this
   have uc:isVar g.vs.length i.a=tE:=fM (by rw[vc.out];exact ur) (by rw[A];decide);have hE:=eG HR wg wi (by rw[ur,xj];simp);have i0:=q.i0;rw[A] at i0;have g7:=q.g7;have g2:=q.g2;have i2:=q.i2;obtain⟨ka,yr,yv,xa,vh,vi,vj,vm,ud⟩:=HV.out i.a uc;have yy:=zH ud;obtain⟨a0,a1⟩:=ud wc J;clear ud;have vp:(ka:bp)<(g.vs.length:bp):=by omega
   obtain⟨kd,BT,BY,xd,yW,zc,zd,zj,vq⟩:=HV.out i.d xl;have B4:=zH vq;obtain⟨d0,d1⟩:=vq wc J;clear vq;have zp:(kd:bp)<(g.vs.length:bp):=by omega
   have ue:R=bV m g.vs i i.d tG:=by rw[hE];simp[A,ay]
   have xf:=zH ue;have G:=xZ m g i wc (HJ.out wc J) A uc xl (xr.out i.a uc);rw[<-ue,we.out] at G;simp only[Mo.cells,gc,Ins.cells] at G;have vr:=zH G;have m0:=q.m0;have m1:=q.m1;have HG:=zH q.gr;have HI:=zH q.ir;clear ue G a0 a1 d0 d1 vh vi vj vm vp yW zc zd zj zp;clear A hE hB q va HV g2 i2
   go_wp2_with (first
    |(refine ci rfl 38 _ rfl (N+1) rfl 38 _ (0,0) _ HG.out cQ rfl (by kernel_rfl) ?_)
    |(refine ci rfl 42 _ rfl (N+2) rfl 42 _ (0,0) _ HI.out cJ rfl (by kernel_rfl) ?_)
    |(go_at_call 90;refine vr.out.mono ?_;rintro e w9 ⟨rfl,ux⟩;have vu:=zH (ya.out _ _ J ux);clear ux))
   go_ret;rw[HN.out];exact⟨rfl,vu.out⟩
  ·
   have ew:wD=tG:=by rw[<-xp.out,A];decide
   subst ew;have ur:bR=tE:=by simpa using hB
   have uc:isVar g.vs.length i.a=tE:=fM (by rw[vc.out];exact ur) (by rw[A];decide);have xo:isVar g.vs.length i.b=tE:=yg (by rw[vc.out];exact ur) (by rw[A];decide);have hE:=eG HR wg wi (by rw[ur];simp);have i0:=q.i0;rw[A] at i0;have g7:=q.g7;have g2:=q.g2;have i2:=q.i2;have i3:=q.i3;obtain⟨ka,yr,yv,xa,vh,vi,vj,vm,ud⟩:=HV.out i.a uc;have yy:=zH ud;obtain⟨a0,a1⟩:=ud wc J;clear ud;have vp:(ka:bp)<(g.vs.length:bp):=by omega
   obtain⟨kb,B5,B6,xb,zr,zv,An,As,vx⟩:=HV.out i.b xo;have B8:=zH vx;obtain⟨b0,b1⟩:=vx wc J;clear vx;have At:(kb:bp)<(g.vs.length:bp):=by omega
   have ue:R=bV m g.vs i i.b tG:=by rw[hE];simp[A,ay]
   have xf:=zH ue;have G:=yc m g i wc (HJ.out wc J) A uc xo (xr.out i.a uc);rw[<-ue,we.out] at G;simp only[Mo.cells,gc,Ins.cells] at G;have vr:=zH G;have m0:=q.m0;have m1:=q.m1;have HG:=zH q.gr;have HI:=zH q.ir;clear ue G a0 a1 b0 b1 vh vi vj vm vp zr zv An As At;clear A hE hB q va HV g2 i2 i3
   go_wp2_with (first
    |(refine ci rfl 38 _ rfl (N+1) rfl 38 _ (0,0) _ HG.out cQ rfl (by kernel_rfl) ?_)
    |(refine ci rfl 42 _ rfl (N+2) rfl 42 _ (0,0) _ HI.out cJ rfl (by kernel_rfl) ?_)
    |(go_at_call 90;refine vr.out.mono ?_;rintro e w9 ⟨rfl,ux⟩;have vu:=zH (ya.out _ _ J ux);clear ux))
   go_ret;rw[HN.out];exact⟨rfl,vu.out⟩
  ·
   have ew:wD=tE:=by rw[<-xp.out,A];decide
   subst ew;have ur:bR=tE:=(by simpa using hB:_/\_).1;have xj:bD=tE:=(by simpa using hB:_/\_).2;have xl:isVar g.vs.length i.d=tE:=by have:=yi.out;rw[xj] at this;simpa[aJ] using this
   have uc:isVar g.vs.length i.a=tE:=fM (by rw[vc.out];exact ur) (by rw[A];decide);have hE:=eG HR wg wi (by rw[ur,xj];simp);have i0:=q.i0;rw[A] at i0;have g7:=q.g7;have g2:=q.g2;have i2:=q.i2;obtain⟨ka,yr,yv,xa,vh,vi,vj,vm,ud⟩:=HV.out i.a uc;have yy:=zH ud;obtain⟨a0,a1⟩:=ud wc J;clear ud;have vp:(ka:bp)<(g.vs.length:bp):=by omega
   obtain⟨kd,BT,BY,xd,yW,zc,zd,zj,vq⟩:=HV.out i.d xl;have B4:=zH vq;obtain⟨d0,d1⟩:=vq wc J;clear vq;have zp:(kd:bp)<(g.vs.length:bp):=by omega
   have ue:R=bV m g.vs i i.d tE:=by rw[hE];simp[A,ay]
   have xf:=zH ue;have G:=vD m g i wc (HJ.out wc J) A uc xl (xr.out i.a uc);rw[<-ue,we.out] at G;simp only[Mo.cells,gc,Ins.cells] at G;have vr:=zH G;have m0:=q.m0;have m1:=q.m1;have HG:=zH q.gr;have HI:=zH q.ir;clear ue G a0 a1 d0 d1 vh vi vj vm vp yW zc zd zj zp;clear A hE hB q va HV g2 i2
   go_wp2_with (first
    |(refine ci rfl 38 _ rfl (N+1) rfl 38 _ (0,0) _ HG.out cQ rfl (by kernel_rfl) ?_)
    |(refine ci rfl 42 _ rfl (N+2) rfl 42 _ (0,0) _ HI.out cJ rfl (by kernel_rfl) ?_)
    |(go_at_call 90;refine vr.out.mono ?_;rintro e w9 ⟨rfl,ux⟩;have vu:=zH (ya.out _ _ J ux);clear ux))
   go_ret;rw[HN.out];exact⟨rfl,vu.out⟩
  ·
   have ew:wD=tG:=by rw[<-xp.out,A];decide
   subst ew;have ur:bR=tE:=by simpa using hB
   have uc:isVar g.vs.length i.a=tE:=fM (by rw[vc.out];exact ur) (by rw[A];decide);have xo:isVar g.vs.length i.b=tE:=yg (by rw[vc.out];exact ur) (by rw[A];decide);have hE:=eG HR wg wi (by rw[ur];simp);have i0:=q.i0;rw[A] at i0;have g7:=q.g7;have g2:=q.g2;have i2:=q.i2;have i3:=q.i3;obtain⟨ka,yr,yv,xa,vh,vi,vj,vm,ud⟩:=HV.out i.a uc;have yy:=zH ud;obtain⟨a0,a1⟩:=ud wc J;clear ud;have vp:(ka:bp)<(g.vs.length:bp):=by omega
   obtain⟨kb,B5,B6,xb,zr,zv,An,As,vx⟩:=HV.out i.b xo;have B8:=zH vx;obtain⟨b0,b1⟩:=vx wc J;clear vx;have At:(kb:bp)<(g.vs.length:bp):=by omega
   have ue:R=bV m g.vs i i.b tE:=by rw[hE];simp[A,ay]
   have xf:=zH ue;have G:=vE m g i wc (HJ.out wc J) A uc xo (xr.out i.a uc);rw[<-ue,we.out] at G;simp only[Mo.cells,gc,Ins.cells] at G;have vr:=zH G;have m0:=q.m0;have m1:=q.m1;have HG:=zH q.gr;have HI:=zH q.ir;clear ue G a0 a1 b0 b1 vh vi vj vm vp zr zv An As At;clear A hE hB q va HV g2 i2 i3
   go_wp2_with (first
    |(refine ci rfl 38 _ rfl (N+1) rfl 38 _ (0,0) _ HG.out cQ rfl (by kernel_rfl) ?_)
    |(refine ci rfl 42 _ rfl (N+2) rfl 42 _ (0,0) _ HI.out cJ rfl (by kernel_rfl) ?_)
    |(go_at_call 90;refine vr.out.mono ?_;rintro e w9 ⟨rfl,ux⟩;have vu:=zH (ya.out _ _ J ux);clear ux))
   go_ret;rw[HN.out];exact⟨rfl,vu.out⟩
theorem vK (m:Mo)(g:Fn)(i:Ins)(w:World)(h:oJ w m g)(hi:i.args_in w)(vp:i.args.length<=40)(yv:∀v,isVar g.vs.length v=tE->m.known (az g.vs v)=tE)(J:i.op=15):
  zP 49 #[tW m.cells,tW g.cells,tW i.cells] w (Z U (aD m g i)):=by
 obtain⟨ao,N,W1,hN,wj,vq,HN,uc,wk,yy,ue,vr,HJ,yW,vu,wl,ws,wx⟩:=fU h hi vp;obtain⟨wD,bD,bR,o1,o2,xf,xj,vx,zc,vy,xl⟩:=gq (g:=g) (i:=i) (by omega) (by omega);rw[wk.out];simp only[Mo.cells,gc,Ins.cells] at vq⊢;have xo:=zH vq;obtain⟨R,hR⟩:=zE (aD m g i);rw[hR];have HR:=zH hR;have zd:=zH vp;have xp:=zH h;have zj:=zH J;have xr:=ue.out W1 (aq _ _);have xt:=zH xr.ir;clear h hi vp yv vq hR J;have xF:W1.heap.size=N+3:=wj;go_enter func49,tp
 go_upto_region 1 with(fail)
 rw[xo.out];clear xo xr hN
 go_upto_region 2 with(first
  |(refine ci rfl 42 _ rfl (N+2) rfl 42 _ (0,0) _ xt.out cJ rfl (by kernel_rfl) ?_)
  |(go_at_call 86;refine(wl.out _).mono ?_;rintro e w2 ⟨rfl,ur⟩;have xT:=zH ur;clear ur))
 have ur:bh (N+3) W1 w2:=by have:=xT.out;rwa [xF] at this
 have i0:=(ue.out w2 ur).i0;have vh:=zH ur;clear ur xF wj xT;rw[vy.out]
 go_upto_region 4 with(fail)
 clear i0 o1 o2;obtain⟨S,hS⟩:∃S:World->Prop,S=bh (N+3) W1:=⟨_,rfl⟩
 have q:cm (∀w',S w'↔bh (N+3) W1 w'):=λw'=>by rw[hS]
 have vi:cm (∀w',S w'->∀j u,(#[tM g.c.nm,Z U g.c.par,tP ao g.vs.length g.c.varsC,tU g.c.rp,tM g.c.rto,Z U g.c.rcl,tP g.c.fromA g.c.nfrom g.c.fromC,tP g.c.insA g.c.ins.length g.c.insC]:da cd).toList[j]?=tB u->w'.cell? ((⟨N+1,0,tD⟩:Addr).add j)=tB u):=λw' h=>dI (ue.out w' ((q.out w').1 h)).gr;have we:cm (∀w',S w'->∀j u,(#[Z U i.op,Z U i.d,Z U i.a,Z U i.b,Z U i.f,Z U i.n,tM i.sign,i.argsV,i.modeV,Z U i.tI,Z U i.els,Z U i.ln,Z U i.cl]:da cd).toList[j]?=tB u->w'.cell? ((⟨N+1+1,0,tD⟩:Addr).add j)=tB u):=λw' h=>dI (ue.out w' ((q.out w').1 h)).ir;have D:cm (∀w',S w'->True/\True):=λ_ _=>⟨trivial,trivial⟩
 clear hS
 go_cut [7,37] from 23 to 37 (λd b wc=>d= Z U (if wD=tE then(i.d,tE) else(0,tG)).1/\b= tU (!(bR&&(!wD||bD)))/\bh (N+3) W1 wc)
 case first=>
  have zp:S w2.drew:=(q.out _).2 vh.out.drew;cases wD with
  |true=>
   simp only[rh];refine ak 5 S (by kernel_rfl) ?_;refine zT 0 rfl D.out ?_
   try go_simp
   refine zT 1 rfl D.out ?_
   try go_simp
   refine zL 2 rfl 38 ⟨N+1,0,tD⟩ vi.out cQ ?_
   try go_simp
   refine zT 3 rfl D.out ?_
   try go_simp
   refine zO 4 rfl λK' A=> ?_;go_simp;have vj:∀c,S (w2.alloc c).drew:=λc=>(q.out _).2 ((vh.out.alloc (by have:=vh.out.size;rw[uc.out] at this;exact this) _).drew);have ya:aA (w2.alloc (ua #[Z U i.d] 3)).drew (tB ⟨w2.heap.size,0,tD⟩) [i.d]:=aA.one w2 i.d rfl;refine A _ _ (vj _) ?_;clear A
   try go_simp
   refine zK rfl λK' A=> ?_;go_simp;go_at_call 87;refine(vu.out _ (tB ⟨w2.heap.size,0,tD⟩) 1 [i.d] (by simp) ya).mono ?_;rintro e w5 ⟨rfl,yb⟩;have zr:S w5:=(q.out _).2 (((q.out _).1 (vj _)).trans (yb.mono (by have:=((q.out _).1 (vj (ua #[Z U i.d] 3))).size;rw[uc.out] at this;exact this)));rw[xj.out];refine A _ _ ?_;clear A yb vj zp ya
   try go_simp
   cases bD with
   |false=>
    refine aZ 6 rfl (by kernel_rfl) (by kernel_rfl) (·=w5) rfl ?_;dsimp only[iv]
    repeat (go_big_quiet_step (fail))
    refine eh ?_;rintro _ rfl;go_wp2
    go_meet
    case rel=>exact⟨rfl,by simp,(q.out _).1 zr⟩
   |true=>
    refine eX (S:=S) (k:=12) _ _ _ _ ?_;refine zT 6 rfl D.out ?_
    try go_simp
    refine zT 7 rfl D.out ?_
    try go_simp
    refine zT 8 rfl D.out ?_
    try go_simp
    refine zL 9 rfl 38 ⟨N+1,0,tD⟩ vi.out cQ ?_
    try go_simp
    refine zL 10 rfl 42 ⟨N+1+1,0,tD⟩ we.out cJ ?_
    try go_simp
    refine zO 11 rfl λK' A=> ?_;go_simp;go_at_call 88;refine(ws.out _ ((q.out _).1 (by assumption))).mono ?_;rintro e w7 ⟨ro,rc,rfl,ux,va⟩;have ud:S w7:=(q.out _).2 (((q.out _).1 (by assumption)).trans (va.mono (by have:=((q.out _).1 (by assumption)).size;rw[uc.out] at this;exact this)));have vc:=ux.at_;refine A _ _ ud ?_;clear A ux va
    try go_simp
    refine zK rfl λK' A=> ?_;go_simp;go_at_call 87;refine(vu.out _ _ _ _ wx.out vc).mono ?_;rintro e w8 ⟨rfl,vd⟩;have wg:=((q.out _).1 ud).trans (vd.mono (by have:=((q.out _).1 ud).size;rw[uc.out] at this;exact this));rw[vx.out];refine A _ _ ?_;clear A vc vd
    try go_simp
    refine aZ 13 rfl (by kernel_rfl) (by kernel_rfl) (·=w8) rfl ?_;dsimp only[iv]
    repeat (go_big_quiet_step (fail))
    refine eh ?_;rintro _ rfl;go_wp2
    go_meet
    case rel=>exact⟨rfl,by simp,wg⟩
  |false=>
    simp only[pj,if_false];refine ak 12 S (by kernel_rfl) ?_;refine zT 0 rfl D.out ?_
    try go_simp
    refine zT 1 rfl D.out ?_
    try go_simp
    refine zN 2 rfl ?_
    try go_simp
    refine zN 3 rfl ?_
    try go_simp
    refine zN 4 rfl ?_
    try go_simp
    refine zN 5 rfl ?_
    try go_simp
    refine zN 6 rfl ?_
    try go_simp
    refine zT 7 rfl D.out ?_
    try go_simp
    refine zT 8 rfl D.out ?_
    try go_simp
    refine zL 9 rfl 38 ⟨N+1,0,tD⟩ vi.out cQ ?_
    try go_simp
    refine zL 10 rfl 42 ⟨N+1+1,0,tD⟩ we.out cJ ?_
    try go_simp
    refine zO 11 rfl λK' A=> ?_;go_simp;go_at_call 88;refine(ws.out _ ((q.out _).1 (by assumption))).mono ?_;rintro e w7 ⟨ro,rc,rfl,ux,va⟩;have ud:S w7:=(q.out _).2 (((q.out _).1 (by assumption)).trans (va.mono (by have:=((q.out _).1 (by assumption)).size;rw[uc.out] at this;exact this)));have vc:=ux.at_;refine A _ _ ud ?_;clear A ux va
    try go_simp
    refine zK rfl λK' A=> ?_;go_simp;go_at_call 87;refine(vu.out _ _ _ _ wx.out vc).mono ?_;rintro e w8 ⟨rfl,vd⟩;have wg:=((q.out _).1 ud).trans (vd.mono (by have:=((q.out _).1 ud).size;rw[uc.out] at this;exact this));rw[vx.out];refine A _ _ ?_;clear A vc vd
    try go_simp
    refine aZ 13 rfl (by kernel_rfl) (by kernel_rfl) (·=w8) rfl ?_;dsimp only[iv]
    repeat (go_big_quiet_step (fail))
    refine eh ?_;rintro _ rfl;go_wp2
    go_meet
    case rel=>exact⟨rfl,by simp,wg⟩
 case rest=>
  obtain⟨rfl,rfl,uv⟩:=hcut;have zv:=zH (vr.out wc uv);have G:=ue.out wc uv;have HV:cm (∀v,isVar g.vs.length v=tE->∃(k b vf:bx) (x:Vr),v=(k:bp)/\k<g.vs.length/\ao=tB ⟨b,vf,tD⟩/\az g.vs v=(x.ptr,x.tgt)/\∀W,bh (N+3) W1 W->W.cell? ⟨b,vf+k*3,tD⟩=tB (tU x.ptr)/\W.cell? ⟨b,vf+k*3+1,tD⟩=tB (tM x.tgt)):=λv hv=>by
   obtain⟨k,b,vf,x,q1,q2,q3,q4,q5,q6,q7⟩:=dU xp.out.vars hv;refine⟨k,b,vf,x,q1,q2,by rw[<-yy.out];exact q3,q5,λW hW=> ?_⟩;have yd:=vr.out W hW;rw[HN.out] at q4;exact⟨by rw[yd.cell (p:=⟨b,_,tD⟩) (show b<N by omega)];exact q6,by rw[yd.cell (p:=⟨b,_,tD⟩) (show b<N by omega)];exact q7⟩
  have An:=xp.out.vl;unfold dT at An;have HO:cm (∀W b f,zP 51 #[tU b,Z U f] W (Z U (bM (!b) f))):=λW b f=>bi b f W;have As:cm (∀W W':World,bh (N+3) W1 W->bh W.heap.size W W'->bh N w W'):=λW W' h1 h2=>vr.out W' (h1.trans (h2.mono (by have:=h1.size;rw[uc.out] at this;exact this)));obtain⟨B,hB⟩:=zE (bR&&(!wD||bD));rw[hB];cases B with
  |false=>
   have At:cm (R=15):=by unfold cm;rw[<-HR.out];unfold aD;rw[cE xf.out,cR (by rw[xl.out];exact hB)]
   clear G HV hB;obtain⟨wv,ye⟩:=zE ((if wD=tE then(i.d,tE) else(0,tG)):bp×nj);rw[ye,qT];clear ye vy;go_wp2;go_ret;rw[At.out,HN.out];exact⟨rfl,zv.out⟩
  |true=>
  rw[sy];clear q vi we D vh vy wl xt;have J:=zj.out
  ·
   have ew:wD=tE:=by rw[<-zc.out,J];decide
   subst ew;have yi:bR=tE:=(by simpa using hB:_/\_).1;have yk:bD=tE:=(by simpa using hB:_/\_).2;have yp:isVar g.vs.length i.d=tE:=by have:=xj.out;rw[yk] at this;simpa[aJ] using this
   have hE:=eG HR xf xl (by rw[yi,yk];simp);have i0:=G.i0;rw[J] at i0;have g7:=G.g7;have g2:=G.g2;obtain⟨kd,AK,AM,xd,Ax,AD,AE,AF,wi⟩:=HV.out i.d yp;have AN:=zH wi;obtain⟨d0,d1⟩:=wi wc uv;clear wi;have AG:(kd:bp)<(g.vs.length:bp):=by omega
   have yq:R=iG m g.vs i:=by rw[hE,cR J]
   have vm:=Aa m g i wc (HJ.out wc uv) (yW.out wc uv) (by have:=zd.out;unfold dT;omega) yp (BG (by rw[vx.out];exact yi) J);rw[<-yq,wk.out] at vm;simp only[Mo.cells,gc,Ins.cells] at vm;have AH:=zH vm;have m0:=G.m0;have m1:=G.m1;have HG:=zH G.gr;have HI:=zH G.ir;clear yq vm d0 d1 g2 Ax AD AE AF AG;clear J hE hB G ue HV
   go_wp2_with (first
    |(refine ci rfl 38 _ rfl (N+1) rfl 38 _ (0,0) _ HG.out cQ rfl (by kernel_rfl) ?_)
    |(refine ci rfl 42 _ rfl (N+2) rfl 42 _ (0,0) _ HI.out cJ rfl (by kernel_rfl) ?_)
    |(go_at_call 91;refine AH.out.mono ?_;rintro e w9 ⟨rfl,yr⟩;have AI:=zH (As.out _ _ uv yr);clear yr))
   go_ret;rw[HN.out];exact⟨rfl,AI.out⟩
theorem vL (m:Mo)(g:Fn)(i:Ins)(w:World)(h:oJ w m g)(hi:i.args_in w)(wj:i.args.length<=40)(yp:∀v,isVar g.vs.length v=tE->m.known (az g.vs v)=tE)(uc:i.op=17):
  zP 49 #[tW m.cells,tW g.cells,tW i.cells] w (Z U (aD m g i)):=by
 obtain⟨ao,N,W1,hN,wk,vq,HN,ud,yq,yr,ur,vr,HJ,Ax,vu,wl,ws,wx⟩:=fU h hi wj;obtain⟨wD,bD,bR,o1,o2,xf,yv,vx,yy,vy,xj⟩:=gq (g:=g) (i:=i) (by omega) (by omega);rw[yq.out];simp only[Mo.cells,gc,Ins.cells] at vq⊢;have xl:=zH vq;obtain⟨R,hR⟩:=zE (aD m g i);rw[hR];have HR:=zH hR;have xo:=zH h;have yW:=zH uc;have xp:=ur.out W1 (aq _ _);have xr:=zH xp.ir;clear h hi wj yp vq hR uc;have xt:W1.heap.size=N+3:=wk;go_enter func49,tp
 go_upto_region 1 with(fail)
 rw[xl.out];clear xl xp hN
 go_upto_region 2 with(first
  |(refine ci rfl 42 _ rfl (N+2) rfl 42 _ (0,0) _ xr.out cJ rfl (by kernel_rfl) ?_)
  |(go_at_call 86;refine(wl.out _).mono ?_;rintro e w2 ⟨rfl,uv⟩;have xF:=zH uv;clear uv))
 have uv:bh (N+3) W1 w2:=by have:=xF.out;rwa [xt] at this
 have i0:=(ur.out w2 uv).i0;have vi:=zH uv;clear uv xt wk xF;rw[vy.out]
 go_upto_region 4 with(fail)
 clear i0 o1 o2;obtain⟨S,hS⟩:∃S:World->Prop,S=bh (N+3) W1:=⟨_,rfl⟩
 have q:cm (∀w',S w'↔bh (N+3) W1 w'):=λw'=>by rw[hS]
 have vj:cm (∀w',S w'->∀j u,(#[tM g.c.nm,Z U g.c.par,tP ao g.vs.length g.c.varsC,tU g.c.rp,tM g.c.rto,Z U g.c.rcl,tP g.c.fromA g.c.nfrom g.c.fromC,tP g.c.insA g.c.ins.length g.c.insC]:da cd).toList[j]?=tB u->w'.cell? ((⟨N+1,0,tD⟩:Addr).add j)=tB u):=λw' h=>dI (ur.out w' ((q.out w').1 h)).gr;have we:cm (∀w',S w'->∀j u,(#[Z U i.op,Z U i.d,Z U i.a,Z U i.b,Z U i.f,Z U i.n,tM i.sign,i.argsV,i.modeV,Z U i.tI,Z U i.els,Z U i.ln,Z U i.cl]:da cd).toList[j]?=tB u->w'.cell? ((⟨N+1+1,0,tD⟩:Addr).add j)=tB u):=λw' h=>dI (ur.out w' ((q.out w').1 h)).ir;have G:cm (∀w',S w'->True/\True):=λ_ _=>⟨trivial,trivial⟩
 clear hS
 go_cut [7,37] from 23 to 37 (λd b wc=>d= Z U (if wD=tE then(i.d,tE) else(0,tG)).1/\b= tU (!(bR&&(!wD||bD)))/\bh (N+3) W1 wc)
 case first=>
  have zc:S w2.drew:=(q.out _).2 vi.out.drew;cases wD with
  |true=>
   simp only[rh];refine ak 5 S (by kernel_rfl) ?_;refine zT 0 rfl G.out ?_
   try go_simp
   refine zT 1 rfl G.out ?_
   try go_simp
   refine zL 2 rfl 38 ⟨N+1,0,tD⟩ vj.out cQ ?_
   try go_simp
   refine zT 3 rfl G.out ?_
   try go_simp
   refine zO 4 rfl λK' A=> ?_;go_simp;have vm:∀c,S (w2.alloc c).drew:=λc=>(q.out _).2 ((vi.out.alloc (by have:=vi.out.size;rw[ud.out] at this;exact this) _).drew);have xT:aA (w2.alloc (ua #[Z U i.d] 3)).drew (tB ⟨w2.heap.size,0,tD⟩) [i.d]:=aA.one w2 i.d rfl;refine A _ _ (vm _) ?_;clear A
   try go_simp
   refine zK rfl λK' A=> ?_;go_simp;go_at_call 87;refine(vu.out _ (tB ⟨w2.heap.size,0,tD⟩) 1 [i.d] (by simp) xT).mono ?_;rintro e w5 ⟨rfl,ya⟩;have zd:S w5:=(q.out _).2 (((q.out _).1 (vm _)).trans (ya.mono (by have:=((q.out _).1 (vm (ua #[Z U i.d] 3))).size;rw[ud.out] at this;exact this)));rw[yv.out];refine A _ _ ?_;clear A ya vm zc xT
   try go_simp
   cases bD with
   |false=>
    refine aZ 6 rfl (by kernel_rfl) (by kernel_rfl) (·=w5) rfl ?_;dsimp only[iv]
    repeat (go_big_quiet_step (fail))
    refine eh ?_;rintro _ rfl;go_wp2
    go_meet
    case rel=>exact⟨rfl,by simp,(q.out _).1 zd⟩
   |true=>
    refine eX (S:=S) (k:=12) _ _ _ _ ?_;refine zT 6 rfl G.out ?_
    try go_simp
    refine zT 7 rfl G.out ?_
    try go_simp
    refine zT 8 rfl G.out ?_
    try go_simp
    refine zL 9 rfl 38 ⟨N+1,0,tD⟩ vj.out cQ ?_
    try go_simp
    refine zL 10 rfl 42 ⟨N+1+1,0,tD⟩ we.out cJ ?_
    try go_simp
    refine zO 11 rfl λK' A=> ?_;go_simp;go_at_call 88;refine(ws.out _ ((q.out _).1 (by assumption))).mono ?_;rintro e w7 ⟨ro,rc,rfl,ux,va⟩;have ue:S w7:=(q.out _).2 (((q.out _).1 (by assumption)).trans (va.mono (by have:=((q.out _).1 (by assumption)).size;rw[ud.out] at this;exact this)));have vc:=ux.at_;refine A _ _ ue ?_;clear A ux va
    try go_simp
    refine zK rfl λK' A=> ?_;go_simp;go_at_call 87;refine(vu.out _ _ _ _ wx.out vc).mono ?_;rintro e w8 ⟨rfl,vd⟩;have wg:=((q.out _).1 ue).trans (vd.mono (by have:=((q.out _).1 ue).size;rw[ud.out] at this;exact this));rw[vx.out];refine A _ _ ?_;clear A vc vd
    try go_simp
    refine aZ 13 rfl (by kernel_rfl) (by kernel_rfl) (·=w8) rfl ?_;dsimp only[iv]
    repeat (go_big_quiet_step (fail))
    refine eh ?_;rintro _ rfl;go_wp2
    go_meet
    case rel=>exact⟨rfl,by simp,wg⟩
  |false=>
    simp only[pj,if_false];refine ak 12 S (by kernel_rfl) ?_;refine zT 0 rfl G.out ?_
    try go_simp
    refine zT 1 rfl G.out ?_
    try go_simp
    refine zN 2 rfl ?_
    try go_simp
    refine zN 3 rfl ?_
    try go_simp
    refine zN 4 rfl ?_
    try go_simp
    refine zN 5 rfl ?_
    try go_simp
    refine zN 6 rfl ?_
    try go_simp
    refine zT 7 rfl G.out ?_
    try go_simp
    refine zT 8 rfl G.out ?_
    try go_simp
    refine zL 9 rfl 38 ⟨N+1,0,tD⟩ vj.out cQ ?_
    try go_simp
    refine zL 10 rfl 42 ⟨N+1+1,0,tD⟩ we.out cJ ?_
    try go_simp
    refine zO 11 rfl λK' A=> ?_;go_simp;go_at_call 88;refine(ws.out _ ((q.out _).1 (by assumption))).mono ?_;rintro e w7 ⟨ro,rc,rfl,ux,va⟩;have ue:S w7:=(q.out _).2 (((q.out _).1 (by assumption)).trans (va.mono (by have:=((q.out _).1 (by assumption)).size;rw[ud.out] at this;exact this)));have vc:=ux.at_;refine A _ _ ue ?_;clear A ux va
    try go_simp
    refine zK rfl λK' A=> ?_;go_simp;go_at_call 87;refine(vu.out _ _ _ _ wx.out vc).mono ?_;rintro e w8 ⟨rfl,vd⟩;have wg:=((q.out _).1 ue).trans (vd.mono (by have:=((q.out _).1 ue).size;rw[ud.out] at this;exact this));rw[vx.out];refine A _ _ ?_;clear A vc vd
    try go_simp
    refine aZ 13 rfl (by kernel_rfl) (by kernel_rfl) (·=w8) rfl ?_;dsimp only[iv]
    repeat (go_big_quiet_step (fail))
    refine eh ?_;rintro _ rfl;go_wp2
    go_meet
    case rel=>exact⟨rfl,by simp,wg⟩
 case rest=>
  obtain⟨rfl,rfl,vp⟩:=hcut;have vf:=zH (vr.out wc vp);have hx:=ur.out wc vp;have HV:cm (∀v,isVar g.vs.length v=tE->∃(k b vh:bx) (x:Vr),v=(k:bp)/\k<g.vs.length/\ao=tB ⟨b,vh,tD⟩/\az g.vs v=(x.ptr,x.tgt)/\∀W,bh (N+3) W1 W->W.cell? ⟨b,vh+k*3,tD⟩=tB (tU x.ptr)/\W.cell? ⟨b,vh+k*3+1,tD⟩=tB (tM x.tgt)):=λv hv=>by
   obtain⟨k,b,vh,x,q1,q2,q3,q4,q5,q6,q7⟩:=dU xo.out.vars hv;refine⟨k,b,vh,x,q1,q2,by rw[<-yr.out];exact q3,q5,λW hW=> ?_⟩;have yb:=vr.out W hW;rw[HN.out] at q4;exact⟨by rw[yb.cell (p:=⟨b,_,tD⟩) (show b<N by omega)];exact q6,by rw[yb.cell (p:=⟨b,_,tD⟩) (show b<N by omega)];exact q7⟩
  have zj:=xo.out.vl;unfold dT at zj;have HO:cm (∀W b f,zP 51 #[tU b,Z U f] W (Z U (bM (!b) f))):=λW b f=>bi b f W;have zp:cm (∀W W':World,bh (N+3) W1 W->bh W.heap.size W W'->bh N w W'):=λW W' h1 h2=>vr.out W' (h1.trans (h2.mono (by have:=h1.size;rw[ud.out] at this;exact this)));obtain⟨B,hB⟩:=zE (bR&&(!wD||bD));rw[hB];cases B with
  |false=>
   have D:cm (R=15):=by unfold cm;rw[<-HR.out];unfold aD;rw[cE xf.out,cR (by rw[xj.out];exact hB)]
   clear hx HV hB;obtain⟨wv,yd⟩:=zE ((if wD=tE then(i.d,tE) else(0,tG)):bp×nj);rw[yd,qT];clear yd vy;go_wp2;go_ret;rw[D.out,HN.out];exact⟨rfl,vf.out⟩
  |true=>
  rw[sy];clear q vj we G vi vy wl xr;have uc:=yW.out
  ·
   have ew:wD=tG:=by rw[<-yy.out,uc];decide
   subst ew;have ye:bR=tE:=by simpa using hB
   have zr:isVar g.vs.length i.a=tE:=fM (by rw[vx.out];exact ye) (by rw[uc];decide);have hE:=eG HR xf xj (by rw[ye];simp);have i0:=hx.i0;rw[uc] at i0;have g7:=hx.g7;have g2:=hx.g2;have i2:=hx.i2;obtain⟨ka,AD,AE,xa,zv,AF,An,yi,wi⟩:=HV.out i.a zr;have AG:=zH wi;obtain⟨a0,a1⟩:=wi wc vp;clear wi;have AH:(ka:bp)<(g.vs.length:bp):=by omega
   subst An;rw[zv] at i2;obtain⟨pa,As⟩:=zE xa.ptr;rw[As] at a0 yi;have i9:=hx.i9;have i10:=hx.i10;obtain⟨n,hn⟩:=zE g.c.ins.length;obtain⟨t,ht⟩:=zE i.tI;obtain⟨u,hu⟩:=zE i.els;rw[ht] at i9;rw[hu] at i10;rw[hn] at g7;have D:cm (R=if isVar n t&&isVar n u then bM (!pa) 7 else 15):=by unfold cm;rw[hE];simp[uc,hn,ht,hu,dX,yi]
   clear uc hE hB hx ur HV
   by_cases t0:t<0
   ·have e0:decide (t<0)=tE:=ef t0
    have J:cm (R=15):=by unfold cm;rw[D.out,cE (by unfold isVar;simp;omega)]
    clear D;go_wp2;go_ret;rw[J.out,HN.out];exact⟨rfl,vf.out⟩
   have e0:decide (t<0)=tG:=cL t0
   by_cases t1:(n:bp)<=t
   ·have e1:decide ((n:bp)<=t)=tE:=ef t1
    have J:cm (R=15):=by unfold cm;rw[D.out,cE (by unfold isVar;simp;omega)]
    clear D;go_wp2;go_ret;rw[J.out,HN.out];exact⟨rfl,vf.out⟩
   have e1:decide ((n:bp)<=t)=tG:=cL t1
   by_cases u0:u<0
   ·have e2:decide (u<0)=tE:=ef u0
    have J:cm (R=15):=by unfold cm;rw[D.out,cE (by unfold isVar;simp;omega)]
    clear D;go_wp2;go_ret;rw[J.out,HN.out];exact⟨rfl,vf.out⟩
   have e2:decide (u<0)=tG:=cL u0
   by_cases u1:(n:bp)<=u
   ·have e3:decide ((n:bp)<=u)=tE:=ef u1
    have J:cm (R=15):=by unfold cm;rw[D.out,cE (by unfold isVar;simp;omega)]
    clear D;go_wp2;go_ret;rw[J.out,HN.out];exact⟨rfl,vf.out⟩
   have e3:decide ((n:bp)<=u)=tG:=cL u1;have J:cm (R=bM (!pa) 7):=by unfold cm;rw[D.out,cR (by rw[eF.2 ⟨by omega,by omega⟩,eF.2 ⟨by omega,by omega⟩];rfl)]
   clear D
   go_wp2_with (go_at_call 51;refine(HO.out _ _ _).mono ?_;rintro e w9 ⟨rfl,yk⟩;have At:=zH (zp.out _ _ vp yk);clear yk)
   go_ret;rw[J.out,HN.out];exact⟨rfl,At.out⟩
theorem sK (m:Mo)(g:Fn)(i:Ins)(w:World)(h:oJ w m g)(d:i.args_in w)(f:i.args.length<=40)(q:∀v,isVar g.vs.length v=tE->m.known (az g.vs v)=tE):
  zP 49 #[tW m.cells,tW g.cells,tW i.cells] w (Z U (aD m g i)):=by
 by_cases h0:i.op<1\/18<i.op
 ·exact vF m g i w h d f q h0
 by_cases u:i.op=1\/i.op=2\/i.op=3\/i.op=5\/i.op=6
 ·exact vG m g i w h d f q u
 by_cases A:i.op=4\/i.op=13\/i.op=14\/i.op=16
 ·exact vH m g i w h d f q A
 by_cases D:i.op=9\/i.op=12\/i.op=18
 ·exact vI m g i w h d f q D
 by_cases G:i.op=15
 ·exact vK m g i w h d f q G
 by_cases J:i.op=17
 ·exact vL m g i w h d f q J
 ·exact vJ m g i w h d f q (by omega)
end Go.Proofs.YtjomgckjhcfbgaaGreat
