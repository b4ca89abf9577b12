/- Walks. -/
import Derived.Test.YtjomgckjhcfbgaaGreatP10
set_option maxRecDepth 100000
set_option maxHeartbeats 64000000
set_option linter.all false
namespace Go.Proofs.YtjomgckjhcfbgaaGreat
open Go.RowKit
open Go.Proofs.Tryz renaming prog→am,underlying42→cA,underlying38→cJ,ntmps49→sY
open _root_.List renaming getElem?_eq_getElem→ap,drop→gO,getElem?_eq_none→m9
open Go.RowKit.Below renaming refl→aq
open _root_ renaming Int→aw,Nat→bj,if_neg→bw,decide_eq_false→cm,if_pos→cH,decide_eq_true→cR,Array→dl,if_true→lk,Bool→ml
open Go.RowKit renaming Below→aE,Hid→cg
open Go renaming wpList_load_row→cf,Value→cw,wpQuiet_nil→dr,maxLen→du,Addr→fg,beq_toListBytes→fx
open _root_.Option.some renaming injEq→dj
open _root_.Int renaming toNat_natCast→ep
open Go.Addr.mk renaming injEq→eV
open Go.Op renaming equalIn→gt
open _root_.Bool renaming false_eq_true→nF,not_false→qk,not_true→rK,or_false→sT,true→ti,false→tj
open _root_.Option renaming some→tf,none→th
open Go.Value renaming string→tm,slice→tn,bool→tt,agg→tv,int→Z
open Go.Obj renaming cells→tA
open Go.IntKind renaming i64→U
open Tryz
theorem uF (m:Mo)(g:Fn)(i:Ins)(w:World)(h:nR w m g)(hi:i.args_in w)(yb:i.args.length<=40)(zr:∀v,isVar g.vs.length v=ti->m.known (ax g.vs v)=ti)(o:i.op=1\/i.op=2\/i.op=3\/i.op=5\/i.op=6):
  zP 49 #[tv m.cells,tv g.cells,tv i.cells] w (Z U (aF m g i)):=by
 obtain⟨ao,N,W1,hN,yd,wj,HN,tU,zs,zv,tR,wk,HJ,AM,wl,ye,yi,yk⟩:=fE h hi yb;obtain⟨wD,bD,bR,o1,o2,up,vc,vu,vd,ws,ur⟩:=fI (g:=g) (i:=i) (by omega) (by omega);rw[zs.out];simp only[Mo.cells,gc,Ins.cells] at wj⊢;have yp:=zH wj;obtain⟨R,hR⟩:=zE (aF m g i);rw[hR];have HR:=zH hR;have yq:=zH h;have An:=zH o;have yr:=tR.out W1 (aq _ _);have yv:=zH yr.ir;clear h hi yb zr wj hR o;have yy:W1.heap.size=N+3:=yd;go_enter func49,sY
 go_upto_region 1 with(fail)
 rw[yp.out];clear yp yr hN
 go_upto_region 2 with(first
  |(refine cf rfl 42 _ rfl (N+2) rfl 42 _ (0,0) _ yv.out cA rfl (by kernel_rfl) ?_)
  |(go_at_call 86;refine(ye.out _).mono ?_;rintro e w2 ⟨rfl,uv⟩;have yW:=zH uv;clear uv))
 have uv:aE (N+3) W1 w2:=by have:=yW.out;rwa [yy] at this
 have i0:=(tR.out w2 uv).i0;have vx:=zH uv;clear uv yy yd yW;rw[ws.out]
 go_upto_region 4 with(fail)
 clear i0 o1 o2;obtain⟨S,hS⟩:∃S:World->Prop,S=aE (N+3) W1:=⟨_,rfl⟩
 have t:cg (∀w',S w'↔aE (N+3) W1 w'):=λw'=>by rw[hS]
 have vy:cg (∀w',S w'->∀j u,(#[tm g.c.nm,Z U g.c.par,tn ao g.vs.length g.c.varsC,tt g.c.rp,tm g.c.rto,Z U g.c.rcl,tn g.c.fromA g.c.nfrom g.c.fromC,tn g.c.insA g.c.ins.length g.c.insC]:dl cw).toList[j]?=tf u->w'.cell? ((⟨N+1,0,th⟩:fg).add j)=tf u):=λw' h=>dC (tR.out w' ((t.out w').1 h)).gr;have xf:cg (∀w',S w'->∀j u,(#[Z U i.op,Z U i.d,Z U i.a,Z U i.b,Z U i.f,Z U i.n,tm i.sign,i.argsV,i.modeV,Z U i.tI,Z U i.els,Z U i.ln,Z U i.cl]:dl cw).toList[j]?=tf u->w'.cell? ((⟨N+1+1,0,th⟩:fg).add j)=tf u):=λw' h=>dC (tR.out w' ((t.out w').1 h)).ir;have tD:cg (∀w',S w'->True/\True):=λ_ _=>⟨trivial,trivial⟩
 clear hS
 go_cut [7,37] from 23 to 37 (λd b wc=>d= Z U (if wD=ti then(i.d,ti) else(0,tj)).1/\b= tt (!(bR&&(!wD||bD)))/\aE (N+3) W1 wc)
 case first=>
  have At:S w2.drew:=(t.out _).2 vx.out.drew;cases wD with
  |true=>
   simp only[lk];refine aj 5 S (by kernel_rfl) ?_;refine zT 0 rfl tD.out ?_
   try go_simp
   refine zT 1 rfl tD.out ?_
   try go_simp
   refine zL 2 rfl 38 ⟨N+1,0,th⟩ vy.out cJ ?_
   try go_simp
   refine zT 3 rfl tD.out ?_
   try go_simp
   refine zO 4 rfl λK' y=> ?_;go_simp;have we:∀c,S (w2.alloc c).drew:=λc=>(t.out _).2 ((vx.out.alloc (by have:=vx.out.size;rw[tU.out] at this;exact this) _).drew);have zc:ak (w2.alloc (tA #[Z U i.d] 3)).drew (tf ⟨w2.heap.size,0,th⟩) [i.d]:=ak.one w2 i.d rfl;refine y _ _ (we _) ?_;clear y
   try go_simp
   refine zK rfl λK' y=> ?_;go_simp;go_at_call 87;refine(wl.out _ (tf ⟨w2.heap.size,0,th⟩) 1 [i.d] (by simp) zc).mono ?_;rintro e w5 ⟨rfl,zd⟩;have Ax:S w5:=(t.out _).2 (((t.out _).1 (we _)).trans (zd.mono (by have:=((t.out _).1 (we (tA #[Z U i.d] 3))).size;rw[tU.out] at this;exact this)));rw[vc.out];refine y _ _ ?_;clear y zd we At zc
   try go_simp
   cases bD with
   |false=>
    refine bf 6 rfl (by kernel_rfl) (by kernel_rfl) (·=w5) rfl ?_;dsimp only[gO]
    repeat (go_big_quiet_step (fail))
    refine dr ?_;rintro _ rfl;go_wp2
    go_meet
    case rel=>exact⟨rfl,by simp,(t.out _).1 Ax⟩
   |true=>
    refine ek (S:=S) (k:=12) _ _ _ _ ?_;refine zT 6 rfl tD.out ?_
    try go_simp
    refine zT 7 rfl tD.out ?_
    try go_simp
    refine zT 8 rfl tD.out ?_
    try go_simp
    refine zL 9 rfl 38 ⟨N+1,0,th⟩ vy.out cJ ?_
    try go_simp
    refine zL 10 rfl 42 ⟨N+1+1,0,th⟩ xf.out cA ?_
    try go_simp
    refine zO 11 rfl λK' y=> ?_;go_simp;go_at_call 88;refine(yi.out _ ((t.out _).1 (by assumption))).mono ?_;rintro e w7 ⟨ro,rc,rfl,vf,vh⟩;have tW:S w7:=(t.out _).2 (((t.out _).1 (by assumption)).trans (vh.mono (by have:=((t.out _).1 (by assumption)).size;rw[tU.out] at this;exact this)));have vm:=vf.at_;refine y _ _ tW ?_;clear y vf vh
    try go_simp
    refine zK rfl λK' y=> ?_;go_simp;go_at_call 87;refine(wl.out _ _ _ _ yk.out vm).mono ?_;rintro e w8 ⟨rfl,vp⟩;have xj:=((t.out _).1 tW).trans (vp.mono (by have:=((t.out _).1 tW).size;rw[tU.out] at this;exact this));rw[vu.out];refine y _ _ ?_;clear y vm vp
    try go_simp
    refine bf 13 rfl (by kernel_rfl) (by kernel_rfl) (·=w8) rfl ?_;dsimp only[gO]
    repeat (go_big_quiet_step (fail))
    refine dr ?_;rintro _ rfl;go_wp2
    go_meet
    case rel=>exact⟨rfl,by simp,xj⟩
  |false=>
    simp only[nF,if_false];refine aj 12 S (by kernel_rfl) ?_;refine zT 0 rfl tD.out ?_
    try go_simp
    refine zT 1 rfl tD.out ?_
    try go_simp
    refine zN 2 rfl ?_
    try go_simp
    refine zN 3 rfl ?_
    try go_simp
    refine zN 4 rfl ?_
    try go_simp
    refine zN 5 rfl ?_
    try go_simp
    refine zN 6 rfl ?_
    try go_simp
    refine zT 7 rfl tD.out ?_
    try go_simp
    refine zT 8 rfl tD.out ?_
    try go_simp
    refine zL 9 rfl 38 ⟨N+1,0,th⟩ vy.out cJ ?_
    try go_simp
    refine zL 10 rfl 42 ⟨N+1+1,0,th⟩ xf.out cA ?_
    try go_simp
    refine zO 11 rfl λK' y=> ?_;go_simp;go_at_call 88;refine(yi.out _ ((t.out _).1 (by assumption))).mono ?_;rintro e w7 ⟨ro,rc,rfl,vf,vh⟩;have tW:S w7:=(t.out _).2 (((t.out _).1 (by assumption)).trans (vh.mono (by have:=((t.out _).1 (by assumption)).size;rw[tU.out] at this;exact this)));have vm:=vf.at_;refine y _ _ tW ?_;clear y vf vh
    try go_simp
    refine zK rfl λK' y=> ?_;go_simp;go_at_call 87;refine(wl.out _ _ _ _ yk.out vm).mono ?_;rintro e w8 ⟨rfl,vp⟩;have xj:=((t.out _).1 tW).trans (vp.mono (by have:=((t.out _).1 tW).size;rw[tU.out] at this;exact this));rw[vu.out];refine y _ _ ?_;clear y vm vp
    try go_simp
    refine bf 13 rfl (by kernel_rfl) (by kernel_rfl) (·=w8) rfl ?_;dsimp only[gO]
    repeat (go_big_quiet_step (fail))
    refine dr ?_;rintro _ rfl;go_wp2
    go_meet
    case rel=>exact⟨rfl,by simp,xj⟩
 case rest=>
  obtain⟨rfl,rfl,J⟩:=hcut;have ux:=zH (wk.out wc J);have q:=tR.out wc J;have K:cg (∀v,isVar g.vs.length v=ti->∃(k b vq:bj) (x:Vr),v=(k:aw)/\k<g.vs.length/\ao=tf ⟨b,vq,th⟩/\ax g.vs v=(x.ptr,x.tgt)/\∀W,aE (N+3) W1 W->W.cell? ⟨b,vq+k*3,th⟩=tf (tt x.ptr)/\W.cell? ⟨b,vq+k*3+1,th⟩=tf (tm x.tgt)):=λv hv=>by
   obtain⟨k,b,vq,x,q1,q2,q3,q4,q5,q6,q7⟩:=dM yq.out.vars hv;refine⟨k,b,vq,x,q1,q2,by rw[<-zv.out];exact q3,q5,λW hW=> ?_⟩;have zj:=wk.out W hW;rw[HN.out] at q4;exact⟨by rw[zj.cell (p:=⟨b,_,th⟩) (show b<N by omega)];exact q6,by rw[zj.cell (p:=⟨b,_,th⟩) (show b<N by omega)];exact q7⟩
  have AD:=yq.out.vl;unfold du at AD;have HO:cg (∀W b f,zP 51 #[tt b,Z U f] W (Z U (bN (!b) f))):=λW b f=>bn b f W;have vr:cg (∀W W':World,aE (N+3) W1 W->aE W.heap.size W W'->aE N w W'):=λW W' h1 h2=>wk.out W' (h1.trans (h2.mono (by have:=h1.size;rw[tU.out] at this;exact this)));obtain⟨B,z⟩:=zE (bR&&(!wD||bD));rw[z];cases B with
  |false=>
   have tE:cg (R=15):=by unfold cg;rw[<-HR.out];unfold aF;rw[bw up.out,cH (by rw[ur.out];exact z)]
   clear q K z;obtain⟨wv,zp⟩:=zE ((if wD=ti then(i.d,ti) else(0,tj)):aw×ml);rw[zp,qk];clear zp ws;go_wp2;go_ret;rw[tE.out,HN.out];exact⟨rfl,ux.out⟩
  |true=>
  rw[rK];clear t vy xf tD vx ws ye yv;rcases An.out with o|o|o|o|o
  ·
   have ew:wD=ti:=by rw[<-vd.out,o];decide
   subst ew;have tG:bR=ti:=(by simpa using z:_/\_).1;have tM:bD=ti:=(by simpa using z:_/\_).2;have ua:isVar g.vs.length i.d=ti:=by have:=vc.out;rw[tM] at this;simpa[aK] using this
   have E:=dY HR up ur (by rw[tG,tM];simp);have i0:=q.i0;rw[o] at i0;have g7:=q.g7;have g2:=q.g2;obtain⟨kd,xl,xo,xd,ub,xp,uc,tP,A⟩:=K.out i.d ua;have xr:=zH A;obtain⟨d0,d1⟩:=A wc J;clear A;have xt:(kd:aw)<(g.vs.length:aw):=by omega
   subst uc;obtain⟨pd,ud⟩:=zE xd.ptr;rw[ud] at d0 tP;have tE:cg (R=bN (!pd) 7):=by unfold cg;rw[E];simp[o,au,dQ,tP]
   simp only[lk];rw[ub];clear o E z q tR K
   go_wp2_with (go_at_call 51;refine(HO.out _ _ _).mono ?_;rintro e w9 ⟨rfl,G⟩;have tS:=zH (vr.out _ _ J G);clear G)
   go_ret;rw[tE.out,HN.out];exact⟨rfl,by first|exact tS.out|exact ux.out⟩
  ·
   have ew:wD=ti:=by rw[<-vd.out,o];decide
   subst ew;have tG:bR=ti:=(by simpa using z:_/\_).1;have tM:bD=ti:=(by simpa using z:_/\_).2;have ua:isVar g.vs.length i.d=ti:=by have:=vc.out;rw[tM] at this;simpa[aK] using this
   have E:=dY HR up ur (by rw[tG,tM];simp);have i0:=q.i0;rw[o] at i0;have g7:=q.g7;have g2:=q.g2;obtain⟨kd,xl,xo,xd,ub,xp,uc,tP,A⟩:=K.out i.d ua;have xr:=zH A;obtain⟨d0,d1⟩:=A wc J;clear A;have xt:(kd:aw)<(g.vs.length:aw):=by omega
   subst uc;obtain⟨pd,ud⟩:=zE xd.ptr;rw[ud] at d0 tP;have tE:cg (R=bN pd 7):=by unfold cg;rw[E];simp[o,au,tP]
   simp only[lk];rw[ub];clear o E z q tR K
   go_wp2_with (go_at_call 51;refine(HO.out _ _ _).mono ?_;rintro e w9 ⟨rfl,G⟩;have tS:=zH (vr.out _ _ J G);clear G)
   go_ret;rw[tE.out,HN.out];exact⟨rfl,by first|exact tS.out|exact ux.out⟩
  ·
   have ew:wD=ti:=by rw[<-vd.out,o];decide
   subst ew;have tG:bR=ti:=(by simpa using z:_/\_).1;have tM:bD=ti:=(by simpa using z:_/\_).2;have ua:isVar g.vs.length i.d=ti:=by have:=vc.out;rw[tM] at this;simpa[aK] using this
   have xF:isVar g.vs.length i.a=ti:=fB (by rw[vu.out];exact tG) (by rw[o];decide);have E:=dY HR up ur (by rw[tG,tM];simp);have i0:=q.i0;rw[o] at i0;have g7:=q.g7;have g2:=q.g2;have i2:=q.i2;obtain⟨kd,xl,xo,xd,ub,xp,uc,tP,A⟩:=K.out i.d ua;have xr:=zH A;obtain⟨d0,d1⟩:=A wc J;clear A;have xt:(kd:aw)<(g.vs.length:aw):=by omega
   obtain⟨ka,AE,AF,xa,xT,AH,wg,vt,ue⟩:=K.out i.a xF;have AI:=zH ue;obtain⟨a0,a1⟩:=ue wc J;clear ue;have AK:(ka:aw)<(g.vs.length:aw):=by omega
   subst uc;simp only[dj,eV,and_true] at wg;obtain⟨rfl,rfl⟩:=wg;rw[xT] at i2;obtain⟨pd,ud⟩:=zE xd.ptr;rw[ud] at d0 tP;obtain⟨pa,ya⟩:=zE xa.ptr;rw[ya] at a0 vt;have tE:cg (R=bN (!(pd||pa)) 7):=by unfold cg;rw[E];simp[o,au,dQ,tP,vt]
   simp only[lk];rw[ub];clear o E z q tR K;cases pd<;>(go_wp2_with (go_at_call 51;refine(HO.out _ _ _).mono ?_;rintro e w9 ⟨rfl,G⟩;have tS:=zH (vr.out _ _ J G);clear G);go_ret;rw[tE.out,HN.out];exact⟨rfl,by first|exact tS.out|exact ux.out⟩)
  ·
   have ew:wD=ti:=by rw[<-vd.out,o];decide
   subst ew;have tG:bR=ti:=(by simpa using z:_/\_).1;have tM:bD=ti:=(by simpa using z:_/\_).2;have ua:isVar g.vs.length i.d=ti:=by have:=vc.out;rw[tM] at this;simpa[aK] using this
   have E:=dY HR up ur (by rw[tG,tM];simp);have i0:=q.i0;rw[o] at i0;have g7:=q.g7;have g2:=q.g2;obtain⟨kd,xl,xo,xd,ub,xp,uc,tP,A⟩:=K.out i.d ua;have xr:=zH A;obtain⟨d0,d1⟩:=A wc J;clear A;have xt:(kd:aw)<(g.vs.length:aw):=by omega
   subst uc;obtain⟨pd,ud⟩:=zE xd.ptr;rw[ud] at d0 tP;have tE:cg (R=bN (!pd) 7):=by unfold cg;rw[E];simp[o,au,dQ,tP]
   simp only[lk];rw[ub];clear o E z q tR K
   go_wp2_with (go_at_call 51;refine(HO.out _ _ _).mono ?_;rintro e w9 ⟨rfl,G⟩;have tS:=zH (vr.out _ _ J G);clear G)
   go_ret;rw[tE.out,HN.out];exact⟨rfl,by first|exact tS.out|exact ux.out⟩
  ·
   have ew:wD=tj:=by rw[<-vd.out,o];decide
   subst ew;have tG:bR=ti:=by simpa using z
   have xF:isVar g.vs.length i.a=ti:=fB (by rw[vu.out];exact tG) (by rw[o];decide);have E:=dY HR up ur (by rw[tG];simp);have i0:=q.i0;rw[o] at i0;have g7:=q.g7;have g2:=q.g2;have i2:=q.i2;obtain⟨ka,AE,AF,xa,xT,AH,wg,vt,ue⟩:=K.out i.a xF;have AI:=zH ue;obtain⟨a0,a1⟩:=ue wc J;clear ue;have AK:(ka:aw)<(g.vs.length:aw):=by omega
   subst wg;rw[xT] at i2;obtain⟨pa,ya⟩:=zE xa.ptr;rw[ya] at a0 vt;have tE:cg (R=bN (!pa) 7):=by unfold cg;rw[E];simp[o,au,dQ,vt]
   clear o E z q tR K
   go_wp2_with (go_at_call 51;refine(HO.out _ _ _).mono ?_;rintro e w9 ⟨rfl,G⟩;have tS:=zH (vr.out _ _ J G);clear G)
   go_ret;rw[tE.out,HN.out];exact⟨rfl,by first|exact tS.out|exact ux.out⟩
theorem uG (m:Mo)(g:Fn)(i:Ins)(w:World)(h:nR w m g)(hi:i.args_in w)(ya:i.args.length<=40)(AF:∀v,isVar g.vs.length v=ti->m.known (ax g.vs v)=ti)(o:i.op=4\/i.op=13\/i.op=14\/i.op=16):
  zP 49 #[tv m.cells,tv g.cells,tv i.cells] w (Z U (aF m g i)):=by
 obtain⟨ao,N,W1,hN,yb,wj,K,tS,AH,AI,tR,wk,HJ,Bm,wl,yd,ye,yi⟩:=fE h hi ya;obtain⟨wD,bD,bR,o1,o2,ur,ws,ue,vx,xf,uv⟩:=fI (g:=g) (i:=i) (by omega) (by omega);rw[AH.out];simp only[Mo.cells,gc,Ins.cells] at wj⊢;have yk:=zH wj;obtain⟨R,hR⟩:=zE (aF m g i);rw[hR];have HR:=zH hR;have yp:=zH h;have AK:=zH o;have yq:=tR.out W1 (aq _ _);have yr:=zH yq.ir;clear h hi ya AF wj hR o;have yv:W1.heap.size=N+3:=yb;go_enter func49,sY
 go_upto_region 1 with(fail)
 rw[yk.out];clear yk yq hN
 go_upto_region 2 with(first
  |(refine cf rfl 42 _ rfl (N+2) rfl 42 _ (0,0) _ yr.out cA rfl (by kernel_rfl) ?_)
  |(go_at_call 86;refine(yd.out _).mono ?_;rintro e w2 ⟨rfl,up⟩;have yy:=zH up;clear up))
 have up:aE (N+3) W1 w2:=by have:=yy.out;rwa [yv] at this
 have i0:=(tR.out w2 up).i0;have vy:=zH up;clear up yv yb yy;rw[xf.out]
 go_upto_region 4 with(fail)
 clear i0 o1 o2;obtain⟨S,hS⟩:∃S:World->Prop,S=aE (N+3) W1:=⟨_,rfl⟩
 have E:cg (∀w',S w'↔aE (N+3) W1 w'):=λw'=>by rw[hS]
 have we:cg (∀w',S w'->∀j u,(#[tm g.c.nm,Z U g.c.par,tn ao g.vs.length g.c.varsC,tt g.c.rp,tm g.c.rto,Z U g.c.rcl,tn g.c.fromA g.c.nfrom g.c.fromC,tn g.c.insA g.c.ins.length g.c.insC]:dl cw).toList[j]?=tf u->w'.cell? ((⟨N+1,0,th⟩:fg).add j)=tf u):=λw' h=>dC (tR.out w' ((E.out w').1 h)).gr;have xj:cg (∀w',S w'->∀j u,(#[Z U i.op,Z U i.d,Z U i.a,Z U i.b,Z U i.f,Z U i.n,tm i.sign,i.argsV,i.modeV,Z U i.tI,Z U i.els,Z U i.ln,Z U i.cl]:dl cw).toList[j]?=tf u->w'.cell? ((⟨N+1+1,0,th⟩:fg).add j)=tf u):=λw' h=>dC (tR.out w' ((E.out w').1 h)).ir;have tE:cg (∀w',S w'->True/\True):=λ_ _=>⟨trivial,trivial⟩
 clear hS
 go_cut [7,37] from 23 to 37 (λd b wc=>d= Z U (if wD=ti then(i.d,ti) else(0,tj)).1/\b= tt (!(bR&&(!wD||bD)))/\aE (N+3) W1 wc)
 case first=>
  have AM:S w2.drew:=(E.out _).2 vy.out.drew;cases wD with
  |true=>
   simp only[lk];refine aj 5 S (by kernel_rfl) ?_;refine zT 0 rfl tE.out ?_
   try go_simp
   refine zT 1 rfl tE.out ?_
   try go_simp
   refine zL 2 rfl 38 ⟨N+1,0,th⟩ we.out cJ ?_
   try go_simp
   refine zT 3 rfl tE.out ?_
   try go_simp
   refine zO 4 rfl λK' G=> ?_;go_simp;have wg:∀c,S (w2.alloc c).drew:=λc=>(E.out _).2 ((vy.out.alloc (by have:=vy.out.size;rw[tS.out] at this;exact this) _).drew);have yW:ak (w2.alloc (tA #[Z U i.d] 3)).drew (tf ⟨w2.heap.size,0,th⟩) [i.d]:=ak.one w2 i.d rfl;refine G _ _ (wg _) ?_;clear G
   try go_simp
   refine zK rfl λK' G=> ?_;go_simp;go_at_call 87;refine(wl.out _ (tf ⟨w2.heap.size,0,th⟩) 1 [i.d] (by simp) yW).mono ?_;rintro e w5 ⟨rfl,zc⟩;have AN:S w5:=(E.out _).2 (((E.out _).1 (wg _)).trans (zc.mono (by have:=((E.out _).1 (wg (tA #[Z U i.d] 3))).size;rw[tS.out] at this;exact this)));rw[ws.out];refine G _ _ ?_;clear G zc wg AM yW
   try go_simp
   cases bD with
   |false=>
    refine bf 6 rfl (by kernel_rfl) (by kernel_rfl) (·=w5) rfl ?_;dsimp only[gO]
    repeat (go_big_quiet_step (fail))
    refine dr ?_;rintro _ rfl;go_wp2
    go_meet
    case rel=>exact⟨rfl,by simp,(E.out _).1 AN⟩
   |true=>
    refine ek (S:=S) (k:=12) _ _ _ _ ?_;refine zT 6 rfl tE.out ?_
    try go_simp
    refine zT 7 rfl tE.out ?_
    try go_simp
    refine zT 8 rfl tE.out ?_
    try go_simp
    refine zL 9 rfl 38 ⟨N+1,0,th⟩ we.out cJ ?_
    try go_simp
    refine zL 10 rfl 42 ⟨N+1+1,0,th⟩ xj.out cA ?_
    try go_simp
    refine zO 11 rfl λK' G=> ?_;go_simp;go_at_call 88;refine(ye.out _ ((E.out _).1 (by assumption))).mono ?_;rintro e w7 ⟨ro,rc,rfl,ux,vc⟩;have ub:S w7:=(E.out _).2 (((E.out _).1 (by assumption)).trans (vc.mono (by have:=((E.out _).1 (by assumption)).size;rw[tS.out] at this;exact this)));have vd:=ux.at_;refine G _ _ ub ?_;clear G ux vc
    try go_simp
    refine zK rfl λK' G=> ?_;go_simp;go_at_call 87;refine(wl.out _ _ _ _ yi.out vd).mono ?_;rintro e w8 ⟨rfl,tU⟩;have xl:=((E.out _).1 ub).trans (tU.mono (by have:=((E.out _).1 ub).size;rw[tS.out] at this;exact this));rw[ue.out];refine G _ _ ?_;clear G vd tU
    try go_simp
    refine bf 13 rfl (by kernel_rfl) (by kernel_rfl) (·=w8) rfl ?_;dsimp only[gO]
    repeat (go_big_quiet_step (fail))
    refine dr ?_;rintro _ rfl;go_wp2
    go_meet
    case rel=>exact⟨rfl,by simp,xl⟩
  |false=>
    simp only[nF,if_false];refine aj 12 S (by kernel_rfl) ?_;refine zT 0 rfl tE.out ?_
    try go_simp
    refine zT 1 rfl tE.out ?_
    try go_simp
    refine zN 2 rfl ?_
    try go_simp
    refine zN 3 rfl ?_
    try go_simp
    refine zN 4 rfl ?_
    try go_simp
    refine zN 5 rfl ?_
    try go_simp
    refine zN 6 rfl ?_
    try go_simp
    refine zT 7 rfl tE.out ?_
    try go_simp
    refine zT 8 rfl tE.out ?_
    try go_simp
    refine zL 9 rfl 38 ⟨N+1,0,th⟩ we.out cJ ?_
    try go_simp
    refine zL 10 rfl 42 ⟨N+1+1,0,th⟩ xj.out cA ?_
    try go_simp
    refine zO 11 rfl λK' G=> ?_;go_simp;go_at_call 88;refine(ye.out _ ((E.out _).1 (by assumption))).mono ?_;rintro e w7 ⟨ro,rc,rfl,ux,vc⟩;have ub:S w7:=(E.out _).2 (((E.out _).1 (by assumption)).trans (vc.mono (by have:=((E.out _).1 (by assumption)).size;rw[tS.out] at this;exact this)));have vd:=ux.at_;refine G _ _ ub ?_;clear G ux vc
    try go_simp
    refine zK rfl λK' G=> ?_;go_simp;go_at_call 87;refine(wl.out _ _ _ _ yi.out vd).mono ?_;rintro e w8 ⟨rfl,tU⟩;have xl:=((E.out _).1 ub).trans (tU.mono (by have:=((E.out _).1 ub).size;rw[tS.out] at this;exact this));rw[ue.out];refine G _ _ ?_;clear G vd tU
    try go_simp
    refine bf 13 rfl (by kernel_rfl) (by kernel_rfl) (·=w8) rfl ?_;dsimp only[gO]
    repeat (go_big_quiet_step (fail))
    refine dr ?_;rintro _ rfl;go_wp2
    go_meet
    case rel=>exact⟨rfl,by simp,xl⟩
 case rest=>
  obtain⟨rfl,rfl,J⟩:=hcut;have tP:=zH (wk.out wc J);have q:=tR.out wc J;have HV:cg (∀v,isVar g.vs.length v=ti->∃(k b vf:bj) (x:Vr),v=(k:aw)/\k<g.vs.length/\ao=tf ⟨b,vf,th⟩/\ax g.vs v=(x.ptr,x.tgt)/\∀W,aE (N+3) W1 W->W.cell? ⟨b,vf+k*3,th⟩=tf (tt x.ptr)/\W.cell? ⟨b,vf+k*3+1,th⟩=tf (tm x.tgt)):=λv hv=>by
   obtain⟨k,b,vf,x,q1,q2,q3,q4,q5,q6,q7⟩:=dM yp.out.vars hv;refine⟨k,b,vf,x,q1,q2,by rw[<-AI.out];exact q3,q5,λW hW=> ?_⟩;have zd:=wk.out W hW;rw[K.out] at q4;exact⟨by rw[zd.cell (p:=⟨b,_,th⟩) (show b<N by omega)];exact q6,by rw[zd.cell (p:=⟨b,_,th⟩) (show b<N by omega)];exact q7⟩
  have AS:=yp.out.vl;unfold du at AS;have HO:cg (∀W b f,zP 51 #[tt b,Z U f] W (Z U (bN (!b) f))):=λW b f=>bn b f W;have tW:cg (∀W W':World,aE (N+3) W1 W->aE W.heap.size W W'->aE N w W'):=λW W' h1 h2=>wk.out W' (h1.trans (h2.mono (by have:=h1.size;rw[tS.out] at this;exact this)));obtain⟨B,hB⟩:=zE (bR&&(!wD||bD));rw[hB];cases B with
  |false=>
   have y:cg (R=15):=by unfold cg;rw[<-HR.out];unfold aF;rw[bw ur.out,cH (by rw[uv.out];exact hB)]
   clear q HV hB;obtain⟨wv,zj⟩:=zE ((if wD=ti then(i.d,ti) else(0,tj)):aw×ml);rw[zj,qk];clear zj xf;go_wp2;go_ret;rw[y.out,K.out];exact⟨rfl,tP.out⟩
  |true=>
  rw[rK];clear E we xj tE vy xf yd yr;rcases AK.out with o|o|o|o
  ·
   have ew:wD=ti:=by rw[<-vx.out,o];decide
   subst ew;have tG:bR=ti:=(by simpa using hB:_/\_).1;have vh:bD=ti:=(by simpa using hB:_/\_).2;have xo:isVar g.vs.length i.d=ti:=by have:=ws.out;rw[vh] at this;simpa[aK] using this
   have vm:isVar g.vs.length i.a=ti:=fB (by rw[ue.out];exact tG) (by rw[o];decide);have AT:isVar g.vs.length i.b=ti:=xz (by rw[ue.out];exact tG) (by rw[o];decide);have hE:=dY HR ur uv (by rw[tG,vh];simp);have i0:=q.i0;rw[o] at i0;have g7:=q.g7;have g2:=q.g2;have i2:=q.i2;have i3:=q.i3;obtain⟨kd,AW,A1,xd,xp,A2,xr,vp,uc⟩:=HV.out i.d xo;have A3:=zH uc;obtain⟨d0,d1⟩:=uc wc J;clear uc;have A4:(kd:aw)<(g.vs.length:aw):=by omega
   obtain⟨ka,zp,zr,xa,vq,zs,ud,ua,tM⟩:=HV.out i.a vm;have zv:=zH tM;obtain⟨a0,a1⟩:=tM wc J;clear tM;have An:(ka:aw)<(g.vs.length:aw):=by omega
   obtain⟨kb,Bs,By,xb,A5,BE,At,Ax,xt⟩:=HV.out i.b AT;have BT:=zH xt;obtain⟨b0,b1⟩:=xt wc J;clear xt;have BY:(kb:aw)<(g.vs.length:aw):=by omega
   subst xr;simp only[dj,eV,and_true] at ud;obtain⟨rfl,rfl⟩:=ud;simp only[dj,eV,and_true] at At;obtain⟨rfl,rfl⟩:=At;rw[vq] at i2;rw[A5] at i3;obtain⟨pd,xF⟩:=zE xd.ptr;rw[xF] at d0 vp;obtain⟨pa,vr⟩:=zE xa.ptr;rw[vr] at a0 ua;obtain⟨pb,A6⟩:=zE xb.ptr;rw[A6] at b0 Ax;have i6:=q.i6;have y:cg (R=dZ (bN (!(pd||(pa||pb))) 7) i.sign fZ):=by unfold cg;rw[hE];simp[o,au,dQ,vp,ua,Ax]
   have AD:cg (∀W,zP 89 #[tm i.sign] W (tt (fZ.any λx=>x==i.sign))):=λW=>zm i.sign W;obtain⟨sg,xT⟩:=zE (fZ.any λx=>x==i.sign);rw[xT] at AD;have vt:cg (∀z,dZ z i.sign fZ=if z≠0 then z else bN sg 3):=λz=>by unfold dZ;rw[xT]
   rw[vt.out] at y;clear xT vt;simp only[lk];rw[xp];clear o hE hB q tR HV;cases pd
   ·cases pa
    ·cases pb
     ·go_wp2_with (first|(go_at_call 89;refine(AD.out _).mono ?_;rintro e w8 ⟨rfl,tU⟩;have Bk:=zH (J.trans (tU.mono (by have:=J.size;rw[tS.out] at this;exact this)));clear tU)|(go_at_call 51;refine(HO.out _ _ _).mono ?_;rintro e w9 ⟨rfl,A⟩;have tD:=zH (tW.out _ _ Bk.out A);clear A))
      go_ret;rw[y.out,K.out];exact⟨by cases sg<;>rfl,tD.out⟩
     ·go_wp2
      go_ret;rw[y.out,K.out];exact⟨rfl,tP.out⟩
    ·go_wp2
     go_ret;rw[y.out,K.out];exact⟨rfl,tP.out⟩
   ·go_wp2
    go_ret;rw[y.out,K.out];exact⟨rfl,tP.out⟩
  ·
   have ew:wD=tj:=by rw[<-vx.out,o];decide
   subst ew;have tG:bR=ti:=by simpa using hB
   have vm:isVar g.vs.length i.a=ti:=fB (by rw[ue.out];exact tG) (by rw[o];decide);have hE:=dY HR ur uv (by rw[tG];simp);have i0:=q.i0;rw[o] at i0;have g7:=q.g7;have g2:=q.g2;have i2:=q.i2;obtain⟨ka,zp,zr,xa,vq,zs,ud,ua,tM⟩:=HV.out i.a vm;have zv:=zH tM;obtain⟨a0,a1⟩:=tM wc J;clear tM;have An:(ka:aw)<(g.vs.length:aw):=by omega
   subst ud;rw[vq] at i2;obtain⟨pa,vr⟩:=zE xa.ptr;rw[vr] at a0 ua;have y:cg (R=bN pa 7):=by unfold cg;rw[hE];simp[o,au,ua]
   clear o hE hB q tR HV
   go_wp2_with (go_at_call 51;refine(HO.out _ _ _).mono ?_;rintro e w9 ⟨rfl,A⟩;have tD:=zH (tW.out _ _ J A);clear A)
   go_ret;rw[y.out,K.out];exact⟨rfl,by first|exact tD.out|exact tP.out⟩
  ·
   have ew:wD=ti:=by rw[<-vx.out,o];decide
   subst ew;have tG:bR=ti:=(by simpa using hB:_/\_).1;have vh:bD=ti:=(by simpa using hB:_/\_).2;have xo:isVar g.vs.length i.d=ti:=by have:=ws.out;rw[vh] at this;simpa[aK] using this
   have vm:isVar g.vs.length i.a=ti:=fB (by rw[ue.out];exact tG) (by rw[o];decide);have hE:=dY HR ur uv (by rw[tG,vh];simp);have i0:=q.i0;rw[o] at i0;have g7:=q.g7;have g2:=q.g2;have i2:=q.i2;obtain⟨kd,AW,A1,xd,xp,A2,xr,vp,uc⟩:=HV.out i.d xo;have A3:=zH uc;obtain⟨d0,d1⟩:=uc wc J;clear uc;have A4:(kd:aw)<(g.vs.length:aw):=by omega
   obtain⟨ka,zp,zr,xa,vq,zs,ud,ua,tM⟩:=HV.out i.a vm;have zv:=zH tM;obtain⟨a0,a1⟩:=tM wc J;clear tM;have An:(ka:aw)<(g.vs.length:aw):=by omega
   subst xr;simp only[dj,eV,and_true] at ud;obtain⟨rfl,rfl⟩:=ud;rw[vq] at i2;obtain⟨pd,xF⟩:=zE xd.ptr;rw[xF] at d0 vp;obtain⟨pa,vr⟩:=zE xa.ptr;rw[vr] at a0 ua;have i6:=q.i6;have y:cg (R=dZ (bN (!pd&&pa) 7) i.sign jb):=by unfold cg;rw[hE];simp[o,au,vp,ua]
   have AE:cg ((jb.any λx=>x==i.sign)=(i.sign.toList==[61,61]||i.sign.toList==[33,61])):=by
    unfold cg jb;simp only[List.any_cons,List.any_nil,sT];rw[fx,fx,BEq.comm (a:=i.sign.toList),BEq.comm (a:=i.sign.toList)];rw[show(ByteArray.mk #[61,61]).toList=[61,61] from by decide+kernel,show(ByteArray.mk #[33,61]).toList=[33,61] from by decide+kernel]
   have vt:cg (∀z,dZ z i.sign jb=if z≠0 then z else bN (i.sign.toList==[61,61]||i.sign.toList==[33,61]) 3):=λz=>by unfold dZ;rw[AE.out]
   rw[vt.out] at y;clear vt AE;simp only[lk];rw[xp];clear o hE hB q tR HV;cases pd
   ·cases pa
    ·go_wp2
     go_ret;rw[y.out,K.out];exact⟨rfl,tP.out⟩
    ·by_cases s1:i.sign.toList=[61,61]
     ·have vu:cg (R=0):=by unfold cg;rw[y.out,s1];rfl
      go_wp2_with (go_at_call 51;refine(HO.out _ _ _).mono ?_;rintro e w9 ⟨rfl,A⟩;have tD:=zH (tW.out _ _ J A);clear A)
      go_ret;rw[vu.out,K.out];exact⟨rfl,tD.out⟩
     ·by_cases s2:i.sign.toList=[33,61]
      ·have vu:cg (R=0):=by unfold cg;rw[y.out,s2];rfl
       go_wp2_with (go_at_call 51;refine(HO.out _ _ _).mono ?_;rintro e w9 ⟨rfl,A⟩;have tD:=zH (tW.out _ _ J A);clear A)
       go_ret;rw[vu.out,K.out];exact⟨rfl,tD.out⟩
      ·have vu:cg (R=bN (i.sign.toList==[61,61]||i.sign.toList==[33,61]) 3):=by unfold cg;rw[y.out];rfl
       go_wp2_with (go_at_call 51;refine(HO.out _ _ _).mono ?_;rintro e w9 ⟨rfl,A⟩;have tD:=zH (tW.out _ _ J A);clear A)
       go_ret;rw[vu.out,K.out];exact⟨rfl,tD.out⟩
   ·go_wp2
    go_ret;rw[y.out,K.out];exact⟨rfl,tP.out⟩
  ·
   have ew:wD=tj:=by rw[<-vx.out,o];decide
   subst ew;have tG:bR=ti:=by simpa using hB
   have hE:=dY HR ur uv (by rw[tG];simp);have i0:=q.i0;rw[o] at i0;have g7:=q.g7;have i9:=q.i9;obtain⟨n,hn⟩:=zE g.c.ins.length;obtain⟨t,ht⟩:=zE i.tI;rw[ht] at i9;rw[hn] at g7;have y:cg (R=bN (isVar n t) 15):=by unfold cg;rw[hE];simp[o,hn,ht]
   clear o hE hB q tR HV
   by_cases t0:t<0
   ·have e:isVar n t=tj:=by unfold isVar;rw[cm (by omega)];rfl
    rw[e] at y;have e0:decide (t<0)=ti:=cR t0
    go_wp2_with (go_at_call 51;refine(HO.out _ _ _).mono ?_;rintro e w9 ⟨rfl,A⟩;have tD:=zH (tW.out _ _ J A);clear A)
    go_ret;rw[y.out,K.out];exact⟨rfl,by first|exact tD.out|exact tP.out⟩
   have e0:decide (t<0)=tj:=cm t0
   by_cases t1:(n:aw)<=t
   ·have e:isVar n t=tj:=by unfold isVar;rw[cm (show¬t<(n:aw) by omega),Bool.and_false]
    rw[e] at y;have e1:decide ((n:aw)<=t)=ti:=cR t1
    go_wp2_with (go_at_call 51;refine(HO.out _ _ _).mono ?_;rintro e w9 ⟨rfl,A⟩;have tD:=zH (tW.out _ _ J A);clear A)
    go_ret;rw[y.out,K.out];exact⟨rfl,by first|exact tD.out|exact tP.out⟩
   ·have e:isVar n t=ti:=dW.2 ⟨by omega,by omega⟩
    rw[e] at y;have e1:decide ((n:aw)<=t)=tj:=cm t1
    go_wp2_with (go_at_call 51;refine(HO.out _ _ _).mono ?_;rintro e w9 ⟨rfl,A⟩;have tD:=zH (tW.out _ _ J A);clear A)
    go_ret;rw[y.out,K.out];exact⟨rfl,by first|exact tD.out|exact tP.out⟩
theorem uH (m:Mo)(g:Fn)(i:Ins)(w:World)(h:nR w m g)(hi:i.args_in w)(yr:i.args.length<=40)(AF:∀v,isVar g.vs.length v=ti->m.known (ax g.vs v)=ti)(o:i.op=9\/i.op=12\/i.op=18):
  zP 49 #[tv m.cells,tv g.cells,tv i.cells] w (Z U (aF m g i)):=by
 obtain⟨ao,N,W1,hN,yv,xj,HN,tR,AH,AI,A,tU,HJ,A5,xl,yy,yW,zc⟩:=fE h hi yr;obtain⟨wD,bD,bR,o1,o2,vx,xo,vy,xp,xr,we⟩:=fI (g:=g) (i:=i) (by omega) (by omega);rw[AH.out];simp only[Mo.cells,gc,Ins.cells] at xj⊢;have zd:=zH xj;obtain⟨R,hR⟩:=zE (aF m g i);rw[hR];have HR:=zH hR;have wg:=zH h;have AK:=zH o;have zj:=A.out W1 (aq _ _);have zp:=zH zj.ir;clear h hi yr AF xj hR o;have zr:W1.heap.size=N+3:=yv;go_enter func49,sY
 go_upto_region 1 with(fail)
 rw[zd.out];clear zd zj hN
 go_upto_region 2 with(first
  |(refine cf rfl 42 _ rfl (N+2) rfl 42 _ (0,0) _ zp.out cA rfl (by kernel_rfl) ?_)
  |(go_at_call 86;refine(yy.out _).mono ?_;rintro e w2 ⟨rfl,ue⟩;have zs:=zH ue;clear ue))
 have ue:aE (N+3) W1 w2:=by have:=zs.out;rwa [zr] at this
 have i0:=(A.out w2 ue).i0;have wj:=zH ue;clear ue zr yv zs;rw[xr.out]
 go_upto_region 4 with(fail)
 clear i0 o1 o2;obtain⟨S,hS⟩:∃S:World->Prop,S=aE (N+3) W1:=⟨_,rfl⟩
 have q:cg (∀w',S w'↔aE (N+3) W1 w'):=λw'=>by rw[hS]
 have wk:cg (∀w',S w'->∀j u,(#[tm g.c.nm,Z U g.c.par,tn ao g.vs.length g.c.varsC,tt g.c.rp,tm g.c.rto,Z U g.c.rcl,tn g.c.fromA g.c.nfrom g.c.fromC,tn g.c.insA g.c.ins.length g.c.insC]:dl cw).toList[j]?=tf u->w'.cell? ((⟨N+1,0,th⟩:fg).add j)=tf u):=λw' h=>dC (A.out w' ((q.out w').1 h)).gr;have xt:cg (∀w',S w'->∀j u,(#[Z U i.op,Z U i.d,Z U i.a,Z U i.b,Z U i.f,Z U i.n,tm i.sign,i.argsV,i.modeV,Z U i.tI,Z U i.els,Z U i.ln,Z U i.cl]:dl cw).toList[j]?=tf u->w'.cell? ((⟨N+1+1,0,th⟩:fg).add j)=tf u):=λw' h=>dC (A.out w' ((q.out w').1 h)).ir;have K:cg (∀w',S w'->True/\True):=λ_ _=>⟨trivial,trivial⟩
 clear hS
 go_cut [7,37] from 23 to 37 (λd b wc=>d= Z U (if wD=ti then(i.d,ti) else(0,tj)).1/\b= tt (!(bR&&(!wD||bD)))/\aE (N+3) W1 wc)
 case first=>
  have AM:S w2.drew:=(q.out _).2 wj.out.drew;cases wD with
  |true=>
   simp only[lk];refine aj 5 S (by kernel_rfl) ?_;refine zT 0 rfl K.out ?_
   try go_simp
   refine zT 1 rfl K.out ?_
   try go_simp
   refine zL 2 rfl 38 ⟨N+1,0,th⟩ wk.out cJ ?_
   try go_simp
   refine zT 3 rfl K.out ?_
   try go_simp
   refine zO 4 rfl λK' y=> ?_;go_simp;have wl:∀c,S (w2.alloc c).drew:=λc=>(q.out _).2 ((wj.out.alloc (by have:=wj.out.size;rw[tR.out] at this;exact this) _).drew);have zv:ak (w2.alloc (tA #[Z U i.d] 3)).drew (tf ⟨w2.heap.size,0,th⟩) [i.d]:=ak.one w2 i.d rfl;refine y _ _ (wl _) ?_;clear y
   try go_simp
   refine zK rfl λK' y=> ?_;go_simp;go_at_call 87;refine(xl.out _ (tf ⟨w2.heap.size,0,th⟩) 1 [i.d] (by simp) zv).mono ?_;rintro e w5 ⟨rfl,An⟩;have AN:S w5:=(q.out _).2 (((q.out _).1 (wl _)).trans (An.mono (by have:=((q.out _).1 (wl (tA #[Z U i.d] 3))).size;rw[tR.out] at this;exact this)));rw[xo.out];refine y _ _ ?_;clear y An wl AM zv
   try go_simp
   cases bD with
   |false=>
    refine bf 6 rfl (by kernel_rfl) (by kernel_rfl) (·=w5) rfl ?_;dsimp only[gO]
    repeat (go_big_quiet_step (fail))
    refine dr ?_;rintro _ rfl;go_wp2
    go_meet
    case rel=>exact⟨rfl,by simp,(q.out _).1 AN⟩
   |true=>
    refine ek (S:=S) (k:=12) _ _ _ _ ?_;refine zT 6 rfl K.out ?_
    try go_simp
    refine zT 7 rfl K.out ?_
    try go_simp
    refine zT 8 rfl K.out ?_
    try go_simp
    refine zL 9 rfl 38 ⟨N+1,0,th⟩ wk.out cJ ?_
    try go_simp
    refine zL 10 rfl 42 ⟨N+1+1,0,th⟩ xt.out cA ?_
    try go_simp
    refine zO 11 rfl λK' y=> ?_;go_simp;go_at_call 88;refine(yW.out _ ((q.out _).1 (by assumption))).mono ?_;rintro e w7 ⟨ro,rc,rfl,ur,uv⟩;have tW:S w7:=(q.out _).2 (((q.out _).1 (by assumption)).trans (uv.mono (by have:=((q.out _).1 (by assumption)).size;rw[tR.out] at this;exact this)));have ux:=ur.at_;refine y _ _ tW ?_;clear y ur uv
    try go_simp
    refine zK rfl λK' y=> ?_;go_simp;go_at_call 87;refine(xl.out _ _ _ _ zc.out ux).mono ?_;rintro e w8 ⟨rfl,vc⟩;have xF:=((q.out _).1 tW).trans (vc.mono (by have:=((q.out _).1 tW).size;rw[tR.out] at this;exact this));rw[vy.out];refine y _ _ ?_;clear y ux vc
    try go_simp
    refine bf 13 rfl (by kernel_rfl) (by kernel_rfl) (·=w8) rfl ?_;dsimp only[gO]
    repeat (go_big_quiet_step (fail))
    refine dr ?_;rintro _ rfl;go_wp2
    go_meet
    case rel=>exact⟨rfl,by simp,xF⟩
  |false=>
    simp only[nF,if_false];refine aj 12 S (by kernel_rfl) ?_;refine zT 0 rfl K.out ?_
    try go_simp
    refine zT 1 rfl K.out ?_
    try go_simp
    refine zN 2 rfl ?_
    try go_simp
    refine zN 3 rfl ?_
    try go_simp
    refine zN 4 rfl ?_
    try go_simp
    refine zN 5 rfl ?_
    try go_simp
    refine zN 6 rfl ?_
    try go_simp
    refine zT 7 rfl K.out ?_
    try go_simp
    refine zT 8 rfl K.out ?_
    try go_simp
    refine zL 9 rfl 38 ⟨N+1,0,th⟩ wk.out cJ ?_
    try go_simp
    refine zL 10 rfl 42 ⟨N+1+1,0,th⟩ xt.out cA ?_
    try go_simp
    refine zO 11 rfl λK' y=> ?_;go_simp;go_at_call 88;refine(yW.out _ ((q.out _).1 (by assumption))).mono ?_;rintro e w7 ⟨ro,rc,rfl,ur,uv⟩;have tW:S w7:=(q.out _).2 (((q.out _).1 (by assumption)).trans (uv.mono (by have:=((q.out _).1 (by assumption)).size;rw[tR.out] at this;exact this)));have ux:=ur.at_;refine y _ _ tW ?_;clear y ur uv
    try go_simp
    refine zK rfl λK' y=> ?_;go_simp;go_at_call 87;refine(xl.out _ _ _ _ zc.out ux).mono ?_;rintro e w8 ⟨rfl,vc⟩;have xF:=((q.out _).1 tW).trans (vc.mono (by have:=((q.out _).1 tW).size;rw[tR.out] at this;exact this));rw[vy.out];refine y _ _ ?_;clear y ux vc
    try go_simp
    refine bf 13 rfl (by kernel_rfl) (by kernel_rfl) (·=w8) rfl ?_;dsimp only[gO]
    repeat (go_big_quiet_step (fail))
    refine dr ?_;rintro _ rfl;go_wp2
    go_meet
    case rel=>exact⟨rfl,by simp,xF⟩
 case rest=>
  obtain⟨rfl,rfl,J⟩:=hcut;have xT:=zH (tU.out wc J);have t:=A.out wc J;have HV:cg (∀v,isVar g.vs.length v=ti->∃(k b vd:bj) (x:Vr),v=(k:aw)/\k<g.vs.length/\ao=tf ⟨b,vd,th⟩/\ax g.vs v=(x.ptr,x.tgt)/\∀W,aE (N+3) W1 W->W.cell? ⟨b,vd+k*3,th⟩=tf (tt x.ptr)/\W.cell? ⟨b,vd+k*3+1,th⟩=tf (tm x.tgt)):=λv hv=>by
   obtain⟨k,b,vd,x,q1,q2,q3,q4,q5,q6,q7⟩:=dM wg.out.vars hv;refine⟨k,b,vd,x,q1,q2,by rw[<-AI.out];exact q3,q5,λW hW=> ?_⟩;have ws:=tU.out W hW;rw[HN.out] at q4;exact⟨by rw[ws.cell (p:=⟨b,_,th⟩) (show b<N by omega)];exact q6,by rw[ws.cell (p:=⟨b,_,th⟩) (show b<N by omega)];exact q7⟩
  have AS:=wg.out.vl;unfold du at AS;have HO:cg (∀W b f,zP 51 #[tt b,Z U f] W (Z U (bN (!b) f))):=λW b f=>bn b f W;have A6:cg (∀W W':World,aE (N+3) W1 W->aE W.heap.size W W'->aE N w W'):=λW W' h1 h2=>tU.out W' (h1.trans (h2.mono (by have:=h1.size;rw[tR.out] at this;exact this)));obtain⟨B,E⟩:=zE (bR&&(!wD||bD));rw[E];cases B with
  |false=>
   have tD:cg (R=15):=by unfold cg;rw[<-HR.out];unfold aF;rw[bw vx.out,cH (by rw[we.out];exact E)]
   clear t HV E;obtain⟨wv,At⟩:=zE ((if wD=ti then(i.d,ti) else(0,tj)):aw×ml);rw[At,qk];clear At xr;go_wp2;go_ret;rw[tD.out,HN.out];exact⟨rfl,xT.out⟩
  |true=>
  rw[rK];clear q wk xt K wj xr yy zp;rcases AK.out with o|o|o
  ·
   have ew:wD=ti:=by rw[<-xp.out,o];decide
   subst ew;have ua:bR=ti:=(by simpa using E:_/\_).1;have vf:bD=ti:=(by simpa using E:_/\_).2;have ya:isVar g.vs.length i.d=ti:=by have:=xo.out;rw[vf] at this;simpa[aK] using this
   have yb:isVar g.vs.length i.a=ti:=fB (by rw[vy.out];exact ua) (by rw[o];decide);have hE:=dY HR vx we (by rw[ua,vf];simp);have i0:=t.i0;rw[o] at i0;have g7:=t.g7;have g2:=t.g2;have i2:=t.i2;obtain⟨kd,tE,tG,G,yd,AT,ye,up,ub⟩:=HV.out i.d ya;have vh:=zH ub;obtain⟨d0,d1⟩:=ub wc J;clear ub;have AW:(kd:aw)<(g.vs.length:aw):=by omega
   obtain⟨ka,vm,vp,xa,vq,A1,xf,uc,ud⟩:=HV.out i.a yb;have vr:=zH ud;obtain⟨a0,a1⟩:=ud wc J;clear ud;have A2:(ka:aw)<(g.vs.length:aw):=by omega
   subst ye;simp only[dj,eV,and_true] at xf;obtain⟨rfl,rfl⟩:=xf;rw[vq] at i2;have z:cg (∀p:BW wc,aE (N+3) W1 p.w):=λp=>J.trans (p.h.mono (by have:=J.size;rw[tR.out] at this;exact this));have tM:cg (∀p:BW wc,Bx m g i (tf ⟨tE,tG,th⟩) N p.w):=λp=>A.out p.w (z.out p);have vt:cg (∀(p:BW wc) b f,zP 51 #[tt b,Z U f] p.w (Z U (bN (!b) f))):=λp b f=>bn b f p.w;have Bk:=zH uc;have Bm:=zH up;obtain⟨pa,yi⟩:=zE xa.ptr;obtain⟨dq,tP⟩:=zE (((pa,xa.tgt):Ty)==(G.ptr,G.tgt));have Ax:∀w,(gt 10000 32 (tv #[tt pa,tm xa.tgt]) (tv #[tt G.ptr,tm G.tgt])).run am w= .ok dq w:=λw=>by rw[dB,tP]
   rw[yi] at uc a0;have tD:cg (R=bN (pa&&dq) 7):=by unfold cg;rw[hE];simp only[o,au,uc,up,tP];simp
   have q0:∀p:BW wc,p.w.cell? ⟨N+1,2,th⟩=tf (tn (tf ⟨tE,tG,th⟩) g.vs.length g.c.varsC):=λp=>(tM.out p).g2;have q1:∀p:BW wc,p.w.cell? ⟨N+2,2,th⟩=tf (Z U (ka:aw)):=λp=>by rw[<-vq];exact(tM.out p).i2
   have q2:∀p:BW wc,p.w.cell? ⟨tE,tG+ka*3,th⟩=tf (tt pa):=λp=>by rw[<-yi];exact(vr.out p.w (z.out p)).1
   have q3:∀p:BW wc,p.w.cell? ⟨tE,tG+ka*3+1,th⟩=tf (tm xa.tgt):=λp=>(vr.out p.w (z.out p)).2;have q4:∀p:BW wc,p.w.cell? ⟨tE,tG+kd*3,th⟩=tf (tt G.ptr):=λp=>(vh.out p.w (z.out p)).1;have q5:∀p:BW wc,p.w.cell? ⟨tE,tG+kd*3+1,th⟩=tf (tm G.tgt):=λp=>(vh.out p.w (z.out p)).2;clear tP yi uc up;simp only[lk];rw[yd];clear o hE E t A HV;cases pa<;>cases dq
   all_goals
    go_wp2_with fail
    clear i0 g2 i2 a0 a1 d0 d1;refine zQ ?_
    repeat (go_big_quiet_step (first|(go_at_call 51;exact bg (vt.out _ _ _))))
    refine dr ?_;rintro _ ⟨p,rfl⟩;have vu:=zH (tU.out p.w (z.out p));clear q0 q1 q2 q3 q4 q5;go_wp2;go_ret;rw[tD.out,HN.out];exact⟨rfl,vu.out⟩
  ·
   have ew:wD=ti:=by rw[<-xp.out,o];decide
   subst ew;have ua:bR=ti:=(by simpa using E:_/\_).1;have vf:bD=ti:=(by simpa using E:_/\_).2;have ya:isVar g.vs.length i.d=ti:=by have:=xo.out;rw[vf] at this;simpa[aK] using this
   have hE:=dY HR vx we (by rw[ua,vf];simp);have i0:=t.i0;rw[o] at i0;have g7:=t.g7;have g2:=t.g2;obtain⟨kd,tE,tG,G,yd,AT,ye,up,ub⟩:=HV.out i.d ya;have vh:=zH ub;obtain⟨d0,d1⟩:=ub wc J;clear ub;have AW:(kd:aw)<(g.vs.length:aw):=by omega
   subst ye;have z:cg (∀p:BW wc,aE (N+3) W1 p.w):=λp=>J.trans (p.h.mono (by have:=J.size;rw[tR.out] at this;exact this));have tM:cg (∀p:BW wc,Bx m g i (tf ⟨tE,tG,th⟩) N p.w):=λp=>A.out p.w (z.out p);have vt:cg (∀(p:BW wc) b f,zP 51 #[tt b,Z U f] p.w (Z U (bN (!b) f))):=λp b f=>bn b f p.w;have i4:=t.i4;have m0:=t.m0;have tS:R=if i.f<0 then 15 else match m.ss[i.f.toNat]? with
    |none=>15
    |some s=>bN (ax g.vs i.d==(ti,s.s.nm)) 7:=by rw[hE];simp only[o,au];simp;rfl
   obtain⟨f,hf⟩:=zE i.f;rw[hf] at tS i4;have A3:=wg.out.mo.ns;unfold du at A3
   by_cases yk:f<0
   ·have tD:cg (R=15):=by unfold cg;rw[tS,cH yk]
    have e0:decide (f<0)=ti:=cR yk;clear o hE tS E t A HV hf;go_wp2;go_ret;rw[tD.out,HN.out];exact⟨rfl,xT.out⟩
   obtain⟨F,rfl⟩:∃F:bj,f=(F:aw):=⟨f.toNat,by omega⟩
   rw[bw yk,ep] at tS
   by_cases yp:F<m.ss.length
   rotate_left
   ·have tD:cg (R=15):=by unfold cg;rw[tS,m9 (by omega)]
    have A4:(m.ss.length:aw)<=(F:aw):=by omega
    clear o hE tS E t A HV hf;go_wp2;go_ret;rw[tD.out,HN.out];exact⟨rfl,xT.out⟩
   have A4:(F:aw)<(m.ss.length:aw):=by omega
   obtain⟨st,hst⟩:∃s,m.ss[F]?=tf s:=⟨_,ap yp⟩
   rw[hst,up] at tS;obtain⟨sb,so,yq,AD,AE⟩:=wg.out.mo.srow (by intro e;rw[e] at yp;simp at yp);rw[yq] at m0;obtain⟨dq,tP⟩:=zE (((G.ptr,G.tgt):Ty)==(ti,st.s.nm));have Ax:∀w,(gt 10000 32 (tv #[tt G.ptr,tm G.tgt]) (tv #[tt ti,tm st.s.nm])).run am w= .ok dq w:=λw=>by rw[dB,tP]
   have tD:cg (R=bN dq 7):=by unfold cg;rw[tS,<-tP]
   have q0:∀p:BW wc,p.w.cell? ⟨N+1,2,th⟩=tf (tn (tf ⟨tE,tG,th⟩) g.vs.length g.c.varsC):=λp=>(tM.out p).g2;have q1:∀p:BW wc,p.w.cell? ⟨N+2,4,th⟩=tf (Z U (F:aw)):=λp=>by rw[<-hf];exact(tM.out p).i4
   have q2:∀p:BW wc,p.w.cell? ⟨N,0,th⟩=tf (tn (tf ⟨sb,so,th⟩) m.ss.length m.sC):=λp=>by rw[<-yq];exact(tM.out p).m0
   have q3:∀p:BW wc,p.w.cell? ⟨sb,so+F*4,th⟩=tf (tm st.s.nm):=λp=>by
    have ws:=tU.out p.w (z.out p);rw[HN.out] at AD;rw[ws.cell (p:=⟨sb,_,th⟩) (show sb<N by omega)];exact AE F st hst 0 _ rfl
   have q4:∀p:BW wc,p.w.cell? ⟨tE,tG+kd*3,th⟩=tf (tt G.ptr):=λp=>(vh.out p.w (z.out p)).1;have q5:∀p:BW wc,p.w.cell? ⟨tE,tG+kd*3+1,th⟩=tf (tm G.tgt):=λp=>(vh.out p.w (z.out p)).2;clear tP up tS hf hst yq AD AE;simp only[lk];rw[yd];clear o hE E t A HV;cases dq
   all_goals
    go_wp2_with fail
    clear i0 g2 i4 m0 d0 d1;refine zQ ?_
    repeat (go_big_quiet_step (first|(go_at_call 51;exact bg (vt.out _ _ _))))
    refine dr ?_;rintro _ ⟨p,rfl⟩;have vu:=zH (tU.out p.w (z.out p));clear q0 q1 q2 q3 q4 q5;go_wp2;go_ret;rw[tD.out,HN.out];exact⟨rfl,vu.out⟩
  ·
   have ew:wD=tj:=by rw[<-xp.out,o];decide
   subst ew;have ua:bR=ti:=by simpa using E
   have yb:isVar g.vs.length i.a=ti:=fB (by rw[vy.out];exact ua) (by rw[o];decide);have hE:=dY HR vx we (by rw[ua];simp);have i0:=t.i0;rw[o] at i0;have g7:=t.g7;have g2:=t.g2;have i2:=t.i2;obtain⟨ka,vm,vp,xa,vq,A1,xf,uc,ud⟩:=HV.out i.a yb;have vr:=zH ud;obtain⟨a0,a1⟩:=ud wc J;clear ud;have A2:(ka:aw)<(g.vs.length:aw):=by omega
   subst xf;rw[vq] at i2;have z:cg (∀p:BW wc,aE (N+3) W1 p.w):=λp=>J.trans (p.h.mono (by have:=J.size;rw[tR.out] at this;exact this));have tM:cg (∀p:BW wc,Bx m g i (tf ⟨vm,vp,th⟩) N p.w):=λp=>A.out p.w (z.out p);have vt:cg (∀(p:BW wc) b f,zP 51 #[tt b,Z U f] p.w (Z U (bN (!b) f))):=λp b f=>bn b f p.w;obtain⟨dq,tP⟩:=zE (((xa.ptr,xa.tgt):Ty)==(g.c.rp,g.c.rto));have Ax:∀w,(gt 10000 32 (tv #[tt xa.ptr,tm xa.tgt]) (tv #[tt g.c.rp,tm g.c.rto])).run am w= .ok dq w:=λw=>by rw[dB,tP]
   have tD:cg (R=bN dq 7):=by unfold cg;rw[hE,uc,<-tP];simp only[o];simp[Fn.ret]
   have q0:∀p:BW wc,p.w.cell? ⟨N+1,2,th⟩=tf (tn (tf ⟨vm,vp,th⟩) g.vs.length g.c.varsC):=λp=>(tM.out p).g2;have q1:∀p:BW wc,p.w.cell? ⟨N+2,2,th⟩=tf (Z U (ka:aw)):=λp=>by rw[<-vq];exact(tM.out p).i2
   have q2:∀p:BW wc,p.w.cell? ⟨vm,vp+ka*3,th⟩=tf (tt xa.ptr):=λp=>(vr.out p.w (z.out p)).1;have q3:∀p:BW wc,p.w.cell? ⟨vm,vp+ka*3+1,th⟩=tf (tm xa.tgt):=λp=>(vr.out p.w (z.out p)).2;have q4:∀p:BW wc,p.w.cell? ⟨N+1,3,th⟩=tf (tt g.c.rp):=λp=>(tM.out p).g3;have q5:∀p:BW wc,p.w.cell? ⟨N+1,3+1,th⟩=tf (tm g.c.rto):=λp=>(tM.out p).g4;clear tP uc;clear o hE E t A HV;cases dq
   all_goals
    go_wp2_with fail
    clear i0 g2 i2 a0 a1;refine zQ ?_
    repeat (go_big_quiet_step (first|(go_at_call 51;exact bg (vt.out _ _ _))))
    refine dr ?_;rintro _ ⟨p,rfl⟩;have vu:=zH (tU.out p.w (z.out p));clear q0 q1 q2 q3 q4 q5;go_wp2;go_ret;rw[tD.out,HN.out];exact⟨rfl,vu.out⟩
theorem uI (m:Mo)(g:Fn)(i:Ins)(w:World)(h:nR w m g)(hi:i.args_in w)(yy:i.args.length<=40)(yW:∀v,isVar g.vs.length v=ti->m.known (ax g.vs v)=ti)(q:i.op=7\/i.op=8\/i.op=10\/i.op=11):
  zP 49 #[tv m.cells,tv g.cells,tv i.cells] w (Z U (aF m g i)):=by
 obtain⟨ao,N,W1,hN,zc,ws,HN,tR,ux,AI,tM,xf,HJ,A6,xj,zd,zj,zp⟩:=fE h hi yy;obtain⟨wD,bD,bR,o1,o2,vc,xl,tP,vy,xo,vd⟩:=fI (g:=g) (i:=i) (by omega) (by omega);rw[ux.out];simp only[Mo.cells,gc,Ins.cells] at ws⊢;have zr:=zH ws;obtain⟨R,hR⟩:=zE (aF m g i);rw[hR];have HR:=zH hR;have we:=zH yW;have zs:=zH h;have AK:=zH q;have zv:=tM.out W1 (aq _ _);have An:=zH zv.ir;clear h hi yy yW ws hR q;have At:W1.heap.size=N+3:=zc;go_enter func49,sY
 go_upto_region 1 with(fail)
 rw[zr.out];clear zr zv hN
 go_upto_region 2 with(first
  |(refine cf rfl 42 _ rfl (N+2) rfl 42 _ (0,0) _ An.out cA rfl (by kernel_rfl) ?_)
  |(go_at_call 86;refine(zd.out _).mono ?_;rintro e w2 ⟨rfl,uv⟩;have Ax:=zH uv;clear uv))
 have uv:aE (N+3) W1 w2:=by have:=Ax.out;rwa [At] at this
 have i0:=(tM.out w2 uv).i0;have wg:=zH uv;clear uv At zc Ax;rw[xo.out]
 go_upto_region 4 with(fail)
 clear i0 o1 o2;obtain⟨S,hS⟩:∃S:World->Prop,S=aE (N+3) W1:=⟨_,rfl⟩
 have t:cg (∀w',S w'↔aE (N+3) W1 w'):=λw'=>by rw[hS]
 have wj:cg (∀w',S w'->∀j u,(#[tm g.c.nm,Z U g.c.par,tn ao g.vs.length g.c.varsC,tt g.c.rp,tm g.c.rto,Z U g.c.rcl,tn g.c.fromA g.c.nfrom g.c.fromC,tn g.c.insA g.c.ins.length g.c.insC]:dl cw).toList[j]?=tf u->w'.cell? ((⟨N+1,0,th⟩:fg).add j)=tf u):=λw' h=>dC (tM.out w' ((t.out w').1 h)).gr;have xp:cg (∀w',S w'->∀j u,(#[Z U i.op,Z U i.d,Z U i.a,Z U i.b,Z U i.f,Z U i.n,tm i.sign,i.argsV,i.modeV,Z U i.tI,Z U i.els,Z U i.ln,Z U i.cl]:dl cw).toList[j]?=tf u->w'.cell? ((⟨N+1+1,0,th⟩:fg).add j)=tf u):=λw' h=>dC (tM.out w' ((t.out w').1 h)).ir;have tE:cg (∀w',S w'->True/\True):=λ_ _=>⟨trivial,trivial⟩
 clear hS
 go_cut [7,37] from 23 to 37 (λd b wc=>d= Z U (if wD=ti then(i.d,ti) else(0,tj)).1/\b= tt (!(bR&&(!wD||bD)))/\aE (N+3) W1 wc)
 case first=>
  have AM:S w2.drew:=(t.out _).2 wg.out.drew;cases wD with
  |true=>
   simp only[lk];refine aj 5 S (by kernel_rfl) ?_;refine zT 0 rfl tE.out ?_
   try go_simp
   refine zT 1 rfl tE.out ?_
   try go_simp
   refine zL 2 rfl 38 ⟨N+1,0,th⟩ wj.out cJ ?_
   try go_simp
   refine zT 3 rfl tE.out ?_
   try go_simp
   refine zO 4 rfl λK' A=> ?_;go_simp;have wk:∀c,S (w2.alloc c).drew:=λc=>(t.out _).2 ((wg.out.alloc (by have:=wg.out.size;rw[tR.out] at this;exact this) _).drew);have AD:ak (w2.alloc (tA #[Z U i.d] 3)).drew (tf ⟨w2.heap.size,0,th⟩) [i.d]:=ak.one w2 i.d rfl;refine A _ _ (wk _) ?_;clear A
   try go_simp
   refine zK rfl λK' A=> ?_;go_simp;go_at_call 87;refine(xj.out _ (tf ⟨w2.heap.size,0,th⟩) 1 [i.d] (by simp) AD).mono ?_;rintro e w5 ⟨rfl,AE⟩;have AN:S w5:=(t.out _).2 (((t.out _).1 (wk _)).trans (AE.mono (by have:=((t.out _).1 (wk (tA #[Z U i.d] 3))).size;rw[tR.out] at this;exact this)));rw[xl.out];refine A _ _ ?_;clear A AE wk AM AD
   try go_simp
   cases bD with
   |false=>
    refine bf 6 rfl (by kernel_rfl) (by kernel_rfl) (·=w5) rfl ?_;dsimp only[gO]
    repeat (go_big_quiet_step (fail))
    refine dr ?_;rintro _ rfl;go_wp2
    go_meet
    case rel=>exact⟨rfl,by simp,(t.out _).1 AN⟩
   |true=>
    refine ek (S:=S) (k:=12) _ _ _ _ ?_;refine zT 6 rfl tE.out ?_
    try go_simp
    refine zT 7 rfl tE.out ?_
    try go_simp
    refine zT 8 rfl tE.out ?_
    try go_simp
    refine zL 9 rfl 38 ⟨N+1,0,th⟩ wj.out cJ ?_
    try go_simp
    refine zL 10 rfl 42 ⟨N+1+1,0,th⟩ xp.out cA ?_
    try go_simp
    refine zO 11 rfl λK' A=> ?_;go_simp;go_at_call 88;refine(zj.out _ ((t.out _).1 (by assumption))).mono ?_;rintro e w7 ⟨ro,rc,rfl,vf,vh⟩;have tS:S w7:=(t.out _).2 (((t.out _).1 (by assumption)).trans (vh.mono (by have:=((t.out _).1 (by assumption)).size;rw[tR.out] at this;exact this)));have vm:=vf.at_;refine A _ _ tS ?_;clear A vf vh
    try go_simp
    refine zK rfl λK' A=> ?_;go_simp;go_at_call 87;refine(xj.out _ _ _ _ zp.out vm).mono ?_;rintro e w8 ⟨rfl,vp⟩;have xr:=((t.out _).1 tS).trans (vp.mono (by have:=((t.out _).1 tS).size;rw[tR.out] at this;exact this));rw[tP.out];refine A _ _ ?_;clear A vm vp
    try go_simp
    refine bf 13 rfl (by kernel_rfl) (by kernel_rfl) (·=w8) rfl ?_;dsimp only[gO]
    repeat (go_big_quiet_step (fail))
    refine dr ?_;rintro _ rfl;go_wp2
    go_meet
    case rel=>exact⟨rfl,by simp,xr⟩
  |false=>
    simp only[nF,if_false];refine aj 12 S (by kernel_rfl) ?_;refine zT 0 rfl tE.out ?_
    try go_simp
    refine zT 1 rfl tE.out ?_
    try go_simp
    refine zN 2 rfl ?_
    try go_simp
    refine zN 3 rfl ?_
    try go_simp
    refine zN 4 rfl ?_
    try go_simp
    refine zN 5 rfl ?_
    try go_simp
    refine zN 6 rfl ?_
    try go_simp
    refine zT 7 rfl tE.out ?_
    try go_simp
    refine zT 8 rfl tE.out ?_
    try go_simp
    refine zL 9 rfl 38 ⟨N+1,0,th⟩ wj.out cJ ?_
    try go_simp
    refine zL 10 rfl 42 ⟨N+1+1,0,th⟩ xp.out cA ?_
    try go_simp
    refine zO 11 rfl λK' A=> ?_;go_simp;go_at_call 88;refine(zj.out _ ((t.out _).1 (by assumption))).mono ?_;rintro e w7 ⟨ro,rc,rfl,vf,vh⟩;have tS:S w7:=(t.out _).2 (((t.out _).1 (by assumption)).trans (vh.mono (by have:=((t.out _).1 (by assumption)).size;rw[tR.out] at this;exact this)));have vm:=vf.at_;refine A _ _ tS ?_;clear A vf vh
    try go_simp
    refine zK rfl λK' A=> ?_;go_simp;go_at_call 87;refine(xj.out _ _ _ _ zp.out vm).mono ?_;rintro e w8 ⟨rfl,vp⟩;have xr:=((t.out _).1 tS).trans (vp.mono (by have:=((t.out _).1 tS).size;rw[tR.out] at this;exact this));rw[tP.out];refine A _ _ ?_;clear A vm vp
    try go_simp
    refine bf 13 rfl (by kernel_rfl) (by kernel_rfl) (·=w8) rfl ?_;dsimp only[gO]
    repeat (go_big_quiet_step (fail))
    refine dr ?_;rintro _ rfl;go_wp2
    go_meet
    case rel=>exact⟨rfl,by simp,xr⟩
 case rest=>
  obtain⟨rfl,rfl,z⟩:=hcut;have AS:=zH (xf.out wc z);have o:=tM.out wc z;have K:cg (∀v,isVar g.vs.length v=ti->∃(k b vq:bj) (x:Vr),v=(k:aw)/\k<g.vs.length/\ao=tf ⟨b,vq,th⟩/\ax g.vs v=(x.ptr,x.tgt)/\∀W,aE (N+3) W1 W->W.cell? ⟨b,vq+k*3,th⟩=tf (tt x.ptr)/\W.cell? ⟨b,vq+k*3+1,th⟩=tf (tm x.tgt)):=λv hv=>by
   obtain⟨k,b,vq,x,q1,q2,q3,q4,q5,q6,q7⟩:=dM zs.out.vars hv;refine⟨k,b,vq,x,q1,q2,by rw[<-AI.out];exact q3,q5,λW hW=> ?_⟩;have AF:=xf.out W hW;rw[HN.out] at q4;exact⟨by rw[AF.cell (p:=⟨b,_,th⟩) (show b<N by omega)];exact q6,by rw[AF.cell (p:=⟨b,_,th⟩) (show b<N by omega)];exact q7⟩
  have AT:=zs.out.vl;unfold du at AT;have HO:cg (∀W b f,zP 51 #[tt b,Z U f] W (Z U (bN (!b) f))):=λW b f=>bn b f W;have wl:cg (∀W W':World,aE (N+3) W1 W->aE W.heap.size W W'->aE N w W'):=λW W' h1 h2=>xf.out W' (h1.trans (h2.mono (by have:=h1.size;rw[tR.out] at this;exact this)));obtain⟨B,hB⟩:=zE (bR&&(!wD||bD));rw[hB];cases B with
  |false=>
   have vr:cg (R=15):=by unfold cg;rw[<-HR.out];unfold aF;rw[bw vc.out,cH (by rw[vd.out];exact hB)]
   clear o K hB;obtain⟨wv,AH⟩:=zE ((if wD=ti then(i.d,ti) else(0,tj)):aw×ml);rw[AH,qk];clear AH xo;go_wp2;go_ret;rw[vr.out,HN.out];exact⟨rfl,AS.out⟩
  |true=>
  rw[rK];clear t wj xp tE wg xo zd An;rcases AK.out with q|q|q|q
  ·
   have ew:wD=ti:=by rw[<-vy.out,q];decide
   subst ew;have tD:bR=ti:=(by simpa using hB:_/\_).1;have vt:bD=ti:=(by simpa using hB:_/\_).2;have vu:isVar g.vs.length i.d=ti:=by have:=xl.out;rw[vt] at this;simpa[aK] using this
   have E:isVar g.vs.length i.a=ti:=fB (by rw[tP.out];exact tD) (by rw[q];decide);have hE:=dY HR vc vd (by rw[tD,vt];simp);have i0:=o.i0;rw[q] at i0;have g7:=o.g7;have g2:=o.g2;have i2:=o.i2;obtain⟨ka,xt,xF,xa,tU,tW,ua,ub,G⟩:=K.out i.a E;have xT:=zH G;obtain⟨a0,a1⟩:=G wc z;clear G;have uc:(ka:aw)<(g.vs.length:aw):=by omega
   obtain⟨kd,AW,A1,xd,ya,yb,yd,ye,ud⟩:=K.out i.d vu;have A2:=zH ud;obtain⟨d0,d1⟩:=ud wc z;clear ud;have yi:(kd:aw)<(g.vs.length:aw):=by omega
   have J:R=cu m g.vs i i.d tj:=by rw[hE];simp[q,au]
   have vr:=zH J;have y:=xu m g i wc (HJ.out wc z) q E vu (we.out i.a E);rw[<-J,ux.out] at y;simp only[Mo.cells,gc,Ins.cells] at y;have ue:=zH y;have m0:=o.m0;have m1:=o.m1;have HG:=zH o.gr;have HI:=zH o.ir;clear J y a0 a1 d0 d1 tU tW ua ub uc ya yb yd ye yi;clear q hE hB o tM K g2 i2
   go_wp2_with (first
    |(refine cf rfl 38 _ rfl (N+1) rfl 38 _ (0,0) _ HG.out cJ rfl (by kernel_rfl) ?_)
    |(refine cf rfl 42 _ rfl (N+2) rfl 42 _ (0,0) _ HI.out cA rfl (by kernel_rfl) ?_)
    |(go_at_call 90;refine ue.out.mono ?_;rintro e w9 ⟨rfl,tG⟩;have up:=zH (wl.out _ _ z tG);clear tG))
   go_ret;rw[HN.out];exact⟨rfl,up.out⟩
  ·
   have ew:wD=tj:=by rw[<-vy.out,q];decide
   subst ew;have tD:bR=ti:=by simpa using hB
   have E:isVar g.vs.length i.a=ti:=fB (by rw[tP.out];exact tD) (by rw[q];decide);have vx:isVar g.vs.length i.b=ti:=xz (by rw[tP.out];exact tD) (by rw[q];decide);have hE:=dY HR vc vd (by rw[tD];simp);have i0:=o.i0;rw[q] at i0;have g7:=o.g7;have g2:=o.g2;have i2:=o.i2;have i3:=o.i3;obtain⟨ka,xt,xF,xa,tU,tW,ua,ub,G⟩:=K.out i.a E;have xT:=zH G;obtain⟨a0,a1⟩:=G wc z;clear G;have uc:(ka:aw)<(g.vs.length:aw):=by omega
   obtain⟨kb,A3,A4,xb,yk,yp,yq,yr,ur⟩:=K.out i.b vx;have A5:=zH ur;obtain⟨b0,b1⟩:=ur wc z;clear ur;have yv:(kb:aw)<(g.vs.length:aw):=by omega
   have J:R=cu m g.vs i i.b tj:=by rw[hE];simp[q,au]
   have vr:=zH J;have y:=xw m g i wc (HJ.out wc z) q E vx (we.out i.a E);rw[<-J,ux.out] at y;simp only[Mo.cells,gc,Ins.cells] at y;have ue:=zH y;have m0:=o.m0;have m1:=o.m1;have HG:=zH o.gr;have HI:=zH o.ir;clear J y a0 a1 b0 b1 tU tW ua ub uc yk yp yq yr yv;clear q hE hB o tM K g2 i2 i3
   go_wp2_with (first
    |(refine cf rfl 38 _ rfl (N+1) rfl 38 _ (0,0) _ HG.out cJ rfl (by kernel_rfl) ?_)
    |(refine cf rfl 42 _ rfl (N+2) rfl 42 _ (0,0) _ HI.out cA rfl (by kernel_rfl) ?_)
    |(go_at_call 90;refine ue.out.mono ?_;rintro e w9 ⟨rfl,tG⟩;have up:=zH (wl.out _ _ z tG);clear tG))
   go_ret;rw[HN.out];exact⟨rfl,up.out⟩
  ·
   have ew:wD=ti:=by rw[<-vy.out,q];decide
   subst ew;have tD:bR=ti:=(by simpa using hB:_/\_).1;have vt:bD=ti:=(by simpa using hB:_/\_).2;have vu:isVar g.vs.length i.d=ti:=by have:=xl.out;rw[vt] at this;simpa[aK] using this
   have E:isVar g.vs.length i.a=ti:=fB (by rw[tP.out];exact tD) (by rw[q];decide);have hE:=dY HR vc vd (by rw[tD,vt];simp);have i0:=o.i0;rw[q] at i0;have g7:=o.g7;have g2:=o.g2;have i2:=o.i2;obtain⟨ka,xt,xF,xa,tU,tW,ua,ub,G⟩:=K.out i.a E;have xT:=zH G;obtain⟨a0,a1⟩:=G wc z;clear G;have uc:(ka:aw)<(g.vs.length:aw):=by omega
   obtain⟨kd,AW,A1,xd,ya,yb,yd,ye,ud⟩:=K.out i.d vu;have A2:=zH ud;obtain⟨d0,d1⟩:=ud wc z;clear ud;have yi:(kd:aw)<(g.vs.length:aw):=by omega
   have J:R=cu m g.vs i i.d ti:=by rw[hE];simp[q,au]
   have vr:=zH J;have y:=uC m g i wc (HJ.out wc z) q E vu (we.out i.a E);rw[<-J,ux.out] at y;simp only[Mo.cells,gc,Ins.cells] at y;have ue:=zH y;have m0:=o.m0;have m1:=o.m1;have HG:=zH o.gr;have HI:=zH o.ir;clear J y a0 a1 d0 d1 tU tW ua ub uc ya yb yd ye yi;clear q hE hB o tM K g2 i2
   go_wp2_with (first
    |(refine cf rfl 38 _ rfl (N+1) rfl 38 _ (0,0) _ HG.out cJ rfl (by kernel_rfl) ?_)
    |(refine cf rfl 42 _ rfl (N+2) rfl 42 _ (0,0) _ HI.out cA rfl (by kernel_rfl) ?_)
    |(go_at_call 90;refine ue.out.mono ?_;rintro e w9 ⟨rfl,tG⟩;have up:=zH (wl.out _ _ z tG);clear tG))
   go_ret;rw[HN.out];exact⟨rfl,up.out⟩
  ·
   have ew:wD=tj:=by rw[<-vy.out,q];decide
   subst ew;have tD:bR=ti:=by simpa using hB
   have E:isVar g.vs.length i.a=ti:=fB (by rw[tP.out];exact tD) (by rw[q];decide);have vx:isVar g.vs.length i.b=ti:=xz (by rw[tP.out];exact tD) (by rw[q];decide);have hE:=dY HR vc vd (by rw[tD];simp);have i0:=o.i0;rw[q] at i0;have g7:=o.g7;have g2:=o.g2;have i2:=o.i2;have i3:=o.i3;obtain⟨ka,xt,xF,xa,tU,tW,ua,ub,G⟩:=K.out i.a E;have xT:=zH G;obtain⟨a0,a1⟩:=G wc z;clear G;have uc:(ka:aw)<(g.vs.length:aw):=by omega
   obtain⟨kb,A3,A4,xb,yk,yp,yq,yr,ur⟩:=K.out i.b vx;have A5:=zH ur;obtain⟨b0,b1⟩:=ur wc z;clear ur;have yv:(kb:aw)<(g.vs.length:aw):=by omega
   have J:R=cu m g.vs i i.b ti:=by rw[hE];simp[q,au]
   have vr:=zH J;have y:=uD m g i wc (HJ.out wc z) q E vx (we.out i.a E);rw[<-J,ux.out] at y;simp only[Mo.cells,gc,Ins.cells] at y;have ue:=zH y;have m0:=o.m0;have m1:=o.m1;have HG:=zH o.gr;have HI:=zH o.ir;clear J y a0 a1 b0 b1 tU tW ua ub uc yk yp yq yr yv;clear q hE hB o tM K g2 i2 i3
   go_wp2_with (first
    |(refine cf rfl 38 _ rfl (N+1) rfl 38 _ (0,0) _ HG.out cJ rfl (by kernel_rfl) ?_)
    |(refine cf rfl 42 _ rfl (N+2) rfl 42 _ (0,0) _ HI.out cA rfl (by kernel_rfl) ?_)
    |(go_at_call 90;refine ue.out.mono ?_;rintro e w9 ⟨rfl,tG⟩;have up:=zH (wl.out _ _ z tG);clear tG))
   go_ret;rw[HN.out];exact⟨rfl,up.out⟩
theorem uJ (m:Mo)(g:Fn)(i:Ins)(w:World)(h:nR w m g)(hi:i.args_in w)(ub:i.args.length<=40)(xt:∀v,isVar g.vs.length v=ti->m.known (ax g.vs v)=ti)(z:i.op=15):
  zP 49 #[tv m.cells,tv g.cells,tv i.cells] w (Z U (aF m g i)):=by
 obtain⟨ao,N,W1,hN,vd,uc,HN,A,vf,xF,G,ud,HJ,xT,ue,vh,vm,vp⟩:=fE h hi ub;obtain⟨J,bD,bR,o1,o2,vq,vr,up,ya,ur,vt⟩:=fI (g:=g) (i:=i) (by omega) (by omega);rw[vf.out];simp only[Mo.cells,gc,Ins.cells] at uc⊢;have vu:=zH uc;obtain⟨R,hR⟩:=zE (aF m g i);rw[hR];have HR:=zH hR;have yb:=zH ub;have vx:=zH h;have yd:=zH z;have vy:=G.out W1 (aq _ _);have we:=zH vy.ir;clear h hi ub xt uc hR z;have wg:W1.heap.size=N+3:=vd;go_enter func49,sY
 go_upto_region 1 with(fail)
 rw[vu.out];clear vu vy hN
 go_upto_region 2 with(first
  |(refine cf rfl 42 _ rfl (N+2) rfl 42 _ (0,0) _ we.out cA rfl (by kernel_rfl) ?_)
  |(go_at_call 86;refine(vh.out _).mono ?_;rintro e w2 ⟨rfl,K⟩;have wj:=zH K;clear K))
 have K:aE (N+3) W1 w2:=by have:=wj.out;rwa [wg] at this
 have i0:=(G.out w2 K).i0;have tS:=zH K;clear K wg vd wj;rw[ur.out]
 go_upto_region 4 with(fail)
 clear i0 o1 o2;obtain⟨S,hS⟩:∃S:World->Prop,S=aE (N+3) W1:=⟨_,rfl⟩
 have o:cg (∀w',S w'↔aE (N+3) W1 w'):=λw'=>by rw[hS]
 have tU:cg (∀w',S w'->∀j u,(#[tm g.c.nm,Z U g.c.par,tn ao g.vs.length g.c.varsC,tt g.c.rp,tm g.c.rto,Z U g.c.rcl,tn g.c.fromA g.c.nfrom g.c.fromC,tn g.c.insA g.c.ins.length g.c.insC]:dl cw).toList[j]?=tf u->w'.cell? ((⟨N+1,0,th⟩:fg).add j)=tf u):=λw' h=>dC (G.out w' ((o.out w').1 h)).gr;have uv:cg (∀w',S w'->∀j u,(#[Z U i.op,Z U i.d,Z U i.a,Z U i.b,Z U i.f,Z U i.n,tm i.sign,i.argsV,i.modeV,Z U i.tI,Z U i.els,Z U i.ln,Z U i.cl]:dl cw).toList[j]?=tf u->w'.cell? ((⟨N+1+1,0,th⟩:fg).add j)=tf u):=λw' h=>dC (G.out w' ((o.out w').1 h)).ir;have t:cg (∀w',S w'->True/\True):=λ_ _=>⟨trivial,trivial⟩
 clear hS
 go_cut [7,37] from 23 to 37 (λd b wc=>d= Z U (if J=ti then(i.d,ti) else(0,tj)).1/\b= tt (!(bR&&(!J||bD)))/\aE (N+3) W1 wc)
 case first=>
  have ye:S w2.drew:=(o.out _).2 tS.out.drew;cases J with
  |true=>
   simp only[lk];refine aj 5 S (by kernel_rfl) ?_;refine zT 0 rfl t.out ?_
   try go_simp
   refine zT 1 rfl t.out ?_
   try go_simp
   refine zL 2 rfl 38 ⟨N+1,0,th⟩ tU.out cJ ?_
   try go_simp
   refine zT 3 rfl t.out ?_
   try go_simp
   refine zO 4 rfl λK' q=> ?_;go_simp;have tW:∀c,S (w2.alloc c).drew:=λc=>(o.out _).2 ((tS.out.alloc (by have:=tS.out.size;rw[A.out] at this;exact this) _).drew);have wk:ak (w2.alloc (tA #[Z U i.d] 3)).drew (tf ⟨w2.heap.size,0,th⟩) [i.d]:=ak.one w2 i.d rfl;refine q _ _ (tW _) ?_;clear q
   try go_simp
   refine zK rfl λK' q=> ?_;go_simp;go_at_call 87;refine(ue.out _ (tf ⟨w2.heap.size,0,th⟩) 1 [i.d] (by simp) wk).mono ?_;rintro e w5 ⟨rfl,wl⟩;have yi:S w5:=(o.out _).2 (((o.out _).1 (tW _)).trans (wl.mono (by have:=((o.out _).1 (tW (tA #[Z U i.d] 3))).size;rw[A.out] at this;exact this)));rw[vr.out];refine q _ _ ?_;clear q wl tW ye wk
   try go_simp
   cases bD with
   |false=>
    refine bf 6 rfl (by kernel_rfl) (by kernel_rfl) (·=w5) rfl ?_;dsimp only[gO]
    repeat (go_big_quiet_step (fail))
    refine dr ?_;rintro _ rfl;go_wp2
    go_meet
    case rel=>exact⟨rfl,by simp,(o.out _).1 yi⟩
   |true=>
    refine ek (S:=S) (k:=12) _ _ _ _ ?_;refine zT 6 rfl t.out ?_
    try go_simp
    refine zT 7 rfl t.out ?_
    try go_simp
    refine zT 8 rfl t.out ?_
    try go_simp
    refine zL 9 rfl 38 ⟨N+1,0,th⟩ tU.out cJ ?_
    try go_simp
    refine zL 10 rfl 42 ⟨N+1+1,0,th⟩ uv.out cA ?_
    try go_simp
    refine zO 11 rfl λK' q=> ?_;go_simp;go_at_call 88;refine(vm.out _ ((o.out _).1 (by assumption))).mono ?_;rintro e w7 ⟨ro,rc,rfl,tE,tG⟩;have E:S w7:=(o.out _).2 (((o.out _).1 (by assumption)).trans (tG.mono (by have:=((o.out _).1 (by assumption)).size;rw[A.out] at this;exact this)));have tM:=tE.at_;refine q _ _ E ?_;clear q tE tG
    try go_simp
    refine zK rfl λK' q=> ?_;go_simp;go_at_call 87;refine(ue.out _ _ _ _ vp.out tM).mono ?_;rintro e w8 ⟨rfl,tP⟩;have ux:=((o.out _).1 E).trans (tP.mono (by have:=((o.out _).1 E).size;rw[A.out] at this;exact this));rw[up.out];refine q _ _ ?_;clear q tM tP
    try go_simp
    refine bf 13 rfl (by kernel_rfl) (by kernel_rfl) (·=w8) rfl ?_;dsimp only[gO]
    repeat (go_big_quiet_step (fail))
    refine dr ?_;rintro _ rfl;go_wp2
    go_meet
    case rel=>exact⟨rfl,by simp,ux⟩
  |false=>
    simp only[nF,if_false];refine aj 12 S (by kernel_rfl) ?_;refine zT 0 rfl t.out ?_
    try go_simp
    refine zT 1 rfl t.out ?_
    try go_simp
    refine zN 2 rfl ?_
    try go_simp
    refine zN 3 rfl ?_
    try go_simp
    refine zN 4 rfl ?_
    try go_simp
    refine zN 5 rfl ?_
    try go_simp
    refine zN 6 rfl ?_
    try go_simp
    refine zT 7 rfl t.out ?_
    try go_simp
    refine zT 8 rfl t.out ?_
    try go_simp
    refine zL 9 rfl 38 ⟨N+1,0,th⟩ tU.out cJ ?_
    try go_simp
    refine zL 10 rfl 42 ⟨N+1+1,0,th⟩ uv.out cA ?_
    try go_simp
    refine zO 11 rfl λK' q=> ?_;go_simp;go_at_call 88;refine(vm.out _ ((o.out _).1 (by assumption))).mono ?_;rintro e w7 ⟨ro,rc,rfl,tE,tG⟩;have E:S w7:=(o.out _).2 (((o.out _).1 (by assumption)).trans (tG.mono (by have:=((o.out _).1 (by assumption)).size;rw[A.out] at this;exact this)));have tM:=tE.at_;refine q _ _ E ?_;clear q tE tG
    try go_simp
    refine zK rfl λK' q=> ?_;go_simp;go_at_call 87;refine(ue.out _ _ _ _ vp.out tM).mono ?_;rintro e w8 ⟨rfl,tP⟩;have ux:=((o.out _).1 E).trans (tP.mono (by have:=((o.out _).1 E).size;rw[A.out] at this;exact this));rw[up.out];refine q _ _ ?_;clear q tM tP
    try go_simp
    refine bf 13 rfl (by kernel_rfl) (by kernel_rfl) (·=w8) rfl ?_;dsimp only[gO]
    repeat (go_big_quiet_step (fail))
    refine dr ?_;rintro _ rfl;go_wp2
    go_meet
    case rel=>exact⟨rfl,by simp,ux⟩
 case rest=>
  obtain⟨rfl,rfl,tD⟩:=hcut;have yk:=zH (ud.out wc tD);have y:=G.out wc tD;have HV:cg (∀v,isVar g.vs.length v=ti->∃(k b tR:bj) (x:Vr),v=(k:aw)/\k<g.vs.length/\ao=tf ⟨b,tR,th⟩/\ax g.vs v=(x.ptr,x.tgt)/\∀W,aE (N+3) W1 W->W.cell? ⟨b,tR+k*3,th⟩=tf (tt x.ptr)/\W.cell? ⟨b,tR+k*3+1,th⟩=tf (tm x.tgt)):=λv hv=>by
   obtain⟨k,b,tR,x,q1,q2,q3,q4,q5,q6,q7⟩:=dM vx.out.vars hv;refine⟨k,b,tR,x,q1,q2,by rw[<-xF.out];exact q3,q5,λW hW=> ?_⟩;have ws:=ud.out W hW;rw[HN.out] at q4;exact⟨by rw[ws.cell (p:=⟨b,_,th⟩) (show b<N by omega)];exact q6,by rw[ws.cell (p:=⟨b,_,th⟩) (show b<N by omega)];exact q7⟩
  have yp:=vx.out.vl;unfold du at yp;have HO:cg (∀W b f,zP 51 #[tt b,Z U f] W (Z U (bN (!b) f))):=λW b f=>bn b f W;have yq:cg (∀W W':World,aE (N+3) W1 W->aE W.heap.size W W'->aE N w W'):=λW W' h1 h2=>ud.out W' (h1.trans (h2.mono (by have:=h1.size;rw[A.out] at this;exact this)));obtain⟨B,hB⟩:=zE (bR&&(!J||bD));rw[hB];cases B with
  |false=>
   have yr:cg (R=15):=by unfold cg;rw[<-HR.out];unfold aF;rw[bw vq.out,cH (by rw[vt.out];exact hB)]
   clear y HV hB;obtain⟨wv,xf⟩:=zE ((if J=ti then(i.d,ti) else(0,tj)):aw×ml);rw[xf,qk];clear xf ur;go_wp2;go_ret;rw[yr.out,HN.out];exact⟨rfl,yk.out⟩
  |true=>
  rw[rK];clear o tU uv t tS ur vh we;have z:=yd.out
  ·
   have ew:J=ti:=by rw[<-ya.out,z];decide
   subst ew;have xj:bR=ti:=(by simpa using hB:_/\_).1;have xl:bD=ti:=(by simpa using hB:_/\_).2;have xo:isVar g.vs.length i.d=ti:=by have:=vr.out;rw[xl] at this;simpa[aK] using this
   have hE:=dY HR vq vt (by rw[xj,xl];simp);have i0:=y.i0;rw[z] at i0;have g7:=y.g7;have g2:=y.g2;obtain⟨kd,zr,zs,xd,yv,yy,yW,zc,vc⟩:=HV.out i.d xo;have zv:=zH vc;obtain⟨d0,d1⟩:=vc wc tD;clear vc;have zd:(kd:aw)<(g.vs.length:aw):=by omega
   have xp:R=gU m g.vs i:=by rw[hE,cH z]
   have ua:=zo m g i wc (HJ.out wc tD) (xT.out wc tD) (by have:=yb.out;unfold du;omega) xo (Bt (by rw[up.out];exact xj) z);rw[<-xp,vf.out] at ua;simp only[Mo.cells,gc,Ins.cells] at ua;have zj:=zH ua;have m0:=y.m0;have m1:=y.m1;have HG:=zH y.gr;have HI:=zH y.ir;clear xp ua d0 d1 g2 yv yy yW zc zd;clear z hE hB y G HV
   go_wp2_with (first
    |(refine cf rfl 38 _ rfl (N+1) rfl 38 _ (0,0) _ HG.out cJ rfl (by kernel_rfl) ?_)
    |(refine cf rfl 42 _ rfl (N+2) rfl 42 _ (0,0) _ HI.out cA rfl (by kernel_rfl) ?_)
    |(go_at_call 91;refine zj.out.mono ?_;rintro e w9 ⟨rfl,xr⟩;have zp:=zH (yq.out _ _ tD xr);clear xr))
   go_ret;rw[HN.out];exact⟨rfl,zp.out⟩
theorem uK (m:Mo)(g:Fn)(i:Ins)(w:World)(h:nR w m g)(hi:i.args_in w)(vh:i.args.length<=40)(xr:∀v,isVar g.vs.length v=ti->m.known (ax g.vs v)=ti)(E:i.op=17):
  zP 49 #[tv m.cells,tv g.cells,tv i.cells] w (Z U (aF m g i)):=by
 obtain⟨ao,N,W1,hN,vm,ue,J,K,xt,xF,tE,up,HJ,yW,ur,vp,vq,vr⟩:=fE h hi vh;obtain⟨wD,bD,bR,o1,o2,vt,xT,uv,ya,ux,vu⟩:=fI (g:=g) (i:=i) (by omega) (by omega);rw[xt.out];simp only[Mo.cells,gc,Ins.cells] at ue⊢;have vx:=zH ue;obtain⟨R,hR⟩:=zE (aF m g i);rw[hR];have HR:=zH hR;have vy:=zH h;have yb:=zH E;have we:=tE.out W1 (aq _ _);have wg:=zH we.ir;clear h hi vh xr ue hR E;have wj:W1.heap.size=N+3:=vm;go_enter func49,sY
 go_upto_region 1 with(fail)
 rw[vx.out];clear vx we hN
 go_upto_region 2 with(first
  |(refine cf rfl 42 _ rfl (N+2) rfl 42 _ (0,0) _ wg.out cA rfl (by kernel_rfl) ?_)
  |(go_at_call 86;refine(vp.out _).mono ?_;rintro e w2 ⟨rfl,tG⟩;have wk:=zH tG;clear tG))
 have tG:aE (N+3) W1 w2:=by have:=wk.out;rwa [wj] at this
 have i0:=(tE.out w2 tG).i0;have ua:=zH tG;clear tG wj vm wk;rw[ux.out]
 go_upto_region 4 with(fail)
 clear i0 o1 o2;obtain⟨S,hS⟩:∃S:World->Prop,S=aE (N+3) W1:=⟨_,rfl⟩
 have o:cg (∀w',S w'↔aE (N+3) W1 w'):=λw'=>by rw[hS]
 have ub:cg (∀w',S w'->∀j u,(#[tm g.c.nm,Z U g.c.par,tn ao g.vs.length g.c.varsC,tt g.c.rp,tm g.c.rto,Z U g.c.rcl,tn g.c.fromA g.c.nfrom g.c.fromC,tn g.c.insA g.c.ins.length g.c.insC]:dl cw).toList[j]?=tf u->w'.cell? ((⟨N+1,0,th⟩:fg).add j)=tf u):=λw' h=>dC (tE.out w' ((o.out w').1 h)).gr;have vc:cg (∀w',S w'->∀j u,(#[Z U i.op,Z U i.d,Z U i.a,Z U i.b,Z U i.f,Z U i.n,tm i.sign,i.argsV,i.modeV,Z U i.tI,Z U i.els,Z U i.ln,Z U i.cl]:dl cw).toList[j]?=tf u->w'.cell? ((⟨N+1+1,0,th⟩:fg).add j)=tf u):=λw' h=>dC (tE.out w' ((o.out w').1 h)).ir;have z:cg (∀w',S w'->True/\True):=λ_ _=>⟨trivial,trivial⟩
 clear hS
 go_cut [7,37] from 23 to 37 (λd b wc=>d= Z U (if wD=ti then(i.d,ti) else(0,tj)).1/\b= tt (!(bR&&(!wD||bD)))/\aE (N+3) W1 wc)
 case first=>
  have yd:S w2.drew:=(o.out _).2 ua.out.drew;cases wD with
  |true=>
   simp only[lk];refine aj 5 S (by kernel_rfl) ?_;refine zT 0 rfl z.out ?_
   try go_simp
   refine zT 1 rfl z.out ?_
   try go_simp
   refine zL 2 rfl 38 ⟨N+1,0,th⟩ ub.out cJ ?_
   try go_simp
   refine zT 3 rfl z.out ?_
   try go_simp
   refine zO 4 rfl λK' q=> ?_;go_simp;have uc:∀c,S (w2.alloc c).drew:=λc=>(o.out _).2 ((ua.out.alloc (by have:=ua.out.size;rw[K.out] at this;exact this) _).drew);have wl:ak (w2.alloc (tA #[Z U i.d] 3)).drew (tf ⟨w2.heap.size,0,th⟩) [i.d]:=ak.one w2 i.d rfl;refine q _ _ (uc _) ?_;clear q
   try go_simp
   refine zK rfl λK' q=> ?_;go_simp;go_at_call 87;refine(ur.out _ (tf ⟨w2.heap.size,0,th⟩) 1 [i.d] (by simp) wl).mono ?_;rintro e w5 ⟨rfl,ws⟩;have ye:S w5:=(o.out _).2 (((o.out _).1 (uc _)).trans (ws.mono (by have:=((o.out _).1 (uc (tA #[Z U i.d] 3))).size;rw[K.out] at this;exact this)));rw[xT.out];refine q _ _ ?_;clear q ws uc yd wl
   try go_simp
   cases bD with
   |false=>
    refine bf 6 rfl (by kernel_rfl) (by kernel_rfl) (·=w5) rfl ?_;dsimp only[gO]
    repeat (go_big_quiet_step (fail))
    refine dr ?_;rintro _ rfl;go_wp2
    go_meet
    case rel=>exact⟨rfl,by simp,(o.out _).1 ye⟩
   |true=>
    refine ek (S:=S) (k:=12) _ _ _ _ ?_;refine zT 6 rfl z.out ?_
    try go_simp
    refine zT 7 rfl z.out ?_
    try go_simp
    refine zT 8 rfl z.out ?_
    try go_simp
    refine zL 9 rfl 38 ⟨N+1,0,th⟩ ub.out cJ ?_
    try go_simp
    refine zL 10 rfl 42 ⟨N+1+1,0,th⟩ vc.out cA ?_
    try go_simp
    refine zO 11 rfl λK' q=> ?_;go_simp;go_at_call 88;refine(vq.out _ ((o.out _).1 (by assumption))).mono ?_;rintro e w7 ⟨ro,rc,rfl,tM,tP⟩;have tD:S w7:=(o.out _).2 (((o.out _).1 (by assumption)).trans (tP.mono (by have:=((o.out _).1 (by assumption)).size;rw[K.out] at this;exact this)));have tR:=tM.at_;refine q _ _ tD ?_;clear q tM tP
    try go_simp
    refine zK rfl λK' q=> ?_;go_simp;go_at_call 87;refine(ur.out _ _ _ _ vr.out tR).mono ?_;rintro e w8 ⟨rfl,tS⟩;have vd:=((o.out _).1 tD).trans (tS.mono (by have:=((o.out _).1 tD).size;rw[K.out] at this;exact this));rw[uv.out];refine q _ _ ?_;clear q tR tS
    try go_simp
    refine bf 13 rfl (by kernel_rfl) (by kernel_rfl) (·=w8) rfl ?_;dsimp only[gO]
    repeat (go_big_quiet_step (fail))
    refine dr ?_;rintro _ rfl;go_wp2
    go_meet
    case rel=>exact⟨rfl,by simp,vd⟩
  |false=>
    simp only[nF,if_false];refine aj 12 S (by kernel_rfl) ?_;refine zT 0 rfl z.out ?_
    try go_simp
    refine zT 1 rfl z.out ?_
    try go_simp
    refine zN 2 rfl ?_
    try go_simp
    refine zN 3 rfl ?_
    try go_simp
    refine zN 4 rfl ?_
    try go_simp
    refine zN 5 rfl ?_
    try go_simp
    refine zN 6 rfl ?_
    try go_simp
    refine zT 7 rfl z.out ?_
    try go_simp
    refine zT 8 rfl z.out ?_
    try go_simp
    refine zL 9 rfl 38 ⟨N+1,0,th⟩ ub.out cJ ?_
    try go_simp
    refine zL 10 rfl 42 ⟨N+1+1,0,th⟩ vc.out cA ?_
    try go_simp
    refine zO 11 rfl λK' q=> ?_;go_simp;go_at_call 88;refine(vq.out _ ((o.out _).1 (by assumption))).mono ?_;rintro e w7 ⟨ro,rc,rfl,tM,tP⟩;have tD:S w7:=(o.out _).2 (((o.out _).1 (by assumption)).trans (tP.mono (by have:=((o.out _).1 (by assumption)).size;rw[K.out] at this;exact this)));have tR:=tM.at_;refine q _ _ tD ?_;clear q tM tP
    try go_simp
    refine zK rfl λK' q=> ?_;go_simp;go_at_call 87;refine(ur.out _ _ _ _ vr.out tR).mono ?_;rintro e w8 ⟨rfl,tS⟩;have vd:=((o.out _).1 tD).trans (tS.mono (by have:=((o.out _).1 tD).size;rw[K.out] at this;exact this));rw[uv.out];refine q _ _ ?_;clear q tR tS
    try go_simp
    refine bf 13 rfl (by kernel_rfl) (by kernel_rfl) (·=w8) rfl ?_;dsimp only[gO]
    repeat (go_big_quiet_step (fail))
    refine dr ?_;rintro _ rfl;go_wp2
    go_meet
    case rel=>exact⟨rfl,by simp,vd⟩
 case rest=>
  obtain⟨rfl,rfl,ud⟩:=hcut;have tU:=zH (up.out wc ud);have G:=tE.out wc ud;have HV:cg (∀v,isVar g.vs.length v=ti->∃(k b tW:bj) (x:Vr),v=(k:aw)/\k<g.vs.length/\ao=tf ⟨b,tW,th⟩/\ax g.vs v=(x.ptr,x.tgt)/\∀W,aE (N+3) W1 W->W.cell? ⟨b,tW+k*3,th⟩=tf (tt x.ptr)/\W.cell? ⟨b,tW+k*3+1,th⟩=tf (tm x.tgt)):=λv hv=>by
   obtain⟨k,b,tW,x,q1,q2,q3,q4,q5,q6,q7⟩:=dM vy.out.vars hv;refine⟨k,b,tW,x,q1,q2,by rw[<-xF.out];exact q3,q5,λW hW=> ?_⟩;have xf:=up.out W hW;rw[J.out] at q4;exact⟨by rw[xf.cell (p:=⟨b,_,th⟩) (show b<N by omega)];exact q6,by rw[xf.cell (p:=⟨b,_,th⟩) (show b<N by omega)];exact q7⟩
  have yi:=vy.out.vl;unfold du at yi;have HO:cg (∀W b f,zP 51 #[tt b,Z U f] W (Z U (bN (!b) f))):=λW b f=>bn b f W;have yk:cg (∀W W':World,aE (N+3) W1 W->aE W.heap.size W W'->aE N w W'):=λW W' h1 h2=>up.out W' (h1.trans (h2.mono (by have:=h1.size;rw[K.out] at this;exact this)));obtain⟨B,hB⟩:=zE (bR&&(!wD||bD));rw[hB];cases B with
  |false=>
   have y:cg (R=15):=by unfold cg;rw[<-HR.out];unfold aF;rw[bw vt.out,cH (by rw[vu.out];exact hB)]
   clear G HV hB;obtain⟨wv,xj⟩:=zE ((if wD=ti then(i.d,ti) else(0,tj)):aw×ml);rw[xj,qk];clear xj ux;go_wp2;go_ret;rw[y.out,J.out];exact⟨rfl,tU.out⟩
  |true=>
  rw[rK];clear o ub vc z ua ux vp wg;have E:=yb.out
  ·
   have ew:wD=tj:=by rw[<-ya.out,E];decide
   subst ew;have xl:bR=ti:=by simpa using hB
   have yp:isVar g.vs.length i.a=ti:=fB (by rw[uv.out];exact xl) (by rw[E];decide);have hE:=dY HR vt vu (by rw[xl];simp);have i0:=G.i0;rw[E] at i0;have g7:=G.g7;have g2:=G.g2;have i2:=G.i2;obtain⟨ka,zc,zd,xa,yq,zj,yr,xo,vf⟩:=HV.out i.a yp;have zp:=zH vf;obtain⟨a0,a1⟩:=vf wc ud;clear vf;have zr:(ka:aw)<(g.vs.length:aw):=by omega
   subst yr;rw[yq] at i2;obtain⟨pa,yv⟩:=zE xa.ptr;rw[yv] at a0 xo;have i9:=G.i9;have i10:=G.i10;obtain⟨n,hn⟩:=zE g.c.ins.length;obtain⟨t,ht⟩:=zE i.tI;obtain⟨u,hu⟩:=zE i.els;rw[ht] at i9;rw[hu] at i10;rw[hn] at g7;have y:cg (R=if isVar n t&&isVar n u then bN (!pa) 7 else 15):=by unfold cg;rw[hE];simp[E,hn,ht,hu,dQ,xo]
   clear E hE hB G tE HV
   by_cases t0:t<0
   ·have e0:decide (t<0)=ti:=cR t0
    have A:cg (R=15):=by unfold cg;rw[y.out,bw (by unfold isVar;simp;omega)]
    clear y;go_wp2;go_ret;rw[A.out,J.out];exact⟨rfl,tU.out⟩
   have e0:decide (t<0)=tj:=cm t0
   by_cases t1:(n:aw)<=t
   ·have e1:decide ((n:aw)<=t)=ti:=cR t1
    have A:cg (R=15):=by unfold cg;rw[y.out,bw (by unfold isVar;simp;omega)]
    clear y;go_wp2;go_ret;rw[A.out,J.out];exact⟨rfl,tU.out⟩
   have e1:decide ((n:aw)<=t)=tj:=cm t1
   by_cases u0:u<0
   ·have e2:decide (u<0)=ti:=cR u0
    have A:cg (R=15):=by unfold cg;rw[y.out,bw (by unfold isVar;simp;omega)]
    clear y;go_wp2;go_ret;rw[A.out,J.out];exact⟨rfl,tU.out⟩
   have e2:decide (u<0)=tj:=cm u0
   by_cases u1:(n:aw)<=u
   ·have e3:decide ((n:aw)<=u)=ti:=cR u1
    have A:cg (R=15):=by unfold cg;rw[y.out,bw (by unfold isVar;simp;omega)]
    clear y;go_wp2;go_ret;rw[A.out,J.out];exact⟨rfl,tU.out⟩
   have e3:decide ((n:aw)<=u)=tj:=cm u1;have A:cg (R=bN (!pa) 7):=by unfold cg;rw[y.out,cH (by rw[dW.2 ⟨by omega,by omega⟩,dW.2 ⟨by omega,by omega⟩];rfl)]
   clear y
   go_wp2_with (go_at_call 51;refine(HO.out _ _ _).mono ?_;rintro e w9 ⟨rfl,xp⟩;have yy:=zH (yk.out _ _ ud xp);clear xp)
   go_ret;rw[A.out,J.out];exact⟨rfl,yy.out⟩
theorem si (m:Mo)(g:Fn)(i:Ins)(w:World)(h:nR w m g)(hi:i.args_in w)(d:i.args.length<=40)(e:∀v,isVar g.vs.length v=ti->m.known (ax g.vs v)=ti):
  zP 49 #[tv m.cells,tv g.cells,tv i.cells] w (Z U (aF m g i)):=by
 by_cases h0:i.op<1\/18<i.op
 ·exact uE m g i w h hi d e h0
 by_cases f:i.op=1\/i.op=2\/i.op=3\/i.op=5\/i.op=6
 ·exact uF m g i w h hi d e f
 by_cases j:i.op=4\/i.op=13\/i.op=14\/i.op=16
 ·exact uG m g i w h hi d e j
 by_cases o:i.op=9\/i.op=12\/i.op=18
 ·exact uH m g i w h hi d e o
 by_cases q:i.op=15
 ·exact uJ m g i w h hi d e q
 by_cases t:i.op=17
 ·exact uK m g i w h hi d e t
 ·exact uI m g i w h hi d e (by omega)
end Go.Proofs.YtjomgckjhcfbgaaGreat
