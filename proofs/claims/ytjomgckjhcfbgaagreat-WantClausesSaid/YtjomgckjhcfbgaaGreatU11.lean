/- Walks. -/
import Derived.Test.YtjomgckjhcfbgaaGreatU10
set_option maxRecDepth 100000
set_option maxHeartbeats 64000000
set_option linter.all false
namespace Go.Proofs.YtjomgckjhcfbgaaGreat
open Go.RowKit
open Go.Proofs.Tryz renaming prog→am,underlying42→cD,underlying38→cQ,ntmps49→tB
open _root_.List renaming getElem?_eq_getElem→ap,drop→it,getElem?_eq_none→mw
open Go.RowKit.Below renaming refl→aq
open _root_ renaming Int→aw,Nat→bh,if_neg→bx,decide_eq_false→cv,if_pos→cI,decide_eq_true→cV,Array→eA,if_true→lj,Bool→mm,and_true→pf
open Go.RowKit renaming Below→aE,Hid→cj
open Go renaming wpList_load_row→cm,Value→cA,wpQuiet_nil→dj,maxLen→eC,Addr→fS,beq_toListBytes→fY
open _root_.Option.some renaming injEq→dd
open Go.Addr.mk renaming injEq→eR
open _root_.Int renaming toNat_natCast→eW
open Go.Op renaming equalIn→gE
open _root_.Bool renaming false_eq_true→oS,not_false→rj,not_true→sx,or_false→tv,true→tP,false→tR
open _root_.Option renaming some→tG,none→tM
open Go.Value renaming string→tS,slice→tU,bool→ua,agg→ub,int→Z
open Go.Obj renaming cells→uc
open Go.IntKind renaming i64→U
open Tryz
theorem uZ (m:Mo)(g:Fn)(i:Ins)(w:World)(h:oQ w m g)(hi:i.args_in w)(An:i.args.length<=40)(A1:∀v,isVar g.vs.length v=tP->m.known (ay g.vs v)=tP)(o:i.op=1\/i.op=2\/i.op=3\/i.op=5\/i.op=6):
  zP 49 #[ub m.cells,ub g.cells,ub i.cells] w (Z U (aF m g i)):=by
 obtain⟨ao,N,W1,hN,At,ye,HN,vf,A2,A3,vc,yi,HJ,BY,yk,Ax,AD,AE⟩:=gB h hi An;obtain⟨wD,bD,bR,o1,o2,vu,wg,xt,wj,yp,vx⟩:=gJ (g:=g) (i:=i) (by omega) (by omega);rw[A2.out];simp only[Mo.cells,gc,Ins.cells] at ye⊢;have AF:=zH ye;obtain⟨R,hR⟩:=zE (aF m g i);rw[hR];have HR:=zH hR;have AH:=zH h;have A4:=zH o;have AI:=vc.out W1 (aq _ _);have AK:=zH AI.ir;clear h hi An A1 ye hR o;have AM:W1.heap.size=N+3:=At;go_enter func49,tB
 go_upto_region 1 with(fail)
 rw[AF.out];clear AF AI hN
 go_upto_region 2 with(first
  |(refine cm rfl 42 _ rfl (N+2) rfl 42 _ (0,0) _ AK.out cD rfl (by kernel_rfl) ?_)
  |(go_at_call 86;refine(Ax.out _).mono ?_;rintro e w2 ⟨rfl,vy⟩;have AN:=zH vy;clear vy))
 have vy:aE (N+3) W1 w2:=by have:=AN.out;rwa [AM] at this
 have i0:=(vc.out w2 vy).i0;have xF:=zH vy;clear vy AM At AN;rw[yp.out]
 go_upto_region 4 with(fail)
 clear i0 o1 o2;obtain⟨S,hS⟩:∃S:World->Prop,S=aE (N+3) W1:=⟨_,rfl⟩
 have t:cj (∀w',S w'↔aE (N+3) W1 w'):=λw'=>by rw[hS]
 have xT:cj (∀w',S w'->∀j u,(#[tS g.c.nm,Z U g.c.par,tU ao g.vs.length g.c.varsC,ua g.c.rp,tS g.c.rto,Z U g.c.rcl,tU g.c.fromA g.c.nfrom g.c.fromC,tU g.c.insA g.c.ins.length g.c.insC]:eA cA).toList[j]?=tG u->w'.cell? ((⟨N+1,0,tM⟩:fS).add j)=tG u):=λw' h=>dC (vc.out w' ((t.out w').1 h)).gr;have yq:cj (∀w',S w'->∀j u,(#[Z U i.op,Z U i.d,Z U i.a,Z U i.b,Z U i.f,Z U i.n,tS i.sign,i.argsV,i.modeV,Z U i.tI,Z U i.els,Z U i.ln,Z U i.cl]:eA cA).toList[j]?=tG u->w'.cell? ((⟨N+1+1,0,tM⟩:fS).add j)=tG u):=λw' h=>dC (vc.out w' ((t.out w').1 h)).ir;have ue:cj (∀w',S w'->True/\True):=λ_ _=>⟨trivial,trivial⟩
 clear hS
 go_cut [7,37] from 23 to 37 (λd b wc=>d= Z U (if wD=tP then(i.d,tP) else(0,tR)).1/\b= ua (!(bR&&(!wD||bD)))/\aE (N+3) W1 wc)
 case first=>
  have A5:S w2.drew:=(t.out _).2 xF.out.drew;cases wD with
  |true=>
   simp only[lj];refine aj 5 S (by kernel_rfl) ?_;refine zT 0 rfl ue.out ?_
   try go_simp
   refine zT 1 rfl ue.out ?_
   try go_simp
   refine zL 2 rfl 38 ⟨N+1,0,tM⟩ xT.out cQ ?_
   try go_simp
   refine zT 3 rfl ue.out ?_
   try go_simp
   refine zO 4 rfl λK' y=> ?_;go_simp;have yb:∀c,S (w2.alloc c).drew:=λc=>(t.out _).2 ((xF.out.alloc (by have:=xF.out.size;rw[vf.out] at this;exact this) _).drew);have AS:ak (w2.alloc (uc #[Z U i.d] 3)).drew (tG ⟨w2.heap.size,0,tM⟩) [i.d]:=ak.one w2 i.d rfl;refine y _ _ (yb _) ?_;clear y
   try go_simp
   refine zK rfl λK' y=> ?_;go_simp;go_at_call 87;refine(yk.out _ (tG ⟨w2.heap.size,0,tM⟩) 1 [i.d] (by simp) AS).mono ?_;rintro e w5 ⟨rfl,AT⟩;have A6:S w5:=(t.out _).2 (((t.out _).1 (yb _)).trans (AT.mono (by have:=((t.out _).1 (yb (uc #[Z U i.d] 3))).size;rw[vf.out] at this;exact this)));rw[wg.out];refine y _ _ ?_;clear y AT yb A5 AS
   try go_simp
   cases bD with
   |false=>
    refine bu 6 rfl (by kernel_rfl) (by kernel_rfl) (·=w5) rfl ?_;dsimp only[it]
    repeat (go_big_quiet_step (fail))
    refine dj ?_;rintro _ rfl;go_wp2
    go_meet
    case rel=>exact⟨rfl,by simp,(t.out _).1 A6⟩
   |true=>
    refine fq (S:=S) (k:=12) _ _ _ _ ?_;refine zT 6 rfl ue.out ?_
    try go_simp
    refine zT 7 rfl ue.out ?_
    try go_simp
    refine zT 8 rfl ue.out ?_
    try go_simp
    refine zL 9 rfl 38 ⟨N+1,0,tM⟩ xT.out cQ ?_
    try go_simp
    refine zL 10 rfl 42 ⟨N+1+1,0,tM⟩ yq.out cD ?_
    try go_simp
    refine zO 11 rfl λK' y=> ?_;go_simp;go_at_call 88;refine(AD.out _ ((t.out _).1 (by assumption))).mono ?_;rintro e w7 ⟨ro,rc,rfl,wk,wl⟩;have vh:S w7:=(t.out _).2 (((t.out _).1 (by assumption)).trans (wl.mono (by have:=((t.out _).1 (by assumption)).size;rw[vf.out] at this;exact this)));have ws:=wk.at_;refine y _ _ vh ?_;clear y wk wl
    try go_simp
    refine zK rfl λK' y=> ?_;go_simp;go_at_call 87;refine(yk.out _ _ _ _ AE.out ws).mono ?_;rintro e w8 ⟨rfl,xf⟩;have yr:=((t.out _).1 vh).trans (xf.mono (by have:=((t.out _).1 vh).size;rw[vf.out] at this;exact this));rw[xt.out];refine y _ _ ?_;clear y ws xf
    try go_simp
    refine bu 13 rfl (by kernel_rfl) (by kernel_rfl) (·=w8) rfl ?_;dsimp only[it]
    repeat (go_big_quiet_step (fail))
    refine dj ?_;rintro _ rfl;go_wp2
    go_meet
    case rel=>exact⟨rfl,by simp,yr⟩
  |false=>
    simp only[oS,if_false];refine aj 12 S (by kernel_rfl) ?_;refine zT 0 rfl ue.out ?_
    try go_simp
    refine zT 1 rfl ue.out ?_
    try go_simp
    refine zN 2 rfl ?_
    try go_simp
    refine zN 3 rfl ?_
    try go_simp
    refine zN 4 rfl ?_
    try go_simp
    refine zN 5 rfl ?_
    try go_simp
    refine zN 6 rfl ?_
    try go_simp
    refine zT 7 rfl ue.out ?_
    try go_simp
    refine zT 8 rfl ue.out ?_
    try go_simp
    refine zL 9 rfl 38 ⟨N+1,0,tM⟩ xT.out cQ ?_
    try go_simp
    refine zL 10 rfl 42 ⟨N+1+1,0,tM⟩ yq.out cD ?_
    try go_simp
    refine zO 11 rfl λK' y=> ?_;go_simp;go_at_call 88;refine(AD.out _ ((t.out _).1 (by assumption))).mono ?_;rintro e w7 ⟨ro,rc,rfl,wk,wl⟩;have vh:S w7:=(t.out _).2 (((t.out _).1 (by assumption)).trans (wl.mono (by have:=((t.out _).1 (by assumption)).size;rw[vf.out] at this;exact this)));have ws:=wk.at_;refine y _ _ vh ?_;clear y wk wl
    try go_simp
    refine zK rfl λK' y=> ?_;go_simp;go_at_call 87;refine(yk.out _ _ _ _ AE.out ws).mono ?_;rintro e w8 ⟨rfl,xf⟩;have yr:=((t.out _).1 vh).trans (xf.mono (by have:=((t.out _).1 vh).size;rw[vf.out] at this;exact this));rw[xt.out];refine y _ _ ?_;clear y ws xf
    try go_simp
    refine bu 13 rfl (by kernel_rfl) (by kernel_rfl) (·=w8) rfl ?_;dsimp only[it]
    repeat (go_big_quiet_step (fail))
    refine dj ?_;rintro _ rfl;go_wp2
    go_meet
    case rel=>exact⟨rfl,by simp,yr⟩
 case rest=>
  obtain⟨rfl,rfl,J⟩:=hcut;have we:=zH (yi.out wc J);have q:=vc.out wc J;have K:cj (∀v,isVar g.vs.length v=tP->∃(k b xj:bh) (x:Vr),v=(k:aw)/\k<g.vs.length/\ao=tG ⟨b,xj,tM⟩/\ay g.vs v=(x.ptr,x.tgt)/\∀W,aE (N+3) W1 W->W.cell? ⟨b,xj+k*3,tM⟩=tG (ua x.ptr)/\W.cell? ⟨b,xj+k*3+1,tM⟩=tG (tS x.tgt)):=λv hv=>by
   obtain⟨k,b,xj,x,q1,q2,q3,q4,q5,q6,q7⟩:=ed AH.out.vars hv;refine⟨k,b,xj,x,q1,q2,by rw[<-A3.out];exact q3,q5,λW hW=> ?_⟩;have AW:=yi.out W hW;rw[HN.out] at q4;exact⟨by rw[AW.cell (p:=⟨b,_,tM⟩) (show b<N by omega)];exact q6,by rw[AW.cell (p:=⟨b,_,tM⟩) (show b<N by omega)];exact q7⟩
  have Bk:=AH.out.vl;unfold eC at Bk;have HO:cj (∀W b f,zP 51 #[ua b,Z U f] W (Z U (bU (!b) f))):=λW b f=>bG b f W;have xo:cj (∀W W':World,aE (N+3) W1 W->aE W.heap.size W W'->aE N w W'):=λW W' h1 h2=>yi.out W' (h1.trans (h2.mono (by have:=h1.size;rw[vf.out] at this;exact this)));obtain⟨B,z⟩:=zE (bR&&(!wD||bD));rw[z];cases B with
  |false=>
   have up:cj (R=15):=by unfold cj;rw[<-HR.out];unfold aF;rw[bx vu.out,cI (by rw[vx.out];exact z)]
   clear q K z;obtain⟨wv,A0⟩:=zE ((if wD=tP then(i.d,tP) else(0,tR)):aw×mm);rw[A0,rj];clear A0 yp;go_wp2;go_ret;rw[up.out,HN.out];exact⟨rfl,we.out⟩
  |true=>
  rw[sx];clear t xT yq ue xF yp Ax AK;rcases A4.out with o|o|o|o|o
  ·
   have ew:wD=tP:=by rw[<-wj.out,o];decide
   subst ew;have ur:bR=tP:=(by simpa using z:_/\_).1;have uv:bD=tP:=(by simpa using z:_/\_).2;have vm:isVar g.vs.length i.d=tP:=by have:=wg.out;rw[uv] at this;simpa[aP] using this
   have E:=eX HR vu vx (by rw[ur,uv];simp);have i0:=q.i0;rw[o] at i0;have g7:=q.g7;have g2:=q.g2;obtain⟨kd,yv,yy,xd,vp,yW,vq,ux,A⟩:=K.out i.d vm;have zc:=zH A;obtain⟨d0,d1⟩:=A wc J;clear A;have zj:(kd:aw)<(g.vs.length:aw):=by omega
   subst vq;obtain⟨pd,vr⟩:=zE xd.ptr;rw[vr] at d0 ux;have up:cj (R=bU (!pd) 7):=by unfold cj;rw[E];simp[o,ax,eD,ux]
   simp only[lj];rw[vp];clear o E z q vc K
   go_wp2_with (go_at_call 51;refine(HO.out _ _ _).mono ?_;rintro e w9 ⟨rfl,G⟩;have vd:=zH (xo.out _ _ J G);clear G)
   go_ret;rw[up.out,HN.out];exact⟨rfl,by first|exact vd.out|exact we.out⟩
  ·
   have ew:wD=tP:=by rw[<-wj.out,o];decide
   subst ew;have ur:bR=tP:=(by simpa using z:_/\_).1;have uv:bD=tP:=(by simpa using z:_/\_).2;have vm:isVar g.vs.length i.d=tP:=by have:=wg.out;rw[uv] at this;simpa[aP] using this
   have E:=eX HR vu vx (by rw[ur,uv];simp);have i0:=q.i0;rw[o] at i0;have g7:=q.g7;have g2:=q.g2;obtain⟨kd,yv,yy,xd,vp,yW,vq,ux,A⟩:=K.out i.d vm;have zc:=zH A;obtain⟨d0,d1⟩:=A wc J;clear A;have zj:(kd:aw)<(g.vs.length:aw):=by omega
   subst vq;obtain⟨pd,vr⟩:=zE xd.ptr;rw[vr] at d0 ux;have up:cj (R=bU pd 7):=by unfold cj;rw[E];simp[o,ax,ux]
   simp only[lj];rw[vp];clear o E z q vc K
   go_wp2_with (go_at_call 51;refine(HO.out _ _ _).mono ?_;rintro e w9 ⟨rfl,G⟩;have vd:=zH (xo.out _ _ J G);clear G)
   go_ret;rw[up.out,HN.out];exact⟨rfl,by first|exact vd.out|exact we.out⟩
  ·
   have ew:wD=tP:=by rw[<-wj.out,o];decide
   subst ew;have ur:bR=tP:=(by simpa using z:_/\_).1;have uv:bD=tP:=(by simpa using z:_/\_).2;have vm:isVar g.vs.length i.d=tP:=by have:=wg.out;rw[uv] at this;simpa[aP] using this
   have zp:isVar g.vs.length i.a=tP:=gq (by rw[xt.out];exact ur) (by rw[o];decide);have E:=eX HR vu vx (by rw[ur,uv];simp);have i0:=q.i0;rw[o] at i0;have g7:=q.g7;have g2:=q.g2;have i2:=q.i2;obtain⟨kd,yv,yy,xd,vp,yW,vq,ux,A⟩:=K.out i.d vm;have zc:=zH A;obtain⟨d0,d1⟩:=A wc J;clear A;have zj:(kd:aw)<(g.vs.length:aw):=by omega
   obtain⟨ka,Bm,Bs,xa,zs,By,yd,xp,vt⟩:=K.out i.a zp;have BE:=zH vt;obtain⟨a0,a1⟩:=vt wc J;clear vt;have BT:(ka:aw)<(g.vs.length:aw):=by omega
   subst vq;simp only[dd,eR,pf] at yd;obtain⟨rfl,rfl⟩:=yd;rw[zs] at i2;obtain⟨pd,vr⟩:=zE xd.ptr;rw[vr] at d0 ux;obtain⟨pa,zv⟩:=zE xa.ptr;rw[zv] at a0 xp;have up:cj (R=bU (!(pd||pa)) 7):=by unfold cj;rw[E];simp[o,ax,eD,ux,xp]
   simp only[lj];rw[vp];clear o E z q vc K;cases pd<;>(go_wp2_with (go_at_call 51;refine(HO.out _ _ _).mono ?_;rintro e w9 ⟨rfl,G⟩;have vd:=zH (xo.out _ _ J G);clear G);go_ret;rw[up.out,HN.out];exact⟨rfl,by first|exact vd.out|exact we.out⟩)
  ·
   have ew:wD=tP:=by rw[<-wj.out,o];decide
   subst ew;have ur:bR=tP:=(by simpa using z:_/\_).1;have uv:bD=tP:=(by simpa using z:_/\_).2;have vm:isVar g.vs.length i.d=tP:=by have:=wg.out;rw[uv] at this;simpa[aP] using this
   have E:=eX HR vu vx (by rw[ur,uv];simp);have i0:=q.i0;rw[o] at i0;have g7:=q.g7;have g2:=q.g2;obtain⟨kd,yv,yy,xd,vp,yW,vq,ux,A⟩:=K.out i.d vm;have zc:=zH A;obtain⟨d0,d1⟩:=A wc J;clear A;have zj:(kd:aw)<(g.vs.length:aw):=by omega
   subst vq;obtain⟨pd,vr⟩:=zE xd.ptr;rw[vr] at d0 ux;have up:cj (R=bU (!pd) 7):=by unfold cj;rw[E];simp[o,ax,eD,ux]
   simp only[lj];rw[vp];clear o E z q vc K
   go_wp2_with (go_at_call 51;refine(HO.out _ _ _).mono ?_;rintro e w9 ⟨rfl,G⟩;have vd:=zH (xo.out _ _ J G);clear G)
   go_ret;rw[up.out,HN.out];exact⟨rfl,by first|exact vd.out|exact we.out⟩
  ·
   have ew:wD=tR:=by rw[<-wj.out,o];decide
   subst ew;have ur:bR=tP:=by simpa using z
   have zp:isVar g.vs.length i.a=tP:=gq (by rw[xt.out];exact ur) (by rw[o];decide);have E:=eX HR vu vx (by rw[ur];simp);have i0:=q.i0;rw[o] at i0;have g7:=q.g7;have g2:=q.g2;have i2:=q.i2;obtain⟨ka,Bm,Bs,xa,zs,By,yd,xp,vt⟩:=K.out i.a zp;have BE:=zH vt;obtain⟨a0,a1⟩:=vt wc J;clear vt;have BT:(ka:aw)<(g.vs.length:aw):=by omega
   subst yd;rw[zs] at i2;obtain⟨pa,zv⟩:=zE xa.ptr;rw[zv] at a0 xp;have up:cj (R=bU (!pa) 7):=by unfold cj;rw[E];simp[o,ax,eD,xp]
   clear o E z q vc K
   go_wp2_with (go_at_call 51;refine(HO.out _ _ _).mono ?_;rintro e w9 ⟨rfl,G⟩;have vd:=zH (xo.out _ _ J G);clear G)
   go_ret;rw[up.out,HN.out];exact⟨rfl,by first|exact vd.out|exact we.out⟩
theorem ve (m:Mo)(g:Fn)(i:Ins)(w:World)(h:oQ w m g)(hi:i.args_in w)(zv:i.args.length<=40)(Bs:∀v,isVar g.vs.length v=tP->m.known (ay g.vs v)=tP)(o:i.op=4\/i.op=13\/i.op=14\/i.op=16):
  zP 49 #[ub m.cells,ub g.cells,ub i.cells] w (Z U (aF m g i)):=by
 obtain⟨ao,N,W1,hN,An,ye,K,vd,By,BE,vc,yi,HJ,CH,yk,At,Ax,AD⟩:=gB h hi zv;obtain⟨wD,bD,bR,o1,o2,vx,yp,vt,xF,yq,vy⟩:=gJ (g:=g) (i:=i) (by omega) (by omega);rw[By.out];simp only[Mo.cells,gc,Ins.cells] at ye⊢;have AE:=zH ye;obtain⟨R,hR⟩:=zE (aF m g i);rw[hR];have HR:=zH hR;have AF:=zH h;have BT:=zH o;have AH:=vc.out W1 (aq _ _);have AI:=zH AH.ir;clear h hi zv Bs ye hR o;have AK:W1.heap.size=N+3:=An;go_enter func49,tB
 go_upto_region 1 with(fail)
 rw[AE.out];clear AE AH hN
 go_upto_region 2 with(first
  |(refine cm rfl 42 _ rfl (N+2) rfl 42 _ (0,0) _ AI.out cD rfl (by kernel_rfl) ?_)
  |(go_at_call 86;refine(At.out _).mono ?_;rintro e w2 ⟨rfl,vu⟩;have AM:=zH vu;clear vu))
 have vu:aE (N+3) W1 w2:=by have:=AM.out;rwa [AK] at this
 have i0:=(vc.out w2 vu).i0;have xT:=zH vu;clear vu AK An AM;rw[yq.out]
 go_upto_region 4 with(fail)
 clear i0 o1 o2;obtain⟨S,hS⟩:∃S:World->Prop,S=aE (N+3) W1:=⟨_,rfl⟩
 have E:cj (∀w',S w'↔aE (N+3) W1 w'):=λw'=>by rw[hS]
 have yb:cj (∀w',S w'->∀j u,(#[tS g.c.nm,Z U g.c.par,tU ao g.vs.length g.c.varsC,ua g.c.rp,tS g.c.rto,Z U g.c.rcl,tU g.c.fromA g.c.nfrom g.c.fromC,tU g.c.insA g.c.ins.length g.c.insC]:eA cA).toList[j]?=tG u->w'.cell? ((⟨N+1,0,tM⟩:fS).add j)=tG u):=λw' h=>dC (vc.out w' ((E.out w').1 h)).gr;have yr:cj (∀w',S w'->∀j u,(#[Z U i.op,Z U i.d,Z U i.a,Z U i.b,Z U i.f,Z U i.n,tS i.sign,i.argsV,i.modeV,Z U i.tI,Z U i.els,Z U i.ln,Z U i.cl]:eA cA).toList[j]?=tG u->w'.cell? ((⟨N+1+1,0,tM⟩:fS).add j)=tG u):=λw' h=>dC (vc.out w' ((E.out w').1 h)).ir;have up:cj (∀w',S w'->True/\True):=λ_ _=>⟨trivial,trivial⟩
 clear hS
 go_cut [7,37] from 23 to 37 (λd b wc=>d= Z U (if wD=tP then(i.d,tP) else(0,tR)).1/\b= ua (!(bR&&(!wD||bD)))/\aE (N+3) W1 wc)
 case first=>
  have BY:S w2.drew:=(E.out _).2 xT.out.drew;cases wD with
  |true=>
   simp only[lj];refine aj 5 S (by kernel_rfl) ?_;refine zT 0 rfl up.out ?_
   try go_simp
   refine zT 1 rfl up.out ?_
   try go_simp
   refine zL 2 rfl 38 ⟨N+1,0,tM⟩ yb.out cQ ?_
   try go_simp
   refine zT 3 rfl up.out ?_
   try go_simp
   refine zO 4 rfl λK' G=> ?_;go_simp;have yd:∀c,S (w2.alloc c).drew:=λc=>(E.out _).2 ((xT.out.alloc (by have:=xT.out.size;rw[vd.out] at this;exact this) _).drew);have AN:ak (w2.alloc (uc #[Z U i.d] 3)).drew (tG ⟨w2.heap.size,0,tM⟩) [i.d]:=ak.one w2 i.d rfl;refine G _ _ (yd _) ?_;clear G
   try go_simp
   refine zK rfl λK' G=> ?_;go_simp;go_at_call 87;refine(yk.out _ (tG ⟨w2.heap.size,0,tM⟩) 1 [i.d] (by simp) AN).mono ?_;rintro e w5 ⟨rfl,AS⟩;have B5:S w5:=(E.out _).2 (((E.out _).1 (yd _)).trans (AS.mono (by have:=((E.out _).1 (yd (uc #[Z U i.d] 3))).size;rw[vd.out] at this;exact this)));rw[yp.out];refine G _ _ ?_;clear G AS yd BY AN
   try go_simp
   cases bD with
   |false=>
    refine bu 6 rfl (by kernel_rfl) (by kernel_rfl) (·=w5) rfl ?_;dsimp only[it]
    repeat (go_big_quiet_step (fail))
    refine dj ?_;rintro _ rfl;go_wp2
    go_meet
    case rel=>exact⟨rfl,by simp,(E.out _).1 B5⟩
   |true=>
    refine fq (S:=S) (k:=12) _ _ _ _ ?_;refine zT 6 rfl up.out ?_
    try go_simp
    refine zT 7 rfl up.out ?_
    try go_simp
    refine zT 8 rfl up.out ?_
    try go_simp
    refine zL 9 rfl 38 ⟨N+1,0,tM⟩ yb.out cQ ?_
    try go_simp
    refine zL 10 rfl 42 ⟨N+1+1,0,tM⟩ yr.out cD ?_
    try go_simp
    refine zO 11 rfl λK' G=> ?_;go_simp;go_at_call 88;refine(Ax.out _ ((E.out _).1 (by assumption))).mono ?_;rintro e w7 ⟨ro,rc,rfl,we,wg⟩;have vp:S w7:=(E.out _).2 (((E.out _).1 (by assumption)).trans (wg.mono (by have:=((E.out _).1 (by assumption)).size;rw[vd.out] at this;exact this)));have wj:=we.at_;refine G _ _ vp ?_;clear G we wg
    try go_simp
    refine zK rfl λK' G=> ?_;go_simp;go_at_call 87;refine(yk.out _ _ _ _ AD.out wj).mono ?_;rintro e w8 ⟨rfl,vf⟩;have yv:=((E.out _).1 vp).trans (vf.mono (by have:=((E.out _).1 vp).size;rw[vd.out] at this;exact this));rw[vt.out];refine G _ _ ?_;clear G wj vf
    try go_simp
    refine bu 13 rfl (by kernel_rfl) (by kernel_rfl) (·=w8) rfl ?_;dsimp only[it]
    repeat (go_big_quiet_step (fail))
    refine dj ?_;rintro _ rfl;go_wp2
    go_meet
    case rel=>exact⟨rfl,by simp,yv⟩
  |false=>
    simp only[oS,if_false];refine aj 12 S (by kernel_rfl) ?_;refine zT 0 rfl up.out ?_
    try go_simp
    refine zT 1 rfl up.out ?_
    try go_simp
    refine zN 2 rfl ?_
    try go_simp
    refine zN 3 rfl ?_
    try go_simp
    refine zN 4 rfl ?_
    try go_simp
    refine zN 5 rfl ?_
    try go_simp
    refine zN 6 rfl ?_
    try go_simp
    refine zT 7 rfl up.out ?_
    try go_simp
    refine zT 8 rfl up.out ?_
    try go_simp
    refine zL 9 rfl 38 ⟨N+1,0,tM⟩ yb.out cQ ?_
    try go_simp
    refine zL 10 rfl 42 ⟨N+1+1,0,tM⟩ yr.out cD ?_
    try go_simp
    refine zO 11 rfl λK' G=> ?_;go_simp;go_at_call 88;refine(Ax.out _ ((E.out _).1 (by assumption))).mono ?_;rintro e w7 ⟨ro,rc,rfl,we,wg⟩;have vp:S w7:=(E.out _).2 (((E.out _).1 (by assumption)).trans (wg.mono (by have:=((E.out _).1 (by assumption)).size;rw[vd.out] at this;exact this)));have wj:=we.at_;refine G _ _ vp ?_;clear G we wg
    try go_simp
    refine zK rfl λK' G=> ?_;go_simp;go_at_call 87;refine(yk.out _ _ _ _ AD.out wj).mono ?_;rintro e w8 ⟨rfl,vf⟩;have yv:=((E.out _).1 vp).trans (vf.mono (by have:=((E.out _).1 vp).size;rw[vd.out] at this;exact this));rw[vt.out];refine G _ _ ?_;clear G wj vf
    try go_simp
    refine bu 13 rfl (by kernel_rfl) (by kernel_rfl) (·=w8) rfl ?_;dsimp only[it]
    repeat (go_big_quiet_step (fail))
    refine dj ?_;rintro _ rfl;go_wp2
    go_meet
    case rel=>exact⟨rfl,by simp,yv⟩
 case rest=>
  obtain⟨rfl,rfl,J⟩:=hcut;have ux:=zH (yi.out wc J);have q:=vc.out wc J;have HV:cj (∀v,isVar g.vs.length v=tP->∃(k b wk:bh) (x:Vr),v=(k:aw)/\k<g.vs.length/\ao=tG ⟨b,wk,tM⟩/\ay g.vs v=(x.ptr,x.tgt)/\∀W,aE (N+3) W1 W->W.cell? ⟨b,wk+k*3,tM⟩=tG (ua x.ptr)/\W.cell? ⟨b,wk+k*3+1,tM⟩=tG (tS x.tgt)):=λv hv=>by
   obtain⟨k,b,wk,x,q1,q2,q3,q4,q5,q6,q7⟩:=ed AF.out.vars hv;refine⟨k,b,wk,x,q1,q2,by rw[<-BE.out];exact q3,q5,λW hW=> ?_⟩;have AT:=yi.out W hW;rw[K.out] at q4;exact⟨by rw[AT.cell (p:=⟨b,_,tM⟩) (show b<N by omega)];exact q6,by rw[AT.cell (p:=⟨b,_,tM⟩) (show b<N by omega)];exact q7⟩
  have B6:=AF.out.vl;unfold eC at B6;have HO:cj (∀W b f,zP 51 #[ua b,Z U f] W (Z U (bU (!b) f))):=λW b f=>bG b f W;have vh:cj (∀W W':World,aE (N+3) W1 W->aE W.heap.size W W'->aE N w W'):=λW W' h1 h2=>yi.out W' (h1.trans (h2.mono (by have:=h1.size;rw[vd.out] at this;exact this)));obtain⟨B,hB⟩:=zE (bR&&(!wD||bD));rw[hB];cases B with
  |false=>
   have y:cj (R=15):=by unfold cj;rw[<-HR.out];unfold aF;rw[bx vx.out,cI (by rw[vy.out];exact hB)]
   clear q HV hB;obtain⟨wv,AW⟩:=zE ((if wD=tP then(i.d,tP) else(0,tR)):aw×mm);rw[AW,rj];clear AW yq;go_wp2;go_ret;rw[y.out,K.out];exact⟨rfl,ux.out⟩
  |true=>
  rw[sx];clear E yb yr up xT yq At AI;rcases BT.out with o|o|o|o
  ·
   have ew:wD=tP:=by rw[<-xF.out,o];decide
   subst ew;have ur:bR=tP:=(by simpa using hB:_/\_).1;have wl:bD=tP:=(by simpa using hB:_/\_).2;have yy:isVar g.vs.length i.d=tP:=by have:=yp.out;rw[wl] at this;simpa[aP] using this
   have ws:isVar g.vs.length i.a=tP:=gq (by rw[vt.out];exact ur) (by rw[o];decide);have B7:isVar g.vs.length i.b=tP:=yu (by rw[vt.out];exact ur) (by rw[o];decide);have hE:=eX HR vx vy (by rw[ur,wl];simp);have i0:=q.i0;rw[o] at i0;have g7:=q.g7;have g2:=q.g2;have i2:=q.i2;have i3:=q.i3;obtain⟨kd,B8,B9,xd,yW,Cd,zc,xf,vq⟩:=HV.out i.d yy;have Cl:=zH vq;obtain⟨d0,d1⟩:=vq wc J;clear vq;have Cp:(kd:aw)<(g.vs.length:aw):=by omega
   obtain⟨ka,A0,A1,xa,xj,A2,vr,vm,uv⟩:=HV.out i.a ws;have A3:=zH uv;obtain⟨a0,a1⟩:=uv wc J;clear uv;have A4:(ka:aw)<(g.vs.length:aw):=by omega
   obtain⟨kb,CM,CN,xb,CA,CT,A5,A6,zj⟩:=HV.out i.b B7;have C4:=zH zj;obtain⟨b0,b1⟩:=zj wc J;clear zj;have C5:(kb:aw)<(g.vs.length:aw):=by omega
   subst zc;simp only[dd,eR,pf] at vr;obtain⟨rfl,rfl⟩:=vr;simp only[dd,eR,pf] at A5;obtain⟨rfl,rfl⟩:=A5;rw[xj] at i2;rw[CA] at i3;obtain⟨pd,zp⟩:=zE xd.ptr;rw[zp] at d0 xf;obtain⟨pa,xo⟩:=zE xa.ptr;rw[xo] at a0 vm;obtain⟨pb,CC⟩:=zE xb.ptr;rw[CC] at b0 A6;have i6:=q.i6;have y:cj (R=eY (bU (!(pd||(pa||pb))) 7) i.sign gX):=by unfold cj;rw[hE];simp[o,ax,eD,xf,vm,A6]
   have Bk:cj (∀W,zP 89 #[tS i.sign] W (ua (gX.any λx=>x==i.sign))):=λW=>Aw i.sign W;obtain⟨sg,zs⟩:=zE (gX.any λx=>x==i.sign);rw[zs] at Bk;have xp:cj (∀z,eY z i.sign gX=if z≠0 then z else bU sg 3):=λz=>by unfold eY;rw[zs]
   rw[xp.out] at y;clear zs xp;simp only[lj];rw[yW];clear o hE hB q vc HV;cases pd
   ·cases pa
    ·cases pb
     ·go_wp2_with (first|(go_at_call 89;refine(Bk.out _).mono ?_;rintro e w8 ⟨rfl,vf⟩;have CD:=zH (J.trans (vf.mono (by have:=J.size;rw[vd.out] at this;exact this)));clear vf)|(go_at_call 51;refine(HO.out _ _ _).mono ?_;rintro e w9 ⟨rfl,A⟩;have ue:=zH (vh.out _ _ CD.out A);clear A))
      go_ret;rw[y.out,K.out];exact⟨by cases sg<;>rfl,ue.out⟩
     ·go_wp2
      go_ret;rw[y.out,K.out];exact⟨rfl,ux.out⟩
    ·go_wp2
     go_ret;rw[y.out,K.out];exact⟨rfl,ux.out⟩
   ·go_wp2
    go_ret;rw[y.out,K.out];exact⟨rfl,ux.out⟩
  ·
   have ew:wD=tR:=by rw[<-xF.out,o];decide
   subst ew;have ur:bR=tP:=by simpa using hB
   have ws:isVar g.vs.length i.a=tP:=gq (by rw[vt.out];exact ur) (by rw[o];decide);have hE:=eX HR vx vy (by rw[ur];simp);have i0:=q.i0;rw[o] at i0;have g7:=q.g7;have g2:=q.g2;have i2:=q.i2;obtain⟨ka,A0,A1,xa,xj,A2,vr,vm,uv⟩:=HV.out i.a ws;have A3:=zH uv;obtain⟨a0,a1⟩:=uv wc J;clear uv;have A4:(ka:aw)<(g.vs.length:aw):=by omega
   subst vr;rw[xj] at i2;obtain⟨pa,xo⟩:=zE xa.ptr;rw[xo] at a0 vm;have y:cj (R=bU pa 7):=by unfold cj;rw[hE];simp[o,ax,vm]
   clear o hE hB q vc HV
   go_wp2_with (go_at_call 51;refine(HO.out _ _ _).mono ?_;rintro e w9 ⟨rfl,A⟩;have ue:=zH (vh.out _ _ J A);clear A)
   go_ret;rw[y.out,K.out];exact⟨rfl,by first|exact ue.out|exact ux.out⟩
  ·
   have ew:wD=tP:=by rw[<-xF.out,o];decide
   subst ew;have ur:bR=tP:=(by simpa using hB:_/\_).1;have wl:bD=tP:=(by simpa using hB:_/\_).2;have yy:isVar g.vs.length i.d=tP:=by have:=yp.out;rw[wl] at this;simpa[aP] using this
   have ws:isVar g.vs.length i.a=tP:=gq (by rw[vt.out];exact ur) (by rw[o];decide);have hE:=eX HR vx vy (by rw[ur,wl];simp);have i0:=q.i0;rw[o] at i0;have g7:=q.g7;have g2:=q.g2;have i2:=q.i2;obtain⟨kd,B8,B9,xd,yW,Cd,zc,xf,vq⟩:=HV.out i.d yy;have Cl:=zH vq;obtain⟨d0,d1⟩:=vq wc J;clear vq;have Cp:(kd:aw)<(g.vs.length:aw):=by omega
   obtain⟨ka,A0,A1,xa,xj,A2,vr,vm,uv⟩:=HV.out i.a ws;have A3:=zH uv;obtain⟨a0,a1⟩:=uv wc J;clear uv;have A4:(ka:aw)<(g.vs.length:aw):=by omega
   subst zc;simp only[dd,eR,pf] at vr;obtain⟨rfl,rfl⟩:=vr;rw[xj] at i2;obtain⟨pd,zp⟩:=zE xd.ptr;rw[zp] at d0 xf;obtain⟨pa,xo⟩:=zE xa.ptr;rw[xo] at a0 vm;have i6:=q.i6;have y:cj (R=eY (bU (!pd&&pa) 7) i.sign jC):=by unfold cj;rw[hE];simp[o,ax,xf,vm]
   have Bm:cj ((jC.any λx=>x==i.sign)=(i.sign.toList==[61,61]||i.sign.toList==[33,61])):=by
    unfold cj jC;simp only[List.any_cons,List.any_nil,tv];rw[fY,fY,BEq.comm (a:=i.sign.toList),BEq.comm (a:=i.sign.toList)];rw[show(ByteArray.mk #[61,61]).toList=[61,61] from by decide+kernel,show(ByteArray.mk #[33,61]).toList=[33,61] from by decide+kernel]
   have xp:cj (∀z,eY z i.sign jC=if z≠0 then z else bU (i.sign.toList==[61,61]||i.sign.toList==[33,61]) 3):=λz=>by unfold eY;rw[Bm.out]
   rw[xp.out] at y;clear xp Bm;simp only[lj];rw[yW];clear o hE hB q vc HV;cases pd
   ·cases pa
    ·go_wp2
     go_ret;rw[y.out,K.out];exact⟨rfl,ux.out⟩
    ·by_cases s1:i.sign.toList=[61,61]
     ·have xt:cj (R=0):=by unfold cj;rw[y.out,s1];rfl
      go_wp2_with (go_at_call 51;refine(HO.out _ _ _).mono ?_;rintro e w9 ⟨rfl,A⟩;have ue:=zH (vh.out _ _ J A);clear A)
      go_ret;rw[xt.out,K.out];exact⟨rfl,ue.out⟩
     ·by_cases s2:i.sign.toList=[33,61]
      ·have xt:cj (R=0):=by unfold cj;rw[y.out,s2];rfl
       go_wp2_with (go_at_call 51;refine(HO.out _ _ _).mono ?_;rintro e w9 ⟨rfl,A⟩;have ue:=zH (vh.out _ _ J A);clear A)
       go_ret;rw[xt.out,K.out];exact⟨rfl,ue.out⟩
      ·have xt:cj (R=bU (i.sign.toList==[61,61]||i.sign.toList==[33,61]) 3):=by unfold cj;rw[y.out];rfl
       go_wp2_with (go_at_call 51;refine(HO.out _ _ _).mono ?_;rintro e w9 ⟨rfl,A⟩;have ue:=zH (vh.out _ _ J A);clear A)
       go_ret;rw[xt.out,K.out];exact⟨rfl,ue.out⟩
   ·go_wp2
    go_ret;rw[y.out,K.out];exact⟨rfl,ux.out⟩
  ·
   have ew:wD=tR:=by rw[<-xF.out,o];decide
   subst ew;have ur:bR=tP:=by simpa using hB
   have hE:=eX HR vx vy (by rw[ur];simp);have i0:=q.i0;rw[o] at i0;have g7:=q.g7;have i9:=q.i9;obtain⟨n,hn⟩:=zE g.c.ins.length;obtain⟨t,ht⟩:=zE i.tI;rw[ht] at i9;rw[hn] at g7;have y:cj (R=bU (isVar n t) 15):=by unfold cj;rw[hE];simp[o,hn,ht]
   clear o hE hB q vc HV
   by_cases t0:t<0
   ·have e:isVar n t=tR:=by unfold isVar;rw[cv (by omega)];rfl
    rw[e] at y;have e0:decide (t<0)=tP:=cV t0
    go_wp2_with (go_at_call 51;refine(HO.out _ _ _).mono ?_;rintro e w9 ⟨rfl,A⟩;have ue:=zH (vh.out _ _ J A);clear A)
    go_ret;rw[y.out,K.out];exact⟨rfl,by first|exact ue.out|exact ux.out⟩
   have e0:decide (t<0)=tR:=cv t0
   by_cases t1:(n:aw)<=t
   ·have e:isVar n t=tR:=by unfold isVar;rw[cv (show¬t<(n:aw) by omega),Bool.and_false]
    rw[e] at y;have e1:decide ((n:aw)<=t)=tP:=cV t1
    go_wp2_with (go_at_call 51;refine(HO.out _ _ _).mono ?_;rintro e w9 ⟨rfl,A⟩;have ue:=zH (vh.out _ _ J A);clear A)
    go_ret;rw[y.out,K.out];exact⟨rfl,by first|exact ue.out|exact ux.out⟩
   ·have e:isVar n t=tP:=eT.2 ⟨by omega,by omega⟩
    rw[e] at y;have e1:decide ((n:aw)<=t)=tR:=cv t1
    go_wp2_with (go_at_call 51;refine(HO.out _ _ _).mono ?_;rintro e w9 ⟨rfl,A⟩;have ue:=zH (vh.out _ _ J A);clear A)
    go_ret;rw[y.out,K.out];exact⟨rfl,by first|exact ue.out|exact ux.out⟩
theorem vg (m:Mo)(g:Fn)(i:Ins)(w:World)(h:oQ w m g)(hi:i.args_in w)(AI:i.args.length<=40)(Bs:∀v,isVar g.vs.length v=tP->m.known (ay g.vs v)=tP)(o:i.op=9\/i.op=12\/i.op=18):
  zP 49 #[ub m.cells,ub g.cells,ub i.cells] w (Z U (aF m g i)):=by
 obtain⟨ao,N,W1,hN,AK,yr,HN,vc,By,BE,A,vf,HJ,CA,yv,AM,AN,AS⟩:=gB h hi AI;obtain⟨wD,bD,bR,o1,o2,xF,yy,xT,yW,zc,yb⟩:=gJ (g:=g) (i:=i) (by omega) (by omega);rw[By.out];simp only[Mo.cells,gc,Ins.cells] at yr⊢;have AT:=zH yr;obtain⟨R,hR⟩:=zE (aF m g i);rw[hR];have HR:=zH hR;have yd:=zH h;have BT:=zH o;have AW:=A.out W1 (aq _ _);have A0:=zH AW.ir;clear h hi AI Bs yr hR o;have A1:W1.heap.size=N+3:=AK;go_enter func49,tB
 go_upto_region 1 with(fail)
 rw[AT.out];clear AT AW hN
 go_upto_region 2 with(first
  |(refine cm rfl 42 _ rfl (N+2) rfl 42 _ (0,0) _ A0.out cD rfl (by kernel_rfl) ?_)
  |(go_at_call 86;refine(AM.out _).mono ?_;rintro e w2 ⟨rfl,vt⟩;have A2:=zH vt;clear vt))
 have vt:aE (N+3) W1 w2:=by have:=A2.out;rwa [A1] at this
 have i0:=(A.out w2 vt).i0;have ye:=zH vt;clear vt A1 AK A2;rw[zc.out]
 go_upto_region 4 with(fail)
 clear i0 o1 o2;obtain⟨S,hS⟩:∃S:World->Prop,S=aE (N+3) W1:=⟨_,rfl⟩
 have q:cj (∀w',S w'↔aE (N+3) W1 w'):=λw'=>by rw[hS]
 have yi:cj (∀w',S w'->∀j u,(#[tS g.c.nm,Z U g.c.par,tU ao g.vs.length g.c.varsC,ua g.c.rp,tS g.c.rto,Z U g.c.rcl,tU g.c.fromA g.c.nfrom g.c.fromC,tU g.c.insA g.c.ins.length g.c.insC]:eA cA).toList[j]?=tG u->w'.cell? ((⟨N+1,0,tM⟩:fS).add j)=tG u):=λw' h=>dC (A.out w' ((q.out w').1 h)).gr;have zj:cj (∀w',S w'->∀j u,(#[Z U i.op,Z U i.d,Z U i.a,Z U i.b,Z U i.f,Z U i.n,tS i.sign,i.argsV,i.modeV,Z U i.tI,Z U i.els,Z U i.ln,Z U i.cl]:eA cA).toList[j]?=tG u->w'.cell? ((⟨N+1+1,0,tM⟩:fS).add j)=tG u):=λw' h=>dC (A.out w' ((q.out w').1 h)).ir;have K:cj (∀w',S w'->True/\True):=λ_ _=>⟨trivial,trivial⟩
 clear hS
 go_cut [7,37] from 23 to 37 (λd b wc=>d= Z U (if wD=tP then(i.d,tP) else(0,tR)).1/\b= ua (!(bR&&(!wD||bD)))/\aE (N+3) W1 wc)
 case first=>
  have BY:S w2.drew:=(q.out _).2 ye.out.drew;cases wD with
  |true=>
   simp only[lj];refine aj 5 S (by kernel_rfl) ?_;refine zT 0 rfl K.out ?_
   try go_simp
   refine zT 1 rfl K.out ?_
   try go_simp
   refine zL 2 rfl 38 ⟨N+1,0,tM⟩ yi.out cQ ?_
   try go_simp
   refine zT 3 rfl K.out ?_
   try go_simp
   refine zO 4 rfl λK' y=> ?_;go_simp;have yk:∀c,S (w2.alloc c).drew:=λc=>(q.out _).2 ((ye.out.alloc (by have:=ye.out.size;rw[vc.out] at this;exact this) _).drew);have A3:ak (w2.alloc (uc #[Z U i.d] 3)).drew (tG ⟨w2.heap.size,0,tM⟩) [i.d]:=ak.one w2 i.d rfl;refine y _ _ (yk _) ?_;clear y
   try go_simp
   refine zK rfl λK' y=> ?_;go_simp;go_at_call 87;refine(yv.out _ (tG ⟨w2.heap.size,0,tM⟩) 1 [i.d] (by simp) A3).mono ?_;rintro e w5 ⟨rfl,A4⟩;have B5:S w5:=(q.out _).2 (((q.out _).1 (yk _)).trans (A4.mono (by have:=((q.out _).1 (yk (uc #[Z U i.d] 3))).size;rw[vc.out] at this;exact this)));rw[yy.out];refine y _ _ ?_;clear y A4 yk BY A3
   try go_simp
   cases bD with
   |false=>
    refine bu 6 rfl (by kernel_rfl) (by kernel_rfl) (·=w5) rfl ?_;dsimp only[it]
    repeat (go_big_quiet_step (fail))
    refine dj ?_;rintro _ rfl;go_wp2
    go_meet
    case rel=>exact⟨rfl,by simp,(q.out _).1 B5⟩
   |true=>
    refine fq (S:=S) (k:=12) _ _ _ _ ?_;refine zT 6 rfl K.out ?_
    try go_simp
    refine zT 7 rfl K.out ?_
    try go_simp
    refine zT 8 rfl K.out ?_
    try go_simp
    refine zL 9 rfl 38 ⟨N+1,0,tM⟩ yi.out cQ ?_
    try go_simp
    refine zL 10 rfl 42 ⟨N+1+1,0,tM⟩ zj.out cD ?_
    try go_simp
    refine zO 11 rfl λK' y=> ?_;go_simp;go_at_call 88;refine(AN.out _ ((q.out _).1 (by assumption))).mono ?_;rintro e w7 ⟨ro,rc,rfl,vx,vy⟩;have vh:S w7:=(q.out _).2 (((q.out _).1 (by assumption)).trans (vy.mono (by have:=((q.out _).1 (by assumption)).size;rw[vc.out] at this;exact this)));have we:=vx.at_;refine y _ _ vh ?_;clear y vx vy
    try go_simp
    refine zK rfl λK' y=> ?_;go_simp;go_at_call 87;refine(yv.out _ _ _ _ AS.out we).mono ?_;rintro e w8 ⟨rfl,wg⟩;have zp:=((q.out _).1 vh).trans (wg.mono (by have:=((q.out _).1 vh).size;rw[vc.out] at this;exact this));rw[xT.out];refine y _ _ ?_;clear y we wg
    try go_simp
    refine bu 13 rfl (by kernel_rfl) (by kernel_rfl) (·=w8) rfl ?_;dsimp only[it]
    repeat (go_big_quiet_step (fail))
    refine dj ?_;rintro _ rfl;go_wp2
    go_meet
    case rel=>exact⟨rfl,by simp,zp⟩
  |false=>
    simp only[oS,if_false];refine aj 12 S (by kernel_rfl) ?_;refine zT 0 rfl K.out ?_
    try go_simp
    refine zT 1 rfl K.out ?_
    try go_simp
    refine zN 2 rfl ?_
    try go_simp
    refine zN 3 rfl ?_
    try go_simp
    refine zN 4 rfl ?_
    try go_simp
    refine zN 5 rfl ?_
    try go_simp
    refine zN 6 rfl ?_
    try go_simp
    refine zT 7 rfl K.out ?_
    try go_simp
    refine zT 8 rfl K.out ?_
    try go_simp
    refine zL 9 rfl 38 ⟨N+1,0,tM⟩ yi.out cQ ?_
    try go_simp
    refine zL 10 rfl 42 ⟨N+1+1,0,tM⟩ zj.out cD ?_
    try go_simp
    refine zO 11 rfl λK' y=> ?_;go_simp;go_at_call 88;refine(AN.out _ ((q.out _).1 (by assumption))).mono ?_;rintro e w7 ⟨ro,rc,rfl,vx,vy⟩;have vh:S w7:=(q.out _).2 (((q.out _).1 (by assumption)).trans (vy.mono (by have:=((q.out _).1 (by assumption)).size;rw[vc.out] at this;exact this)));have we:=vx.at_;refine y _ _ vh ?_;clear y vx vy
    try go_simp
    refine zK rfl λK' y=> ?_;go_simp;go_at_call 87;refine(yv.out _ _ _ _ AS.out we).mono ?_;rintro e w8 ⟨rfl,wg⟩;have zp:=((q.out _).1 vh).trans (wg.mono (by have:=((q.out _).1 vh).size;rw[vc.out] at this;exact this));rw[xT.out];refine y _ _ ?_;clear y we wg
    try go_simp
    refine bu 13 rfl (by kernel_rfl) (by kernel_rfl) (·=w8) rfl ?_;dsimp only[it]
    repeat (go_big_quiet_step (fail))
    refine dj ?_;rintro _ rfl;go_wp2
    go_meet
    case rel=>exact⟨rfl,by simp,zp⟩
 case rest=>
  obtain⟨rfl,rfl,J⟩:=hcut;have zs:=zH (vf.out wc J);have t:=A.out wc J;have HV:cj (∀v,isVar g.vs.length v=tP->∃(k b wj:bh) (x:Vr),v=(k:aw)/\k<g.vs.length/\ao=tG ⟨b,wj,tM⟩/\ay g.vs v=(x.ptr,x.tgt)/\∀W,aE (N+3) W1 W->W.cell? ⟨b,wj+k*3,tM⟩=tG (ua x.ptr)/\W.cell? ⟨b,wj+k*3+1,tM⟩=tG (tS x.tgt)):=λv hv=>by
   obtain⟨k,b,wj,x,q1,q2,q3,q4,q5,q6,q7⟩:=ed yd.out.vars hv;refine⟨k,b,wj,x,q1,q2,by rw[<-BE.out];exact q3,q5,λW hW=> ?_⟩;have yp:=vf.out W hW;rw[HN.out] at q4;exact⟨by rw[yp.cell (p:=⟨b,_,tM⟩) (show b<N by omega)];exact q6,by rw[yp.cell (p:=⟨b,_,tM⟩) (show b<N by omega)];exact q7⟩
  have B6:=yd.out.vl;unfold eC at B6;have HO:cj (∀W b f,zP 51 #[ua b,Z U f] W (Z U (bU (!b) f))):=λW b f=>bG b f W;have CC:cj (∀W W':World,aE (N+3) W1 W->aE W.heap.size W W'->aE N w W'):=λW W' h1 h2=>vf.out W' (h1.trans (h2.mono (by have:=h1.size;rw[vc.out] at this;exact this)));obtain⟨B,E⟩:=zE (bR&&(!wD||bD));rw[E];cases B with
  |false=>
   have ue:cj (R=15):=by unfold cj;rw[<-HR.out];unfold aF;rw[bx xF.out,cI (by rw[yb.out];exact E)]
   clear t HV E;obtain⟨wv,A5⟩:=zE ((if wD=tP then(i.d,tP) else(0,tR)):aw×mm);rw[A5,rj];clear A5 zc;go_wp2;go_ret;rw[ue.out,HN.out];exact⟨rfl,zs.out⟩
  |true=>
  rw[sx];clear q yi zj K ye zc AM A0;rcases BT.out with o|o|o
  ·
   have ew:wD=tP:=by rw[<-yW.out,o];decide
   subst ew;have vm:bR=tP:=(by simpa using E:_/\_).1;have wk:bD=tP:=(by simpa using E:_/\_).2;have zv:isVar g.vs.length i.d=tP:=by have:=yy.out;rw[wk] at this;simpa[aP] using this
   have An:isVar g.vs.length i.a=tP:=gq (by rw[xT.out];exact vm) (by rw[o];decide);have hE:=eX HR xF yb (by rw[vm,wk];simp);have i0:=t.i0;rw[o] at i0;have g7:=t.g7;have g2:=t.g2;have i2:=t.i2;obtain⟨kd,up,ur,G,At,B7,Ax,vu,vp⟩:=HV.out i.d zv;have wl:=zH vp;obtain⟨d0,d1⟩:=vp wc J;clear vp;have B8:(kd:aw)<(g.vs.length:aw):=by omega
   obtain⟨ka,ws,xf,xa,xj,B9,yq,vq,vr⟩:=HV.out i.a An;have xo:=zH vr;obtain⟨a0,a1⟩:=vr wc J;clear vr;have Cd:(ka:aw)<(g.vs.length:aw):=by omega
   subst Ax;simp only[dd,eR,pf] at yq;obtain⟨rfl,rfl⟩:=yq;rw[xj] at i2;have z:cj (∀p:BW wc,aE (N+3) W1 p.w):=λp=>J.trans (p.h.mono (by have:=J.size;rw[vc.out] at this;exact this));have uv:cj (∀p:BW wc,Bx m g i (tG ⟨up,ur,tM⟩) N p.w):=λp=>A.out p.w (z.out p);have xp:cj (∀(p:BW wc) b f,zP 51 #[ua b,Z U f] p.w (Z U (bU (!b) f))):=λp b f=>bG b f p.w;have CD:=zH vq;have CH:=zH vu;obtain⟨pa,AD⟩:=zE xa.ptr;obtain⟨dq,ux⟩:=zE (((pa,xa.tgt):Ty)==(G.ptr,G.tgt));have A6:∀w,(gE 10000 32 (ub #[ua pa,tS xa.tgt]) (ub #[ua G.ptr,tS G.tgt])).run am w= .ok dq w:=λw=>by rw[dP,ux]
   rw[AD] at vq a0;have ue:cj (R=bU (pa&&dq) 7):=by unfold cj;rw[hE];simp only[o,ax,vq,vu,ux];simp
   have q0:∀p:BW wc,p.w.cell? ⟨N+1,2,tM⟩=tG (tU (tG ⟨up,ur,tM⟩) g.vs.length g.c.varsC):=λp=>(uv.out p).g2;have q1:∀p:BW wc,p.w.cell? ⟨N+2,2,tM⟩=tG (Z U (ka:aw)):=λp=>by rw[<-xj];exact(uv.out p).i2
   have q2:∀p:BW wc,p.w.cell? ⟨up,ur+ka*3,tM⟩=tG (ua pa):=λp=>by rw[<-AD];exact(xo.out p.w (z.out p)).1
   have q3:∀p:BW wc,p.w.cell? ⟨up,ur+ka*3+1,tM⟩=tG (tS xa.tgt):=λp=>(xo.out p.w (z.out p)).2;have q4:∀p:BW wc,p.w.cell? ⟨up,ur+kd*3,tM⟩=tG (ua G.ptr):=λp=>(wl.out p.w (z.out p)).1;have q5:∀p:BW wc,p.w.cell? ⟨up,ur+kd*3+1,tM⟩=tG (tS G.tgt):=λp=>(wl.out p.w (z.out p)).2;clear ux AD vq vu;simp only[lj];rw[At];clear o hE E t A HV;cases pa<;>cases dq
   all_goals
    go_wp2_with fail
    clear i0 g2 i2 a0 a1 d0 d1;refine zQ ?_
    repeat (go_big_quiet_step (first|(go_at_call 51;exact bE (xp.out _ _ _))))
    refine dj ?_;rintro _ ⟨p,rfl⟩;have xt:=zH (vf.out p.w (z.out p));clear q0 q1 q2 q3 q4 q5;go_wp2;go_ret;rw[ue.out,HN.out];exact⟨rfl,xt.out⟩
  ·
   have ew:wD=tP:=by rw[<-yW.out,o];decide
   subst ew;have vm:bR=tP:=(by simpa using E:_/\_).1;have wk:bD=tP:=(by simpa using E:_/\_).2;have zv:isVar g.vs.length i.d=tP:=by have:=yy.out;rw[wk] at this;simpa[aP] using this
   have hE:=eX HR xF yb (by rw[vm,wk];simp);have i0:=t.i0;rw[o] at i0;have g7:=t.g7;have g2:=t.g2;obtain⟨kd,up,ur,G,At,B7,Ax,vu,vp⟩:=HV.out i.d zv;have wl:=zH vp;obtain⟨d0,d1⟩:=vp wc J;clear vp;have B8:(kd:aw)<(g.vs.length:aw):=by omega
   subst Ax;have z:cj (∀p:BW wc,aE (N+3) W1 p.w):=λp=>J.trans (p.h.mono (by have:=J.size;rw[vc.out] at this;exact this));have uv:cj (∀p:BW wc,Bx m g i (tG ⟨up,ur,tM⟩) N p.w):=λp=>A.out p.w (z.out p);have xp:cj (∀(p:BW wc) b f,zP 51 #[ua b,Z U f] p.w (Z U (bU (!b) f))):=λp b f=>bG b f p.w;have i4:=t.i4;have m0:=t.m0;have vd:R=if i.f<0 then 15 else match m.ss[i.f.toNat]? with
    |none=>15
    |some s=>bU (ay g.vs i.d==(tP,s.s.nm)) 7:=by rw[hE];simp only[o,ax];simp;rfl
   obtain⟨f,hf⟩:=zE i.f;rw[hf] at vd i4;have Cl:=yd.out.mo.ns;unfold eC at Cl
   by_cases AE:f<0
   ·have ue:cj (R=15):=by unfold cj;rw[vd,cI AE]
    have e0:decide (f<0)=tP:=cV AE;clear o hE vd E t A HV hf;go_wp2;go_ret;rw[ue.out,HN.out];exact⟨rfl,zs.out⟩
   obtain⟨F,rfl⟩:∃F:bh,f=(F:aw):=⟨f.toNat,by omega⟩
   rw[bx AE,eW] at vd
   by_cases AF:F<m.ss.length
   rotate_left
   ·have ue:cj (R=15):=by unfold cj;rw[vd,mw (by omega)]
    have Cp:(m.ss.length:aw)<=(F:aw):=by omega
    clear o hE vd E t A HV hf;go_wp2;go_ret;rw[ue.out,HN.out];exact⟨rfl,zs.out⟩
   have Cp:(F:aw)<(m.ss.length:aw):=by omega
   obtain⟨st,hst⟩:∃s,m.ss[F]?=tG s:=⟨_,ap AF⟩
   rw[hst,vu] at vd;obtain⟨sb,so,AH,Bk,Bm⟩:=yd.out.mo.srow (by intro e;rw[e] at AF;simp at AF);rw[AH] at m0;obtain⟨dq,ux⟩:=zE (((G.ptr,G.tgt):Ty)==(tP,st.s.nm));have A6:∀w,(gE 10000 32 (ub #[ua G.ptr,tS G.tgt]) (ub #[ua tP,tS st.s.nm])).run am w= .ok dq w:=λw=>by rw[dP,ux]
   have ue:cj (R=bU dq 7):=by unfold cj;rw[vd,<-ux]
   have q0:∀p:BW wc,p.w.cell? ⟨N+1,2,tM⟩=tG (tU (tG ⟨up,ur,tM⟩) g.vs.length g.c.varsC):=λp=>(uv.out p).g2;have q1:∀p:BW wc,p.w.cell? ⟨N+2,4,tM⟩=tG (Z U (F:aw)):=λp=>by rw[<-hf];exact(uv.out p).i4
   have q2:∀p:BW wc,p.w.cell? ⟨N,0,tM⟩=tG (tU (tG ⟨sb,so,tM⟩) m.ss.length m.sC):=λp=>by rw[<-AH];exact(uv.out p).m0
   have q3:∀p:BW wc,p.w.cell? ⟨sb,so+F*4,tM⟩=tG (tS st.s.nm):=λp=>by
    have yp:=vf.out p.w (z.out p);rw[HN.out] at Bk;rw[yp.cell (p:=⟨sb,_,tM⟩) (show sb<N by omega)];exact Bm F st hst 0 _ rfl
   have q4:∀p:BW wc,p.w.cell? ⟨up,ur+kd*3,tM⟩=tG (ua G.ptr):=λp=>(wl.out p.w (z.out p)).1;have q5:∀p:BW wc,p.w.cell? ⟨up,ur+kd*3+1,tM⟩=tG (tS G.tgt):=λp=>(wl.out p.w (z.out p)).2;clear ux vu vd hf hst AH Bk Bm;simp only[lj];rw[At];clear o hE E t A HV;cases dq
   all_goals
    go_wp2_with fail
    clear i0 g2 i4 m0 d0 d1;refine zQ ?_
    repeat (go_big_quiet_step (first|(go_at_call 51;exact bE (xp.out _ _ _))))
    refine dj ?_;rintro _ ⟨p,rfl⟩;have xt:=zH (vf.out p.w (z.out p));clear q0 q1 q2 q3 q4 q5;go_wp2;go_ret;rw[ue.out,HN.out];exact⟨rfl,xt.out⟩
  ·
   have ew:wD=tR:=by rw[<-yW.out,o];decide
   subst ew;have vm:bR=tP:=by simpa using E
   have An:isVar g.vs.length i.a=tP:=gq (by rw[xT.out];exact vm) (by rw[o];decide);have hE:=eX HR xF yb (by rw[vm];simp);have i0:=t.i0;rw[o] at i0;have g7:=t.g7;have g2:=t.g2;have i2:=t.i2;obtain⟨ka,ws,xf,xa,xj,B9,yq,vq,vr⟩:=HV.out i.a An;have xo:=zH vr;obtain⟨a0,a1⟩:=vr wc J;clear vr;have Cd:(ka:aw)<(g.vs.length:aw):=by omega
   subst yq;rw[xj] at i2;have z:cj (∀p:BW wc,aE (N+3) W1 p.w):=λp=>J.trans (p.h.mono (by have:=J.size;rw[vc.out] at this;exact this));have uv:cj (∀p:BW wc,Bx m g i (tG ⟨ws,xf,tM⟩) N p.w):=λp=>A.out p.w (z.out p);have xp:cj (∀(p:BW wc) b f,zP 51 #[ua b,Z U f] p.w (Z U (bU (!b) f))):=λp b f=>bG b f p.w;obtain⟨dq,ux⟩:=zE (((xa.ptr,xa.tgt):Ty)==(g.c.rp,g.c.rto));have A6:∀w,(gE 10000 32 (ub #[ua xa.ptr,tS xa.tgt]) (ub #[ua g.c.rp,tS g.c.rto])).run am w= .ok dq w:=λw=>by rw[dP,ux]
   have ue:cj (R=bU dq 7):=by unfold cj;rw[hE,vq,<-ux];simp only[o];simp[Fn.ret]
   have q0:∀p:BW wc,p.w.cell? ⟨N+1,2,tM⟩=tG (tU (tG ⟨ws,xf,tM⟩) g.vs.length g.c.varsC):=λp=>(uv.out p).g2;have q1:∀p:BW wc,p.w.cell? ⟨N+2,2,tM⟩=tG (Z U (ka:aw)):=λp=>by rw[<-xj];exact(uv.out p).i2
   have q2:∀p:BW wc,p.w.cell? ⟨ws,xf+ka*3,tM⟩=tG (ua xa.ptr):=λp=>(xo.out p.w (z.out p)).1;have q3:∀p:BW wc,p.w.cell? ⟨ws,xf+ka*3+1,tM⟩=tG (tS xa.tgt):=λp=>(xo.out p.w (z.out p)).2;have q4:∀p:BW wc,p.w.cell? ⟨N+1,3,tM⟩=tG (ua g.c.rp):=λp=>(uv.out p).g3;have q5:∀p:BW wc,p.w.cell? ⟨N+1,3+1,tM⟩=tG (tS g.c.rto):=λp=>(uv.out p).g4;clear ux vq;clear o hE E t A HV;cases dq
   all_goals
    go_wp2_with fail
    clear i0 g2 i2 a0 a1;refine zQ ?_
    repeat (go_big_quiet_step (first|(go_at_call 51;exact bE (xp.out _ _ _))))
    refine dj ?_;rintro _ ⟨p,rfl⟩;have xt:=zH (vf.out p.w (z.out p));clear q0 q1 q2 q3 q4 q5;go_wp2;go_ret;rw[ue.out,HN.out];exact⟨rfl,xt.out⟩
theorem vk (m:Mo)(g:Fn)(i:Ins)(w:World)(h:oQ w m g)(hi:i.args_in w)(AM:i.args.length<=40)(AN:∀v,isVar g.vs.length v=tP->m.known (ay g.vs v)=tP)(q:i.op=7\/i.op=8\/i.op=10\/i.op=11):
  zP 49 #[ub m.cells,ub g.cells,ub i.cells] w (Z U (aF m g i)):=by
 obtain⟨ao,N,W1,hN,AS,yp,HN,vc,we,BE,uv,yq,HJ,CC,yr,AT,AW,A0⟩:=gB h hi AM;obtain⟨wD,bD,bR,o1,o2,wg,yv,ux,xT,yy,wj⟩:=gJ (g:=g) (i:=i) (by omega) (by omega);rw[we.out];simp only[Mo.cells,gc,Ins.cells] at yp⊢;have A1:=zH yp;obtain⟨R,hR⟩:=zE (aF m g i);rw[hR];have HR:=zH hR;have yb:=zH AN;have A2:=zH h;have BT:=zH q;have A3:=uv.out W1 (aq _ _);have A4:=zH A3.ir;clear h hi AM AN yp hR q;have A5:W1.heap.size=N+3:=AS;go_enter func49,tB
 go_upto_region 1 with(fail)
 rw[A1.out];clear A1 A3 hN
 go_upto_region 2 with(first
  |(refine cm rfl 42 _ rfl (N+2) rfl 42 _ (0,0) _ A4.out cD rfl (by kernel_rfl) ?_)
  |(go_at_call 86;refine(AT.out _).mono ?_;rintro e w2 ⟨rfl,vy⟩;have A6:=zH vy;clear vy))
 have vy:aE (N+3) W1 w2:=by have:=A6.out;rwa [A5] at this
 have i0:=(uv.out w2 vy).i0;have yd:=zH vy;clear vy A5 AS A6;rw[yy.out]
 go_upto_region 4 with(fail)
 clear i0 o1 o2;obtain⟨S,hS⟩:∃S:World->Prop,S=aE (N+3) W1:=⟨_,rfl⟩
 have t:cj (∀w',S w'↔aE (N+3) W1 w'):=λw'=>by rw[hS]
 have ye:cj (∀w',S w'->∀j u,(#[tS g.c.nm,Z U g.c.par,tU ao g.vs.length g.c.varsC,ua g.c.rp,tS g.c.rto,Z U g.c.rcl,tU g.c.fromA g.c.nfrom g.c.fromC,tU g.c.insA g.c.ins.length g.c.insC]:eA cA).toList[j]?=tG u->w'.cell? ((⟨N+1,0,tM⟩:fS).add j)=tG u):=λw' h=>dC (uv.out w' ((t.out w').1 h)).gr;have yW:cj (∀w',S w'->∀j u,(#[Z U i.op,Z U i.d,Z U i.a,Z U i.b,Z U i.f,Z U i.n,tS i.sign,i.argsV,i.modeV,Z U i.tI,Z U i.els,Z U i.ln,Z U i.cl]:eA cA).toList[j]?=tG u->w'.cell? ((⟨N+1+1,0,tM⟩:fS).add j)=tG u):=λw' h=>dC (uv.out w' ((t.out w').1 h)).ir;have up:cj (∀w',S w'->True/\True):=λ_ _=>⟨trivial,trivial⟩
 clear hS
 go_cut [7,37] from 23 to 37 (λd b wc=>d= Z U (if wD=tP then(i.d,tP) else(0,tR)).1/\b= ua (!(bR&&(!wD||bD)))/\aE (N+3) W1 wc)
 case first=>
  have BY:S w2.drew:=(t.out _).2 yd.out.drew;cases wD with
  |true=>
   simp only[lj];refine aj 5 S (by kernel_rfl) ?_;refine zT 0 rfl up.out ?_
   try go_simp
   refine zT 1 rfl up.out ?_
   try go_simp
   refine zL 2 rfl 38 ⟨N+1,0,tM⟩ ye.out cQ ?_
   try go_simp
   refine zT 3 rfl up.out ?_
   try go_simp
   refine zO 4 rfl λK' A=> ?_;go_simp;have yi:∀c,S (w2.alloc c).drew:=λc=>(t.out _).2 ((yd.out.alloc (by have:=yd.out.size;rw[vc.out] at this;exact this) _).drew);have Bk:ak (w2.alloc (uc #[Z U i.d] 3)).drew (tG ⟨w2.heap.size,0,tM⟩) [i.d]:=ak.one w2 i.d rfl;refine A _ _ (yi _) ?_;clear A
   try go_simp
   refine zK rfl λK' A=> ?_;go_simp;go_at_call 87;refine(yr.out _ (tG ⟨w2.heap.size,0,tM⟩) 1 [i.d] (by simp) Bk).mono ?_;rintro e w5 ⟨rfl,Bm⟩;have B5:S w5:=(t.out _).2 (((t.out _).1 (yi _)).trans (Bm.mono (by have:=((t.out _).1 (yi (uc #[Z U i.d] 3))).size;rw[vc.out] at this;exact this)));rw[yv.out];refine A _ _ ?_;clear A Bm yi BY Bk
   try go_simp
   cases bD with
   |false=>
    refine bu 6 rfl (by kernel_rfl) (by kernel_rfl) (·=w5) rfl ?_;dsimp only[it]
    repeat (go_big_quiet_step (fail))
    refine dj ?_;rintro _ rfl;go_wp2
    go_meet
    case rel=>exact⟨rfl,by simp,(t.out _).1 B5⟩
   |true=>
    refine fq (S:=S) (k:=12) _ _ _ _ ?_;refine zT 6 rfl up.out ?_
    try go_simp
    refine zT 7 rfl up.out ?_
    try go_simp
    refine zT 8 rfl up.out ?_
    try go_simp
    refine zL 9 rfl 38 ⟨N+1,0,tM⟩ ye.out cQ ?_
    try go_simp
    refine zL 10 rfl 42 ⟨N+1+1,0,tM⟩ yW.out cD ?_
    try go_simp
    refine zO 11 rfl λK' A=> ?_;go_simp;go_at_call 88;refine(AW.out _ ((t.out _).1 (by assumption))).mono ?_;rintro e w7 ⟨ro,rc,rfl,wk,wl⟩;have vd:S w7:=(t.out _).2 (((t.out _).1 (by assumption)).trans (wl.mono (by have:=((t.out _).1 (by assumption)).size;rw[vc.out] at this;exact this)));have ws:=wk.at_;refine A _ _ vd ?_;clear A wk wl
    try go_simp
    refine zK rfl λK' A=> ?_;go_simp;go_at_call 87;refine(yr.out _ _ _ _ A0.out ws).mono ?_;rintro e w8 ⟨rfl,xf⟩;have zc:=((t.out _).1 vd).trans (xf.mono (by have:=((t.out _).1 vd).size;rw[vc.out] at this;exact this));rw[ux.out];refine A _ _ ?_;clear A ws xf
    try go_simp
    refine bu 13 rfl (by kernel_rfl) (by kernel_rfl) (·=w8) rfl ?_;dsimp only[it]
    repeat (go_big_quiet_step (fail))
    refine dj ?_;rintro _ rfl;go_wp2
    go_meet
    case rel=>exact⟨rfl,by simp,zc⟩
  |false=>
    simp only[oS,if_false];refine aj 12 S (by kernel_rfl) ?_;refine zT 0 rfl up.out ?_
    try go_simp
    refine zT 1 rfl up.out ?_
    try go_simp
    refine zN 2 rfl ?_
    try go_simp
    refine zN 3 rfl ?_
    try go_simp
    refine zN 4 rfl ?_
    try go_simp
    refine zN 5 rfl ?_
    try go_simp
    refine zN 6 rfl ?_
    try go_simp
    refine zT 7 rfl up.out ?_
    try go_simp
    refine zT 8 rfl up.out ?_
    try go_simp
    refine zL 9 rfl 38 ⟨N+1,0,tM⟩ ye.out cQ ?_
    try go_simp
    refine zL 10 rfl 42 ⟨N+1+1,0,tM⟩ yW.out cD ?_
    try go_simp
    refine zO 11 rfl λK' A=> ?_;go_simp;go_at_call 88;refine(AW.out _ ((t.out _).1 (by assumption))).mono ?_;rintro e w7 ⟨ro,rc,rfl,wk,wl⟩;have vd:S w7:=(t.out _).2 (((t.out _).1 (by assumption)).trans (wl.mono (by have:=((t.out _).1 (by assumption)).size;rw[vc.out] at this;exact this)));have ws:=wk.at_;refine A _ _ vd ?_;clear A wk wl
    try go_simp
    refine zK rfl λK' A=> ?_;go_simp;go_at_call 87;refine(yr.out _ _ _ _ A0.out ws).mono ?_;rintro e w8 ⟨rfl,xf⟩;have zc:=((t.out _).1 vd).trans (xf.mono (by have:=((t.out _).1 vd).size;rw[vc.out] at this;exact this));rw[ux.out];refine A _ _ ?_;clear A ws xf
    try go_simp
    refine bu 13 rfl (by kernel_rfl) (by kernel_rfl) (·=w8) rfl ?_;dsimp only[it]
    repeat (go_big_quiet_step (fail))
    refine dj ?_;rintro _ rfl;go_wp2
    go_meet
    case rel=>exact⟨rfl,by simp,zc⟩
 case rest=>
  obtain⟨rfl,rfl,z⟩:=hcut;have B6:=zH (yq.out wc z);have o:=uv.out wc z;have K:cj (∀v,isVar g.vs.length v=tP->∃(k b xj:bh) (x:Vr),v=(k:aw)/\k<g.vs.length/\ao=tG ⟨b,xj,tM⟩/\ay g.vs v=(x.ptr,x.tgt)/\∀W,aE (N+3) W1 W->W.cell? ⟨b,xj+k*3,tM⟩=tG (ua x.ptr)/\W.cell? ⟨b,xj+k*3+1,tM⟩=tG (tS x.tgt)):=λv hv=>by
   obtain⟨k,b,xj,x,q1,q2,q3,q4,q5,q6,q7⟩:=ed A2.out.vars hv;refine⟨k,b,xj,x,q1,q2,by rw[<-BE.out];exact q3,q5,λW hW=> ?_⟩;have Bs:=yq.out W hW;rw[HN.out] at q4;exact⟨by rw[Bs.cell (p:=⟨b,_,tM⟩) (show b<N by omega)];exact q6,by rw[Bs.cell (p:=⟨b,_,tM⟩) (show b<N by omega)];exact q7⟩
  have B7:=A2.out.vl;unfold eC at B7;have HO:cj (∀W b f,zP 51 #[ua b,Z U f] W (Z U (bU (!b) f))):=λW b f=>bG b f W;have yk:cj (∀W W':World,aE (N+3) W1 W->aE W.heap.size W W'->aE N w W'):=λW W' h1 h2=>yq.out W' (h1.trans (h2.mono (by have:=h1.size;rw[vc.out] at this;exact this)));obtain⟨B,hB⟩:=zE (bR&&(!wD||bD));rw[hB];cases B with
  |false=>
   have xo:cj (R=15):=by unfold cj;rw[<-HR.out];unfold aF;rw[bx wg.out,cI (by rw[wj.out];exact hB)]
   clear o K hB;obtain⟨wv,By⟩:=zE ((if wD=tP then(i.d,tP) else(0,tR)):aw×mm);rw[By,rj];clear By yy;go_wp2;go_ret;rw[xo.out,HN.out];exact⟨rfl,B6.out⟩
  |true=>
  rw[sx];clear t ye yW up yd yy AT A4;rcases BT.out with q|q|q|q
  ·
   have ew:wD=tP:=by rw[<-xT.out,q];decide
   subst ew;have ue:bR=tP:=(by simpa using hB:_/\_).1;have xp:bD=tP:=(by simpa using hB:_/\_).2;have xt:isVar g.vs.length i.d=tP:=by have:=yv.out;rw[xp] at this;simpa[aP] using this
   have E:isVar g.vs.length i.a=tP:=gq (by rw[ux.out];exact ue) (by rw[q];decide);have hE:=eX HR wg wj (by rw[ue,xp];simp);have i0:=o.i0;rw[q] at i0;have g7:=o.g7;have g2:=o.g2;have i2:=o.i2;obtain⟨ka,zj,zp,xa,vf,vh,vm,vp,G⟩:=K.out i.a E;have zs:=zH G;obtain⟨a0,a1⟩:=G wc z;clear G;have vq:(ka:aw)<(g.vs.length:aw):=by omega
   obtain⟨kd,B8,B9,xd,zv,An,At,Ax,vr⟩:=K.out i.d xt;have Cd:=zH vr;obtain⟨d0,d1⟩:=vr wc z;clear vr;have AD:(kd:aw)<(g.vs.length:aw):=by omega
   have J:R=dA m g.vs i i.d tR:=by rw[hE];simp[q,ax]
   have xo:=zH J;have y:=yn m g i wc (HJ.out wc z) q E xt (yb.out i.a E);rw[<-J,we.out] at y;simp only[Mo.cells,gc,Ins.cells] at y;have vt:=zH y;have m0:=o.m0;have m1:=o.m1;have HG:=zH o.gr;have HI:=zH o.ir;clear J y a0 a1 d0 d1 vf vh vm vp vq zv An At Ax AD;clear q hE hB o uv K g2 i2
   go_wp2_with (first
    |(refine cm rfl 38 _ rfl (N+1) rfl 38 _ (0,0) _ HG.out cQ rfl (by kernel_rfl) ?_)
    |(refine cm rfl 42 _ rfl (N+2) rfl 42 _ (0,0) _ HI.out cD rfl (by kernel_rfl) ?_)
    |(go_at_call 90;refine vt.out.mono ?_;rintro e w9 ⟨rfl,ur⟩;have vu:=zH (yk.out _ _ z ur);clear ur))
   go_ret;rw[HN.out];exact⟨rfl,vu.out⟩
  ·
   have ew:wD=tR:=by rw[<-xT.out,q];decide
   subst ew;have ue:bR=tP:=by simpa using hB
   have E:isVar g.vs.length i.a=tP:=gq (by rw[ux.out];exact ue) (by rw[q];decide);have xF:isVar g.vs.length i.b=tP:=yu (by rw[ux.out];exact ue) (by rw[q];decide);have hE:=eX HR wg wj (by rw[ue];simp);have i0:=o.i0;rw[q] at i0;have g7:=o.g7;have g2:=o.g2;have i2:=o.i2;have i3:=o.i3;obtain⟨ka,zj,zp,xa,vf,vh,vm,vp,G⟩:=K.out i.a E;have zs:=zH G;obtain⟨a0,a1⟩:=G wc z;clear G;have vq:(ka:aw)<(g.vs.length:aw):=by omega
   obtain⟨kb,Cl,Cp,xb,AE,AF,AH,AI,vx⟩:=K.out i.b xF;have CA:=zH vx;obtain⟨b0,b1⟩:=vx wc z;clear vx;have AK:(kb:aw)<(g.vs.length:aw):=by omega
   have J:R=dA m g.vs i i.b tR:=by rw[hE];simp[q,ax]
   have xo:=zH J;have y:=yo m g i wc (HJ.out wc z) q E xF (yb.out i.a E);rw[<-J,we.out] at y;simp only[Mo.cells,gc,Ins.cells] at y;have vt:=zH y;have m0:=o.m0;have m1:=o.m1;have HG:=zH o.gr;have HI:=zH o.ir;clear J y a0 a1 b0 b1 vf vh vm vp vq AE AF AH AI AK;clear q hE hB o uv K g2 i2 i3
   go_wp2_with (first
    |(refine cm rfl 38 _ rfl (N+1) rfl 38 _ (0,0) _ HG.out cQ rfl (by kernel_rfl) ?_)
    |(refine cm rfl 42 _ rfl (N+2) rfl 42 _ (0,0) _ HI.out cD rfl (by kernel_rfl) ?_)
    |(go_at_call 90;refine vt.out.mono ?_;rintro e w9 ⟨rfl,ur⟩;have vu:=zH (yk.out _ _ z ur);clear ur))
   go_ret;rw[HN.out];exact⟨rfl,vu.out⟩
  ·
   have ew:wD=tP:=by rw[<-xT.out,q];decide
   subst ew;have ue:bR=tP:=(by simpa using hB:_/\_).1;have xp:bD=tP:=(by simpa using hB:_/\_).2;have xt:isVar g.vs.length i.d=tP:=by have:=yv.out;rw[xp] at this;simpa[aP] using this
   have E:isVar g.vs.length i.a=tP:=gq (by rw[ux.out];exact ue) (by rw[q];decide);have hE:=eX HR wg wj (by rw[ue,xp];simp);have i0:=o.i0;rw[q] at i0;have g7:=o.g7;have g2:=o.g2;have i2:=o.i2;obtain⟨ka,zj,zp,xa,vf,vh,vm,vp,G⟩:=K.out i.a E;have zs:=zH G;obtain⟨a0,a1⟩:=G wc z;clear G;have vq:(ka:aw)<(g.vs.length:aw):=by omega
   obtain⟨kd,B8,B9,xd,zv,An,At,Ax,vr⟩:=K.out i.d xt;have Cd:=zH vr;obtain⟨d0,d1⟩:=vr wc z;clear vr;have AD:(kd:aw)<(g.vs.length:aw):=by omega
   have J:R=dA m g.vs i i.d tP:=by rw[hE];simp[q,ax]
   have xo:=zH J;have y:=uW m g i wc (HJ.out wc z) q E xt (yb.out i.a E);rw[<-J,we.out] at y;simp only[Mo.cells,gc,Ins.cells] at y;have vt:=zH y;have m0:=o.m0;have m1:=o.m1;have HG:=zH o.gr;have HI:=zH o.ir;clear J y a0 a1 d0 d1 vf vh vm vp vq zv An At Ax AD;clear q hE hB o uv K g2 i2
   go_wp2_with (first
    |(refine cm rfl 38 _ rfl (N+1) rfl 38 _ (0,0) _ HG.out cQ rfl (by kernel_rfl) ?_)
    |(refine cm rfl 42 _ rfl (N+2) rfl 42 _ (0,0) _ HI.out cD rfl (by kernel_rfl) ?_)
    |(go_at_call 90;refine vt.out.mono ?_;rintro e w9 ⟨rfl,ur⟩;have vu:=zH (yk.out _ _ z ur);clear ur))
   go_ret;rw[HN.out];exact⟨rfl,vu.out⟩
  ·
   have ew:wD=tR:=by rw[<-xT.out,q];decide
   subst ew;have ue:bR=tP:=by simpa using hB
   have E:isVar g.vs.length i.a=tP:=gq (by rw[ux.out];exact ue) (by rw[q];decide);have xF:isVar g.vs.length i.b=tP:=yu (by rw[ux.out];exact ue) (by rw[q];decide);have hE:=eX HR wg wj (by rw[ue];simp);have i0:=o.i0;rw[q] at i0;have g7:=o.g7;have g2:=o.g2;have i2:=o.i2;have i3:=o.i3;obtain⟨ka,zj,zp,xa,vf,vh,vm,vp,G⟩:=K.out i.a E;have zs:=zH G;obtain⟨a0,a1⟩:=G wc z;clear G;have vq:(ka:aw)<(g.vs.length:aw):=by omega
   obtain⟨kb,Cl,Cp,xb,AE,AF,AH,AI,vx⟩:=K.out i.b xF;have CA:=zH vx;obtain⟨b0,b1⟩:=vx wc z;clear vx;have AK:(kb:aw)<(g.vs.length:aw):=by omega
   have J:R=dA m g.vs i i.b tP:=by rw[hE];simp[q,ax]
   have xo:=zH J;have y:=uX m g i wc (HJ.out wc z) q E xF (yb.out i.a E);rw[<-J,we.out] at y;simp only[Mo.cells,gc,Ins.cells] at y;have vt:=zH y;have m0:=o.m0;have m1:=o.m1;have HG:=zH o.gr;have HI:=zH o.ir;clear J y a0 a1 b0 b1 vf vh vm vp vq AE AF AH AI AK;clear q hE hB o uv K g2 i2 i3
   go_wp2_with (first
    |(refine cm rfl 38 _ rfl (N+1) rfl 38 _ (0,0) _ HG.out cQ rfl (by kernel_rfl) ?_)
    |(refine cm rfl 42 _ rfl (N+2) rfl 42 _ (0,0) _ HI.out cD rfl (by kernel_rfl) ?_)
    |(go_at_call 90;refine vt.out.mono ?_;rintro e w9 ⟨rfl,ur⟩;have vu:=zH (yk.out _ _ z ur);clear ur))
   go_ret;rw[HN.out];exact⟨rfl,vu.out⟩
theorem vv (m:Mo)(g:Fn)(i:Ins)(w:World)(h:oQ w m g)(hi:i.args_in w)(vp:i.args.length<=40)(zj:∀v,isVar g.vs.length v=tP->m.known (ay g.vs v)=tP)(z:i.op=15):
  zP 49 #[ub m.cells,ub g.cells,ub i.cells] w (Z U (aF m g i)):=by
 obtain⟨ao,N,W1,hN,wj,vq,HN,A,wk,zp,G,vr,HJ,zs,vt,wl,ws,xf⟩:=gB h hi vp;obtain⟨J,bD,bR,o1,o2,xj,xo,vu,zv,vx,xp⟩:=gJ (g:=g) (i:=i) (by omega) (by omega);rw[wk.out];simp only[Mo.cells,gc,Ins.cells] at vq⊢;have xt:=zH vq;obtain⟨R,hR⟩:=zE (aF m g i);rw[hR];have HR:=zH hR;have An:=zH vp;have xF:=zH h;have At:=zH z;have xT:=G.out W1 (aq _ _);have yb:=zH xT.ir;clear h hi vp zj vq hR z;have yd:W1.heap.size=N+3:=wj;go_enter func49,tB
 go_upto_region 1 with(fail)
 rw[xt.out];clear xt xT hN
 go_upto_region 2 with(first
  |(refine cm rfl 42 _ rfl (N+2) rfl 42 _ (0,0) _ yb.out cD rfl (by kernel_rfl) ?_)
  |(go_at_call 86;refine(wl.out _).mono ?_;rintro e w2 ⟨rfl,K⟩;have ye:=zH K;clear K))
 have K:aE (N+3) W1 w2:=by have:=ye.out;rwa [yd] at this
 have i0:=(G.out w2 K).i0;have vd:=zH K;clear K yd wj ye;rw[vx.out]
 go_upto_region 4 with(fail)
 clear i0 o1 o2;obtain⟨S,hS⟩:∃S:World->Prop,S=aE (N+3) W1:=⟨_,rfl⟩
 have o:cj (∀w',S w'↔aE (N+3) W1 w'):=λw'=>by rw[hS]
 have vf:cj (∀w',S w'->∀j u,(#[tS g.c.nm,Z U g.c.par,tU ao g.vs.length g.c.varsC,ua g.c.rp,tS g.c.rto,Z U g.c.rcl,tU g.c.fromA g.c.nfrom g.c.fromC,tU g.c.insA g.c.ins.length g.c.insC]:eA cA).toList[j]?=tG u->w'.cell? ((⟨N+1,0,tM⟩:fS).add j)=tG u):=λw' h=>dC (G.out w' ((o.out w').1 h)).gr;have vy:cj (∀w',S w'->∀j u,(#[Z U i.op,Z U i.d,Z U i.a,Z U i.b,Z U i.f,Z U i.n,tS i.sign,i.argsV,i.modeV,Z U i.tI,Z U i.els,Z U i.ln,Z U i.cl]:eA cA).toList[j]?=tG u->w'.cell? ((⟨N+1+1,0,tM⟩:fS).add j)=tG u):=λw' h=>dC (G.out w' ((o.out w').1 h)).ir;have t:cj (∀w',S w'->True/\True):=λ_ _=>⟨trivial,trivial⟩
 clear hS
 go_cut [7,37] from 23 to 37 (λd b wc=>d= Z U (if J=tP then(i.d,tP) else(0,tR)).1/\b= ua (!(bR&&(!J||bD)))/\aE (N+3) W1 wc)
 case first=>
  have Ax:S w2.drew:=(o.out _).2 vd.out.drew;cases J with
  |true=>
   simp only[lj];refine aj 5 S (by kernel_rfl) ?_;refine zT 0 rfl t.out ?_
   try go_simp
   refine zT 1 rfl t.out ?_
   try go_simp
   refine zL 2 rfl 38 ⟨N+1,0,tM⟩ vf.out cQ ?_
   try go_simp
   refine zT 3 rfl t.out ?_
   try go_simp
   refine zO 4 rfl λK' q=> ?_;go_simp;have vh:∀c,S (w2.alloc c).drew:=λc=>(o.out _).2 ((vd.out.alloc (by have:=vd.out.size;rw[A.out] at this;exact this) _).drew);have yi:ak (w2.alloc (uc #[Z U i.d] 3)).drew (tG ⟨w2.heap.size,0,tM⟩) [i.d]:=ak.one w2 i.d rfl;refine q _ _ (vh _) ?_;clear q
   try go_simp
   refine zK rfl λK' q=> ?_;go_simp;go_at_call 87;refine(vt.out _ (tG ⟨w2.heap.size,0,tM⟩) 1 [i.d] (by simp) yi).mono ?_;rintro e w5 ⟨rfl,yk⟩;have AD:S w5:=(o.out _).2 (((o.out _).1 (vh _)).trans (yk.mono (by have:=((o.out _).1 (vh (uc #[Z U i.d] 3))).size;rw[A.out] at this;exact this)));rw[xo.out];refine q _ _ ?_;clear q yk vh Ax yi
   try go_simp
   cases bD with
   |false=>
    refine bu 6 rfl (by kernel_rfl) (by kernel_rfl) (·=w5) rfl ?_;dsimp only[it]
    repeat (go_big_quiet_step (fail))
    refine dj ?_;rintro _ rfl;go_wp2
    go_meet
    case rel=>exact⟨rfl,by simp,(o.out _).1 AD⟩
   |true=>
    refine fq (S:=S) (k:=12) _ _ _ _ ?_;refine zT 6 rfl t.out ?_
    try go_simp
    refine zT 7 rfl t.out ?_
    try go_simp
    refine zT 8 rfl t.out ?_
    try go_simp
    refine zL 9 rfl 38 ⟨N+1,0,tM⟩ vf.out cQ ?_
    try go_simp
    refine zL 10 rfl 42 ⟨N+1+1,0,tM⟩ vy.out cD ?_
    try go_simp
    refine zO 11 rfl λK' q=> ?_;go_simp;go_at_call 88;refine(ws.out _ ((o.out _).1 (by assumption))).mono ?_;rintro e w7 ⟨ro,rc,rfl,up,ur⟩;have E:S w7:=(o.out _).2 (((o.out _).1 (by assumption)).trans (ur.mono (by have:=((o.out _).1 (by assumption)).size;rw[A.out] at this;exact this)));have uv:=up.at_;refine q _ _ E ?_;clear q up ur
    try go_simp
    refine zK rfl λK' q=> ?_;go_simp;go_at_call 87;refine(vt.out _ _ _ _ xf.out uv).mono ?_;rintro e w8 ⟨rfl,ux⟩;have we:=((o.out _).1 E).trans (ux.mono (by have:=((o.out _).1 E).size;rw[A.out] at this;exact this));rw[vu.out];refine q _ _ ?_;clear q uv ux
    try go_simp
    refine bu 13 rfl (by kernel_rfl) (by kernel_rfl) (·=w8) rfl ?_;dsimp only[it]
    repeat (go_big_quiet_step (fail))
    refine dj ?_;rintro _ rfl;go_wp2
    go_meet
    case rel=>exact⟨rfl,by simp,we⟩
  |false=>
    simp only[oS,if_false];refine aj 12 S (by kernel_rfl) ?_;refine zT 0 rfl t.out ?_
    try go_simp
    refine zT 1 rfl t.out ?_
    try go_simp
    refine zN 2 rfl ?_
    try go_simp
    refine zN 3 rfl ?_
    try go_simp
    refine zN 4 rfl ?_
    try go_simp
    refine zN 5 rfl ?_
    try go_simp
    refine zN 6 rfl ?_
    try go_simp
    refine zT 7 rfl t.out ?_
    try go_simp
    refine zT 8 rfl t.out ?_
    try go_simp
    refine zL 9 rfl 38 ⟨N+1,0,tM⟩ vf.out cQ ?_
    try go_simp
    refine zL 10 rfl 42 ⟨N+1+1,0,tM⟩ vy.out cD ?_
    try go_simp
    refine zO 11 rfl λK' q=> ?_;go_simp;go_at_call 88;refine(ws.out _ ((o.out _).1 (by assumption))).mono ?_;rintro e w7 ⟨ro,rc,rfl,up,ur⟩;have E:S w7:=(o.out _).2 (((o.out _).1 (by assumption)).trans (ur.mono (by have:=((o.out _).1 (by assumption)).size;rw[A.out] at this;exact this)));have uv:=up.at_;refine q _ _ E ?_;clear q up ur
    try go_simp
    refine zK rfl λK' q=> ?_;go_simp;go_at_call 87;refine(vt.out _ _ _ _ xf.out uv).mono ?_;rintro e w8 ⟨rfl,ux⟩;have we:=((o.out _).1 E).trans (ux.mono (by have:=((o.out _).1 E).size;rw[A.out] at this;exact this));rw[vu.out];refine q _ _ ?_;clear q uv ux
    try go_simp
    refine bu 13 rfl (by kernel_rfl) (by kernel_rfl) (·=w8) rfl ?_;dsimp only[it]
    repeat (go_big_quiet_step (fail))
    refine dj ?_;rintro _ rfl;go_wp2
    go_meet
    case rel=>exact⟨rfl,by simp,we⟩
 case rest=>
  obtain⟨rfl,rfl,ue⟩:=hcut;have AE:=zH (vr.out wc ue);have y:=G.out wc ue;have HV:cj (∀v,isVar g.vs.length v=tP->∃(k b vc:bh) (x:Vr),v=(k:aw)/\k<g.vs.length/\ao=tG ⟨b,vc,tM⟩/\ay g.vs v=(x.ptr,x.tgt)/\∀W,aE (N+3) W1 W->W.cell? ⟨b,vc+k*3,tM⟩=tG (ua x.ptr)/\W.cell? ⟨b,vc+k*3+1,tM⟩=tG (tS x.tgt)):=λv hv=>by
   obtain⟨k,b,vc,x,q1,q2,q3,q4,q5,q6,q7⟩:=ed xF.out.vars hv;refine⟨k,b,vc,x,q1,q2,by rw[<-zp.out];exact q3,q5,λW hW=> ?_⟩;have yp:=vr.out W hW;rw[HN.out] at q4;exact⟨by rw[yp.cell (p:=⟨b,_,tM⟩) (show b<N by omega)];exact q6,by rw[yp.cell (p:=⟨b,_,tM⟩) (show b<N by omega)];exact q7⟩
  have AF:=xF.out.vl;unfold eC at AF;have HO:cj (∀W b f,zP 51 #[ua b,Z U f] W (Z U (bU (!b) f))):=λW b f=>bG b f W;have AH:cj (∀W W':World,aE (N+3) W1 W->aE W.heap.size W W'->aE N w W'):=λW W' h1 h2=>vr.out W' (h1.trans (h2.mono (by have:=h1.size;rw[A.out] at this;exact this)));obtain⟨B,hB⟩:=zE (bR&&(!J||bD));rw[hB];cases B with
  |false=>
   have AI:cj (R=15):=by unfold cj;rw[<-HR.out];unfold aF;rw[bx xj.out,cI (by rw[xp.out];exact hB)]
   clear y HV hB;obtain⟨wv,yq⟩:=zE ((if J=tP then(i.d,tP) else(0,tR)):aw×mm);rw[yq,rj];clear yq vx;go_wp2;go_ret;rw[AI.out,HN.out];exact⟨rfl,AE.out⟩
  |true=>
  rw[sx];clear o vf vy t vd vx wl yb;have z:=At.out
  ·
   have ew:J=tP:=by rw[<-zv.out,z];decide
   subst ew;have yr:bR=tP:=(by simpa using hB:_/\_).1;have yv:bD=tP:=(by simpa using hB:_/\_).2;have yy:isVar g.vs.length i.d=tP:=by have:=xo.out;rw[yv] at this;simpa[aP] using this
   have hE:=eX HR xj xp (by rw[yr,yv];simp);have i0:=y.i0;rw[z] at i0;have g7:=y.g7;have g2:=y.g2;obtain⟨kd,A1,A2,xd,AK,AM,AN,AS,wg⟩:=HV.out i.d yy;have A3:=zH wg;obtain⟨d0,d1⟩:=wg wc ue;clear wg;have AT:(kd:aw)<(g.vs.length:aw):=by omega
   have yW:R=iL m g.vs i:=by rw[hE,cI z]
   have vm:=Ay m g i wc (HJ.out wc ue) (zs.out wc ue) (by have:=An.out;unfold eC;omega) yy (CK (by rw[vu.out];exact yr) z);rw[<-yW,wk.out] at vm;simp only[Mo.cells,gc,Ins.cells] at vm;have AW:=zH vm;have m0:=y.m0;have m1:=y.m1;have HG:=zH y.gr;have HI:=zH y.ir;clear yW vm d0 d1 g2 AK AM AN AS AT;clear z hE hB y G HV
   go_wp2_with (first
    |(refine cm rfl 38 _ rfl (N+1) rfl 38 _ (0,0) _ HG.out cQ rfl (by kernel_rfl) ?_)
    |(refine cm rfl 42 _ rfl (N+2) rfl 42 _ (0,0) _ HI.out cD rfl (by kernel_rfl) ?_)
    |(go_at_call 91;refine AW.out.mono ?_;rintro e w9 ⟨rfl,zc⟩;have A0:=zH (AH.out _ _ ue zc);clear zc))
   go_ret;rw[HN.out];exact⟨rfl,A0.out⟩
theorem vw (m:Mo)(g:Fn)(i:Ins)(w:World)(h:oQ w m g)(hi:i.args_in w)(wl:i.args.length<=40)(zc:∀v,isVar g.vs.length v=tP->m.known (ay g.vs v)=tP)(E:i.op=17):
  zP 49 #[ub m.cells,ub g.cells,ub i.cells] w (Z U (aF m g i)):=by
 obtain⟨ao,N,W1,hN,ws,vt,J,K,zj,zp,up,vu,HJ,AN,vx,xf,xj,xo⟩:=gB h hi wl;obtain⟨wD,bD,bR,o1,o2,xp,zs,vy,zv,we,xt⟩:=gJ (g:=g) (i:=i) (by omega) (by omega);rw[zj.out];simp only[Mo.cells,gc,Ins.cells] at vt⊢;have xF:=zH vt;obtain⟨R,hR⟩:=zE (aF m g i);rw[hR];have HR:=zH hR;have xT:=zH h;have An:=zH E;have yb:=up.out W1 (aq _ _);have yd:=zH yb.ir;clear h hi wl zc vt hR E;have ye:W1.heap.size=N+3:=ws;go_enter func49,tB
 go_upto_region 1 with(fail)
 rw[xF.out];clear xF yb hN
 go_upto_region 2 with(first
  |(refine cm rfl 42 _ rfl (N+2) rfl 42 _ (0,0) _ yd.out cD rfl (by kernel_rfl) ?_)
  |(go_at_call 86;refine(xf.out _).mono ?_;rintro e w2 ⟨rfl,ur⟩;have yi:=zH ur;clear ur))
 have ur:aE (N+3) W1 w2:=by have:=yi.out;rwa [ye] at this
 have i0:=(up.out w2 ur).i0;have vm:=zH ur;clear ur ye ws yi;rw[we.out]
 go_upto_region 4 with(fail)
 clear i0 o1 o2;obtain⟨S,hS⟩:∃S:World->Prop,S=aE (N+3) W1:=⟨_,rfl⟩
 have o:cj (∀w',S w'↔aE (N+3) W1 w'):=λw'=>by rw[hS]
 have vp:cj (∀w',S w'->∀j u,(#[tS g.c.nm,Z U g.c.par,tU ao g.vs.length g.c.varsC,ua g.c.rp,tS g.c.rto,Z U g.c.rcl,tU g.c.fromA g.c.nfrom g.c.fromC,tU g.c.insA g.c.ins.length g.c.insC]:eA cA).toList[j]?=tG u->w'.cell? ((⟨N+1,0,tM⟩:fS).add j)=tG u):=λw' h=>dC (up.out w' ((o.out w').1 h)).gr;have wg:cj (∀w',S w'->∀j u,(#[Z U i.op,Z U i.d,Z U i.a,Z U i.b,Z U i.f,Z U i.n,tS i.sign,i.argsV,i.modeV,Z U i.tI,Z U i.els,Z U i.ln,Z U i.cl]:eA cA).toList[j]?=tG u->w'.cell? ((⟨N+1+1,0,tM⟩:fS).add j)=tG u):=λw' h=>dC (up.out w' ((o.out w').1 h)).ir;have z:cj (∀w',S w'->True/\True):=λ_ _=>⟨trivial,trivial⟩
 clear hS
 go_cut [7,37] from 23 to 37 (λd b wc=>d= Z U (if wD=tP then(i.d,tP) else(0,tR)).1/\b= ua (!(bR&&(!wD||bD)))/\aE (N+3) W1 wc)
 case first=>
  have At:S w2.drew:=(o.out _).2 vm.out.drew;cases wD with
  |true=>
   simp only[lj];refine aj 5 S (by kernel_rfl) ?_;refine zT 0 rfl z.out ?_
   try go_simp
   refine zT 1 rfl z.out ?_
   try go_simp
   refine zL 2 rfl 38 ⟨N+1,0,tM⟩ vp.out cQ ?_
   try go_simp
   refine zT 3 rfl z.out ?_
   try go_simp
   refine zO 4 rfl λK' q=> ?_;go_simp;have vq:∀c,S (w2.alloc c).drew:=λc=>(o.out _).2 ((vm.out.alloc (by have:=vm.out.size;rw[K.out] at this;exact this) _).drew);have yk:ak (w2.alloc (uc #[Z U i.d] 3)).drew (tG ⟨w2.heap.size,0,tM⟩) [i.d]:=ak.one w2 i.d rfl;refine q _ _ (vq _) ?_;clear q
   try go_simp
   refine zK rfl λK' q=> ?_;go_simp;go_at_call 87;refine(vx.out _ (tG ⟨w2.heap.size,0,tM⟩) 1 [i.d] (by simp) yk).mono ?_;rintro e w5 ⟨rfl,yp⟩;have Ax:S w5:=(o.out _).2 (((o.out _).1 (vq _)).trans (yp.mono (by have:=((o.out _).1 (vq (uc #[Z U i.d] 3))).size;rw[K.out] at this;exact this)));rw[zs.out];refine q _ _ ?_;clear q yp vq At yk
   try go_simp
   cases bD with
   |false=>
    refine bu 6 rfl (by kernel_rfl) (by kernel_rfl) (·=w5) rfl ?_;dsimp only[it]
    repeat (go_big_quiet_step (fail))
    refine dj ?_;rintro _ rfl;go_wp2
    go_meet
    case rel=>exact⟨rfl,by simp,(o.out _).1 Ax⟩
   |true=>
    refine fq (S:=S) (k:=12) _ _ _ _ ?_;refine zT 6 rfl z.out ?_
    try go_simp
    refine zT 7 rfl z.out ?_
    try go_simp
    refine zT 8 rfl z.out ?_
    try go_simp
    refine zL 9 rfl 38 ⟨N+1,0,tM⟩ vp.out cQ ?_
    try go_simp
    refine zL 10 rfl 42 ⟨N+1+1,0,tM⟩ wg.out cD ?_
    try go_simp
    refine zO 11 rfl λK' q=> ?_;go_simp;go_at_call 88;refine(xj.out _ ((o.out _).1 (by assumption))).mono ?_;rintro e w7 ⟨ro,rc,rfl,uv,ux⟩;have ue:S w7:=(o.out _).2 (((o.out _).1 (by assumption)).trans (ux.mono (by have:=((o.out _).1 (by assumption)).size;rw[K.out] at this;exact this)));have vc:=uv.at_;refine q _ _ ue ?_;clear q uv ux
    try go_simp
    refine zK rfl λK' q=> ?_;go_simp;go_at_call 87;refine(vx.out _ _ _ _ xo.out vc).mono ?_;rintro e w8 ⟨rfl,vd⟩;have wj:=((o.out _).1 ue).trans (vd.mono (by have:=((o.out _).1 ue).size;rw[K.out] at this;exact this));rw[vy.out];refine q _ _ ?_;clear q vc vd
    try go_simp
    refine bu 13 rfl (by kernel_rfl) (by kernel_rfl) (·=w8) rfl ?_;dsimp only[it]
    repeat (go_big_quiet_step (fail))
    refine dj ?_;rintro _ rfl;go_wp2
    go_meet
    case rel=>exact⟨rfl,by simp,wj⟩
  |false=>
    simp only[oS,if_false];refine aj 12 S (by kernel_rfl) ?_;refine zT 0 rfl z.out ?_
    try go_simp
    refine zT 1 rfl z.out ?_
    try go_simp
    refine zN 2 rfl ?_
    try go_simp
    refine zN 3 rfl ?_
    try go_simp
    refine zN 4 rfl ?_
    try go_simp
    refine zN 5 rfl ?_
    try go_simp
    refine zN 6 rfl ?_
    try go_simp
    refine zT 7 rfl z.out ?_
    try go_simp
    refine zT 8 rfl z.out ?_
    try go_simp
    refine zL 9 rfl 38 ⟨N+1,0,tM⟩ vp.out cQ ?_
    try go_simp
    refine zL 10 rfl 42 ⟨N+1+1,0,tM⟩ wg.out cD ?_
    try go_simp
    refine zO 11 rfl λK' q=> ?_;go_simp;go_at_call 88;refine(xj.out _ ((o.out _).1 (by assumption))).mono ?_;rintro e w7 ⟨ro,rc,rfl,uv,ux⟩;have ue:S w7:=(o.out _).2 (((o.out _).1 (by assumption)).trans (ux.mono (by have:=((o.out _).1 (by assumption)).size;rw[K.out] at this;exact this)));have vc:=uv.at_;refine q _ _ ue ?_;clear q uv ux
    try go_simp
    refine zK rfl λK' q=> ?_;go_simp;go_at_call 87;refine(vx.out _ _ _ _ xo.out vc).mono ?_;rintro e w8 ⟨rfl,vd⟩;have wj:=((o.out _).1 ue).trans (vd.mono (by have:=((o.out _).1 ue).size;rw[K.out] at this;exact this));rw[vy.out];refine q _ _ ?_;clear q vc vd
    try go_simp
    refine bu 13 rfl (by kernel_rfl) (by kernel_rfl) (·=w8) rfl ?_;dsimp only[it]
    repeat (go_big_quiet_step (fail))
    refine dj ?_;rintro _ rfl;go_wp2
    go_meet
    case rel=>exact⟨rfl,by simp,wj⟩
 case rest=>
  obtain⟨rfl,rfl,vr⟩:=hcut;have vf:=zH (vu.out wc vr);have G:=up.out wc vr;have HV:cj (∀v,isVar g.vs.length v=tP->∃(k b vh:bh) (x:Vr),v=(k:aw)/\k<g.vs.length/\ao=tG ⟨b,vh,tM⟩/\ay g.vs v=(x.ptr,x.tgt)/\∀W,aE (N+3) W1 W->W.cell? ⟨b,vh+k*3,tM⟩=tG (ua x.ptr)/\W.cell? ⟨b,vh+k*3+1,tM⟩=tG (tS x.tgt)):=λv hv=>by
   obtain⟨k,b,vh,x,q1,q2,q3,q4,q5,q6,q7⟩:=ed xT.out.vars hv;refine⟨k,b,vh,x,q1,q2,by rw[<-zp.out];exact q3,q5,λW hW=> ?_⟩;have yq:=vu.out W hW;rw[J.out] at q4;exact⟨by rw[yq.cell (p:=⟨b,_,tM⟩) (show b<N by omega)];exact q6,by rw[yq.cell (p:=⟨b,_,tM⟩) (show b<N by omega)];exact q7⟩
  have AD:=xT.out.vl;unfold eC at AD;have HO:cj (∀W b f,zP 51 #[ua b,Z U f] W (Z U (bU (!b) f))):=λW b f=>bG b f W;have AE:cj (∀W W':World,aE (N+3) W1 W->aE W.heap.size W W'->aE N w W'):=λW W' h1 h2=>vu.out W' (h1.trans (h2.mono (by have:=h1.size;rw[K.out] at this;exact this)));obtain⟨B,hB⟩:=zE (bR&&(!wD||bD));rw[hB];cases B with
  |false=>
   have y:cj (R=15):=by unfold cj;rw[<-HR.out];unfold aF;rw[bx xp.out,cI (by rw[xt.out];exact hB)]
   clear G HV hB;obtain⟨wv,yr⟩:=zE ((if wD=tP then(i.d,tP) else(0,tR)):aw×mm);rw[yr,rj];clear yr we;go_wp2;go_ret;rw[y.out,J.out];exact⟨rfl,vf.out⟩
  |true=>
  rw[sx];clear o vp wg z vm we xf yd;have E:=An.out
  ·
   have ew:wD=tR:=by rw[<-zv.out,E];decide
   subst ew;have yv:bR=tP:=by simpa using hB
   have AF:isVar g.vs.length i.a=tP:=gq (by rw[vy.out];exact yv) (by rw[E];decide);have hE:=eX HR xp xt (by rw[yv];simp);have i0:=G.i0;rw[E] at i0;have g7:=G.g7;have g2:=G.g2;have i2:=G.i2;obtain⟨ka,AS,AT,xa,AH,AW,AI,yy,wk⟩:=HV.out i.a AF;have A0:=zH wk;obtain⟨a0,a1⟩:=wk wc vr;clear wk;have A1:(ka:aw)<(g.vs.length:aw):=by omega
   subst AI;rw[AH] at i2;obtain⟨pa,AK⟩:=zE xa.ptr;rw[AK] at a0 yy;have i9:=G.i9;have i10:=G.i10;obtain⟨n,hn⟩:=zE g.c.ins.length;obtain⟨t,ht⟩:=zE i.tI;obtain⟨u,hu⟩:=zE i.els;rw[ht] at i9;rw[hu] at i10;rw[hn] at g7;have y:cj (R=if isVar n t&&isVar n u then bU (!pa) 7 else 15):=by unfold cj;rw[hE];simp[E,hn,ht,hu,eD,yy]
   clear E hE hB G up HV
   by_cases t0:t<0
   ·have e0:decide (t<0)=tP:=cV t0
    have A:cj (R=15):=by unfold cj;rw[y.out,bx (by unfold isVar;simp;omega)]
    clear y;go_wp2;go_ret;rw[A.out,J.out];exact⟨rfl,vf.out⟩
   have e0:decide (t<0)=tR:=cv t0
   by_cases t1:(n:aw)<=t
   ·have e1:decide ((n:aw)<=t)=tP:=cV t1
    have A:cj (R=15):=by unfold cj;rw[y.out,bx (by unfold isVar;simp;omega)]
    clear y;go_wp2;go_ret;rw[A.out,J.out];exact⟨rfl,vf.out⟩
   have e1:decide ((n:aw)<=t)=tR:=cv t1
   by_cases u0:u<0
   ·have e2:decide (u<0)=tP:=cV u0
    have A:cj (R=15):=by unfold cj;rw[y.out,bx (by unfold isVar;simp;omega)]
    clear y;go_wp2;go_ret;rw[A.out,J.out];exact⟨rfl,vf.out⟩
   have e2:decide (u<0)=tR:=cv u0
   by_cases u1:(n:aw)<=u
   ·have e3:decide ((n:aw)<=u)=tP:=cV u1
    have A:cj (R=15):=by unfold cj;rw[y.out,bx (by unfold isVar;simp;omega)]
    clear y;go_wp2;go_ret;rw[A.out,J.out];exact⟨rfl,vf.out⟩
   have e3:decide ((n:aw)<=u)=tR:=cv u1;have A:cj (R=bU (!pa) 7):=by unfold cj;rw[y.out,cI (by rw[eT.2 ⟨by omega,by omega⟩,eT.2 ⟨by omega,by omega⟩];rfl)]
   clear y
   go_wp2_with (go_at_call 51;refine(HO.out _ _ _).mono ?_;rintro e w9 ⟨rfl,yW⟩;have AM:=zH (AE.out _ _ vr yW);clear yW)
   go_ret;rw[A.out,J.out];exact⟨rfl,AM.out⟩
theorem sZ (m:Mo)(g:Fn)(i:Ins)(w:World)(h:oQ w m g)(hi:i.args_in w)(d:i.args.length<=40)(e:∀v,isVar g.vs.length v=tP->m.known (ay g.vs v)=tP):
  zP 49 #[ub m.cells,ub g.cells,ub i.cells] w (Z U (aF m g i)):=by
 by_cases h0:i.op<1\/18<i.op
 ·exact uY m g i w h hi d e h0
 by_cases f:i.op=1\/i.op=2\/i.op=3\/i.op=5\/i.op=6
 ·exact uZ m g i w h hi d e f
 by_cases j:i.op=4\/i.op=13\/i.op=14\/i.op=16
 ·exact ve m g i w h hi d e j
 by_cases o:i.op=9\/i.op=12\/i.op=18
 ·exact vg m g i w h hi d e o
 by_cases q:i.op=15
 ·exact vv m g i w h hi d e q
 by_cases t:i.op=17
 ·exact vw m g i w h hi d e t
 ·exact vk m g i w h hi d e (by omega)
end Go.Proofs.YtjomgckjhcfbgaaGreat
