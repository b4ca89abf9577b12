/- Walks. -/
import Derived.Test.YtjomgckjhcfbgaaGreatX11
set_option maxRecDepth 100000
set_option maxHeartbeats 64000000
set_option linter.all false
namespace Go.Proofs.YtjomgckjhcfbgaaGreat
open Go.RowKit
open Go.Proofs.Tryz renaming prog→ac,underlying42→cr,underlying38→cy,ntmps49→qn
open _root_.List renaming getElem?_eq_getElem→am,drop→gh,getElem?_eq_none→lA
open Go.RowKit.Below renaming refl→an
open Go.RowKit renaming Below→aq,Hid→ca
open Go renaming wpList_load_row→bo,Value→bw,wpQuiet_nil→db,maxLen→dl,beq_toListBytes→eL,Addr→oA
open _root_ renaming Nat→cd,Int→cj,decide_eq_false→cv,if_neg→cw,Array→cG,if_pos→cI,decide_eq_true→dy,if_true→oB
open _root_.Option.some renaming injEq→dc
open _root_.Int renaming toNat_natCast→ep
open Go.Addr.mk renaming injEq→eW
open Go.Op renaming equalIn→fS
open _root_.Bool renaming false_eq_true→mS,not_false→ot,not_true→px,true→qv,false→qS
open _root_.Option renaming some→qt,none→qu
open Go.Value renaming string→qT,slice→ra,bool→re,agg→rh,int→Z
open Go.Obj renaming cells→rj
open Go.IntKind renaming i64→U
open Tryz
theorem rW (m:Mo)(g:Fn)(i:Ins)(w:World)(h:mr w m g)(hi:i.args_in w)(tR:i.args.length<=40)(vf:∀v,isVar g.vs.length v=qv->m.known (ak g.vs v)=qv)(o:i.op=1\/i.op=2\/i.op=3\/i.op=5\/i.op=6):
  zP 49 #[rh m.cells,rh g.cells,rh i.cells] w (Z U (aC m g i)):=by
 obtain⟨ao,N,W1,hN,tS,tm,HN,rK,vh,vi,rB,tn,HJ,vy,tp,tU,tW,ua⟩:=eO h hi tR;obtain⟨wD,bD,bR,o1,o2,sn,sy,tf,sB,tr,sq⟩:=eT (g:=g) (i:=i) (by omega) (by omega);rw[vh.out];simp only[Mo.cells,gc,Ins.cells] at tm⊢;have ub:=zH tm;obtain⟨R,hR⟩:=zE (aC m g i);rw[hR];have HR:=zH hR;have uc:=zH h;have vj:=zH o;have ud:=rB.out W1 (an _ _);have ue:=zH ud.ir;clear h hi tR vf tm hR o;have ur:W1.heap.size=N+3:=tS;go_enter func49,qn
 go_upto_region 1 with(fail)
 rw[ub.out];clear ub ud hN
 go_upto_region 2 with(first
  |(refine bo rfl 42 _ rfl (N+2) rfl 42 _ (0,0) _ ue.out cr rfl (by kernel_rfl) ?_)
  |(go_at_call 86;refine(tU.out _).mono ?_;rintro e w2 ⟨rfl,sr⟩;have uv:=zH sr;clear sr))
 have sr:aq (N+3) W1 w2:=by have:=uv.out;rwa [ur] at this
 have i0:=(rB.out w2 sr).i0;have th:=zH sr;clear sr ur tS uv;rw[tr.out]
 go_upto_region 4 with(fail)
 clear i0 o1 o2;obtain⟨S,hS⟩:∃S:World->Prop,S=aq (N+3) W1:=⟨_,rfl⟩
 have y:ca (∀w',S w'↔aq (N+3) W1 w'):=λw'=>by rw[hS]
 have ti:ca (∀w',S w'->∀j u,(#[qT g.c.nm,Z U g.c.par,ra ao g.vs.length g.c.varsC,re g.c.rp,qT g.c.rto,Z U g.c.rcl,ra g.c.fromA g.c.nfrom g.c.fromC,ra g.c.insA g.c.ins.length g.c.insC]:cG bw).toList[j]?=qt u->w'.cell? ((⟨N+1,0,qu⟩:oA).add j)=qt u):=λw' h=>cK (rB.out w' ((y.out w').1 h)).gr;have tt:ca (∀w',S w'->∀j u,(#[Z U i.op,Z U i.d,Z U i.a,Z U i.b,Z U i.f,Z U i.n,qT i.sign,i.argsV,i.modeV,Z U i.tI,Z U i.els,Z U i.ln,Z U i.cl]:cG bw).toList[j]?=qt u->w'.cell? ((⟨N+1+1,0,qu⟩:oA).add j)=qt u):=λw' h=>cK (rB.out w' ((y.out w').1 h)).ir;have rm:ca (∀w',S w'->True/\True):=λ_ _=>⟨trivial,trivial⟩
 clear hS
 go_cut [7,37] from 23 to 37 (λd b wc=>d= Z U (if wD=qv then(i.d,qv) else(0,qS)).1/\b= re (!(bR&&(!wD||bD)))/\aq (N+3) W1 wc)
 case first=>
  have vm:S w2.drew:=(y.out _).2 th.out.drew;cases wD with
  |true=>
   simp only[oB];refine ah 5 S (by kernel_rfl) ?_;refine zT 0 rfl rm.out ?_
   try go_simp
   refine zT 1 rfl rm.out ?_
   try go_simp
   refine zL 2 rfl 38 ⟨N+1,0,qu⟩ ti.out cy ?_
   try go_simp
   refine zT 3 rfl rm.out ?_
   try go_simp
   refine zO 4 rfl λK' A=> ?_;go_simp;have tj:∀c,S (w2.alloc c).drew:=λc=>(y.out _).2 ((th.out.alloc (by have:=th.out.size;rw[rK.out] at this;exact this) _).drew);have ux:au (w2.alloc (rj #[Z U i.d] 3)).drew (qt ⟨w2.heap.size,0,qu⟩) [i.d]:=au.one w2 i.d rfl;refine A _ _ (tj _) ?_;clear A
   try go_simp
   refine zK rfl λK' A=> ?_;go_simp;go_at_call 87;refine(tp.out _ (qt ⟨w2.heap.size,0,qu⟩) 1 [i.d] (by simp) ux).mono ?_;rintro e w5 ⟨rfl,va⟩;have vn:S w5:=(y.out _).2 (((y.out _).1 (tj _)).trans (va.mono (by have:=((y.out _).1 (tj (rj #[Z U i.d] 3))).size;rw[rK.out] at this;exact this)));rw[sy.out];refine A _ _ ?_;clear A va tj vm ux
   try go_simp
   cases bD with
   |false=>
    refine aU 6 rfl (by kernel_rfl) (by kernel_rfl) (·=w5) rfl ?_;dsimp only[gh]
    repeat (go_big_quiet_step (fail))
    refine db ?_;rintro _ rfl;go_wp2
    go_meet
    case rel=>exact⟨rfl,by simp,(y.out _).1 vn⟩
   |true=>
    refine dO (S:=S) (k:=12) _ _ _ _ ?_;refine zT 6 rfl rm.out ?_
    try go_simp
    refine zT 7 rfl rm.out ?_
    try go_simp
    refine zT 8 rfl rm.out ?_
    try go_simp
    refine zL 9 rfl 38 ⟨N+1,0,qu⟩ ti.out cy ?_
    try go_simp
    refine zL 10 rfl 42 ⟨N+1+1,0,qu⟩ tt.out cr ?_
    try go_simp
    refine zO 11 rfl λK' A=> ?_;go_simp;go_at_call 88;refine(tW.out _ ((y.out _).1 (by assumption))).mono ?_;rintro e w7 ⟨ro,rc,rfl,sE,sL⟩;have rL:S w7:=(y.out _).2 (((y.out _).1 (by assumption)).trans (sL.mono (by have:=((y.out _).1 (by assumption)).size;rw[rK.out] at this;exact this)));have sR:=sE.at_;refine A _ _ rL ?_;clear A sE sL
    try go_simp
    refine zK rfl λK' A=> ?_;go_simp;go_at_call 87;refine(tp.out _ _ _ _ ua.out sR).mono ?_;rintro e w8 ⟨rfl,sT⟩;have tv:=((y.out _).1 rL).trans (sT.mono (by have:=((y.out _).1 rL).size;rw[rK.out] at this;exact this));rw[tf.out];refine A _ _ ?_;clear A sR sT
    try go_simp
    refine aU 13 rfl (by kernel_rfl) (by kernel_rfl) (·=w8) rfl ?_;dsimp only[gh]
    repeat (go_big_quiet_step (fail))
    refine db ?_;rintro _ rfl;go_wp2
    go_meet
    case rel=>exact⟨rfl,by simp,tv⟩
  |false=>
    simp only[mS,if_false];refine ah 12 S (by kernel_rfl) ?_;refine zT 0 rfl rm.out ?_
    try go_simp
    refine zT 1 rfl rm.out ?_
    try go_simp
    refine zN 2 rfl ?_
    try go_simp
    refine zN 3 rfl ?_
    try go_simp
    refine zN 4 rfl ?_
    try go_simp
    refine zN 5 rfl ?_
    try go_simp
    refine zN 6 rfl ?_
    try go_simp
    refine zT 7 rfl rm.out ?_
    try go_simp
    refine zT 8 rfl rm.out ?_
    try go_simp
    refine zL 9 rfl 38 ⟨N+1,0,qu⟩ ti.out cy ?_
    try go_simp
    refine zL 10 rfl 42 ⟨N+1+1,0,qu⟩ tt.out cr ?_
    try go_simp
    refine zO 11 rfl λK' A=> ?_;go_simp;go_at_call 88;refine(tW.out _ ((y.out _).1 (by assumption))).mono ?_;rintro e w7 ⟨ro,rc,rfl,sE,sL⟩;have rL:S w7:=(y.out _).2 (((y.out _).1 (by assumption)).trans (sL.mono (by have:=((y.out _).1 (by assumption)).size;rw[rK.out] at this;exact this)));have sR:=sE.at_;refine A _ _ rL ?_;clear A sE sL
    try go_simp
    refine zK rfl λK' A=> ?_;go_simp;go_at_call 87;refine(tp.out _ _ _ _ ua.out sR).mono ?_;rintro e w8 ⟨rfl,sT⟩;have tv:=((y.out _).1 rL).trans (sT.mono (by have:=((y.out _).1 rL).size;rw[rK.out] at this;exact this));rw[tf.out];refine A _ _ ?_;clear A sR sT
    try go_simp
    refine aU 13 rfl (by kernel_rfl) (by kernel_rfl) (·=w8) rfl ?_;dsimp only[gh]
    repeat (go_big_quiet_step (fail))
    refine db ?_;rintro _ rfl;go_wp2
    go_meet
    case rel=>exact⟨rfl,by simp,tv⟩
 case rest=>
  obtain⟨rfl,rfl,rl⟩:=hcut;have sx:=zH (tn.out wc rl);have q:=rB.out wc rl;have HV:ca (∀v,isVar g.vs.length v=qv->∃(k b sX:cd) (x:Vr),v=(k:cj)/\k<g.vs.length/\ao=qt ⟨b,sX,qu⟩/\ak g.vs v=(x.ptr,x.tgt)/\∀W,aq (N+3) W1 W->W.cell? ⟨b,sX+k*3,qu⟩=qt (re x.ptr)/\W.cell? ⟨b,sX+k*3+1,qu⟩=qt (qT x.tgt)):=λv hv=>by
   obtain⟨k,b,sX,x,q1,q2,q3,q4,q5,q6,q7⟩:=dw uc.out.vars hv;refine⟨k,b,sX,x,q1,q2,by rw[<-vi.out];exact q3,q5,λW hW=> ?_⟩;have vc:=tn.out W hW;rw[HN.out] at q4;exact⟨by rw[vc.cell (p:=⟨b,_,qu⟩) (show b<N by omega)];exact q6,by rw[vc.cell (p:=⟨b,_,qu⟩) (show b<N by omega)];exact q7⟩
  have vp:=uc.out.vl;unfold dl at vp;have HO:ca (∀W b f,zP 51 #[re b,Z U f] W (Z U (bv (!b) f))):=λW b f=>aX b f W;have sY:ca (∀W W':World,aq (N+3) W1 W->aq W.heap.size W W'->aq N w W'):=λW W' h1 h2=>tn.out W' (h1.trans (h2.mono (by have:=h1.size;rw[rK.out] at this;exact this)));obtain⟨B,D⟩:=zE (bR&&(!wD||bD));rw[D];cases B with
  |false=>
   have rn:ca (R=15):=by unfold ca;rw[<-HR.out];unfold aC;rw[cw sn.out,cI (by rw[sq.out];exact D)]
   clear q HV D;obtain⟨wv,vd⟩:=zE ((if wD=qv then(i.d,qv) else(0,qS)):cj×Bool);rw[vd,ot];clear vd tr;go_wp2;go_ret;rw[rn.out,HN.out];exact⟨rfl,sx.out⟩
  |true=>
  rw[px];clear y ti tt rm th tr tU ue;rcases vj.out with o|o|o|o|o
  ·
   have ew:wD=qv:=by rw[<-sB.out,o];decide
   subst ew;have rr:bR=qv:=(by simpa using D:_/\_).1;have rv:bD=qv:=(by simpa using D:_/\_).2;have rN:isVar g.vs.length i.d=qv:=by have:=sy.out;rw[rv] at this;simpa[aG] using this
   have J:=dK HR sn sq (by rw[rr,rv];simp);have i0:=q.i0;rw[o] at i0;have g7:=q.g7;have g2:=q.g2;obtain⟨kd,tz,tA,xd,rS,tB,se,rx,G⟩:=HV.out i.d rN;have tD:=zH G;obtain⟨d0,d1⟩:=G wc rl;clear G;have tE:(kd:cj)<(g.vs.length:cj):=by omega
   subst se;obtain⟨pd,sf⟩:=zE xd.ptr;rw[sf] at d0 rx;have rn:ca (R=bv (!pd) 7):=by unfold ca;rw[J];simp[o,aj,dB,rx]
   simp only[oB];rw[rS];clear o J D q rB HV
   go_wp2_with (go_at_call 51;refine(HO.out _ _ _).mono ?_;rintro e w9 ⟨rfl,K⟩;have rI:=zH (sY.out _ _ rl K);clear K)
   go_ret;rw[rn.out,HN.out];exact⟨rfl,by first|exact rI.out|exact sx.out⟩
  ·
   have ew:wD=qv:=by rw[<-sB.out,o];decide
   subst ew;have rr:bR=qv:=(by simpa using D:_/\_).1;have rv:bD=qv:=(by simpa using D:_/\_).2;have rN:isVar g.vs.length i.d=qv:=by have:=sy.out;rw[rv] at this;simpa[aG] using this
   have J:=dK HR sn sq (by rw[rr,rv];simp);have i0:=q.i0;rw[o] at i0;have g7:=q.g7;have g2:=q.g2;obtain⟨kd,tz,tA,xd,rS,tB,se,rx,G⟩:=HV.out i.d rN;have tD:=zH G;obtain⟨d0,d1⟩:=G wc rl;clear G;have tE:(kd:cj)<(g.vs.length:cj):=by omega
   subst se;obtain⟨pd,sf⟩:=zE xd.ptr;rw[sf] at d0 rx;have rn:ca (R=bv pd 7):=by unfold ca;rw[J];simp[o,aj,rx]
   simp only[oB];rw[rS];clear o J D q rB HV
   go_wp2_with (go_at_call 51;refine(HO.out _ _ _).mono ?_;rintro e w9 ⟨rfl,K⟩;have rI:=zH (sY.out _ _ rl K);clear K)
   go_ret;rw[rn.out,HN.out];exact⟨rfl,by first|exact rI.out|exact sx.out⟩
  ·
   have ew:wD=qv:=by rw[<-sB.out,o];decide
   subst ew;have rr:bR=qv:=(by simpa using D:_/\_).1;have rv:bD=qv:=(by simpa using D:_/\_).2;have rN:isVar g.vs.length i.d=qv:=by have:=sy.out;rw[rv] at this;simpa[aG] using this
   have tG:isVar g.vs.length i.a=qv:=eF (by rw[tf.out];exact rr) (by rw[o];decide);have J:=dK HR sn sq (by rw[rr,rv];simp);have i0:=q.i0;rw[o] at i0;have g7:=q.g7;have g2:=q.g2;have i2:=q.i2;obtain⟨kd,tz,tA,xd,rS,tB,se,rx,G⟩:=HV.out i.d rN;have tD:=zH G;obtain⟨d0,d1⟩:=G wc rl;clear G;have tE:(kd:cj)<(g.vs.length:cj):=by omega
   obtain⟨ka,vq,vr,xa,tM,vt,tl,te,sk⟩:=HV.out i.a tG;have vu:=zH sk;obtain⟨a0,a1⟩:=sk wc rl;clear sk;have vx:(ka:cj)<(g.vs.length:cj):=by omega
   subst se;simp only[dc,eW,and_true] at tl;obtain⟨rfl,rfl⟩:=tl;rw[tM] at i2;obtain⟨pd,sf⟩:=zE xd.ptr;rw[sf] at d0 rx;obtain⟨pa,tP⟩:=zE xa.ptr;rw[tP] at a0 te;have rn:ca (R=bv (!(pd||pa)) 7):=by unfold ca;rw[J];simp[o,aj,dB,rx,te]
   simp only[oB];rw[rS];clear o J D q rB HV;cases pd<;>(go_wp2_with (go_at_call 51;refine(HO.out _ _ _).mono ?_;rintro e w9 ⟨rfl,K⟩;have rI:=zH (sY.out _ _ rl K);clear K);go_ret;rw[rn.out,HN.out];exact⟨rfl,by first|exact rI.out|exact sx.out⟩)
  ·
   have ew:wD=qv:=by rw[<-sB.out,o];decide
   subst ew;have rr:bR=qv:=(by simpa using D:_/\_).1;have rv:bD=qv:=(by simpa using D:_/\_).2;have rN:isVar g.vs.length i.d=qv:=by have:=sy.out;rw[rv] at this;simpa[aG] using this
   have J:=dK HR sn sq (by rw[rr,rv];simp);have i0:=q.i0;rw[o] at i0;have g7:=q.g7;have g2:=q.g2;obtain⟨kd,tz,tA,xd,rS,tB,se,rx,G⟩:=HV.out i.d rN;have tD:=zH G;obtain⟨d0,d1⟩:=G wc rl;clear G;have tE:(kd:cj)<(g.vs.length:cj):=by omega
   subst se;obtain⟨pd,sf⟩:=zE xd.ptr;rw[sf] at d0 rx;have rn:ca (R=bv (!pd) 7):=by unfold ca;rw[J];simp[o,aj,dB,rx]
   simp only[oB];rw[rS];clear o J D q rB HV
   go_wp2_with (go_at_call 51;refine(HO.out _ _ _).mono ?_;rintro e w9 ⟨rfl,K⟩;have rI:=zH (sY.out _ _ rl K);clear K)
   go_ret;rw[rn.out,HN.out];exact⟨rfl,by first|exact rI.out|exact sx.out⟩
  ·
   have ew:wD=qS:=by rw[<-sB.out,o];decide
   subst ew;have rr:bR=qv:=by simpa using D
   have tG:isVar g.vs.length i.a=qv:=eF (by rw[tf.out];exact rr) (by rw[o];decide);have J:=dK HR sn sq (by rw[rr];simp);have i0:=q.i0;rw[o] at i0;have g7:=q.g7;have g2:=q.g2;have i2:=q.i2;obtain⟨ka,vq,vr,xa,tM,vt,tl,te,sk⟩:=HV.out i.a tG;have vu:=zH sk;obtain⟨a0,a1⟩:=sk wc rl;clear sk;have vx:(ka:cj)<(g.vs.length:cj):=by omega
   subst tl;rw[tM] at i2;obtain⟨pa,tP⟩:=zE xa.ptr;rw[tP] at a0 te;have rn:ca (R=bv (!pa) 7):=by unfold ca;rw[J];simp[o,aj,dB,te]
   clear o J D q rB HV
   go_wp2_with (go_at_call 51;refine(HO.out _ _ _).mono ?_;rintro e w9 ⟨rfl,K⟩;have rI:=zH (sY.out _ _ rl K);clear K)
   go_ret;rw[rn.out,HN.out];exact⟨rfl,by first|exact rI.out|exact sx.out⟩
theorem rX (m:Mo)(g:Fn)(i:Ins)(w:World)(h:mr w m g)(hi:i.args_in w)(tM:i.args.length<=40)(vq:∀v,isVar g.vs.length v=qv->m.known (ak g.vs v)=qv)(o:i.op=4\/i.op=13\/i.op=14\/i.op=16):
  zP 49 #[rh m.cells,rh g.cells,rh i.cells] w (Z U (aC m g i)):=by
 obtain⟨ao,N,W1,hN,tP,tl,K,rB,vr,vt,rx,tm,HJ,wx,tn,tR,tS,tU⟩:=eO h hi tM;obtain⟨wD,bD,bR,o1,o2,sn,tp,sf,tf,tr,sq⟩:=eT (g:=g) (i:=i) (by omega) (by omega);rw[vr.out];simp only[Mo.cells,gc,Ins.cells] at tl⊢;have tW:=zH tl;obtain⟨R,hR⟩:=zE (aC m g i);rw[hR];have HR:=zH hR;have ua:=zH h;have vu:=zH o;have ub:=rx.out W1 (an _ _);have uc:=zH ub.ir;clear h hi tM vq tl hR o;have ud:W1.heap.size=N+3:=tP;go_enter func49,qn
 go_upto_region 1 with(fail)
 rw[tW.out];clear tW ub hN
 go_upto_region 2 with(first
  |(refine bo rfl 42 _ rfl (N+2) rfl 42 _ (0,0) _ uc.out cr rfl (by kernel_rfl) ?_)
  |(go_at_call 86;refine(tR.out _).mono ?_;rintro e w2 ⟨rfl,sk⟩;have ue:=zH sk;clear sk))
 have sk:aq (N+3) W1 w2:=by have:=ue.out;rwa [ud] at this
 have i0:=(rx.out w2 sk).i0;have th:=zH sk;clear sk ud tP ue;rw[tr.out]
 go_upto_region 4 with(fail)
 clear i0 o1 o2;obtain⟨S,hS⟩:∃S:World->Prop,S=aq (N+3) W1:=⟨_,rfl⟩
 have D:ca (∀w',S w'↔aq (N+3) W1 w'):=λw'=>by rw[hS]
 have ti:ca (∀w',S w'->∀j u,(#[qT g.c.nm,Z U g.c.par,ra ao g.vs.length g.c.varsC,re g.c.rp,qT g.c.rto,Z U g.c.rcl,ra g.c.fromA g.c.nfrom g.c.fromC,ra g.c.insA g.c.ins.length g.c.insC]:cG bw).toList[j]?=qt u->w'.cell? ((⟨N+1,0,qu⟩:oA).add j)=qt u):=λw' h=>cK (rx.out w' ((D.out w').1 h)).gr;have tt:ca (∀w',S w'->∀j u,(#[Z U i.op,Z U i.d,Z U i.a,Z U i.b,Z U i.f,Z U i.n,qT i.sign,i.argsV,i.modeV,Z U i.tI,Z U i.els,Z U i.ln,Z U i.cl]:cG bw).toList[j]?=qt u->w'.cell? ((⟨N+1+1,0,qu⟩:oA).add j)=qt u):=λw' h=>cK (rx.out w' ((D.out w').1 h)).ir;have rm:ca (∀w',S w'->True/\True):=λ_ _=>⟨trivial,trivial⟩
 clear hS
 go_cut [7,37] from 23 to 37 (λd b wc=>d= Z U (if wD=qv then(i.d,qv) else(0,qS)).1/\b= re (!(bR&&(!wD||bD)))/\aq (N+3) W1 wc)
 case first=>
  have vx:S w2.drew:=(D.out _).2 th.out.drew;cases wD with
  |true=>
   simp only[oB];refine ah 5 S (by kernel_rfl) ?_;refine zT 0 rfl rm.out ?_
   try go_simp
   refine zT 1 rfl rm.out ?_
   try go_simp
   refine zL 2 rfl 38 ⟨N+1,0,qu⟩ ti.out cy ?_
   try go_simp
   refine zT 3 rfl rm.out ?_
   try go_simp
   refine zO 4 rfl λK' G=> ?_;go_simp;have tj:∀c,S (w2.alloc c).drew:=λc=>(D.out _).2 ((th.out.alloc (by have:=th.out.size;rw[rB.out] at this;exact this) _).drew);have ur:au (w2.alloc (rj #[Z U i.d] 3)).drew (qt ⟨w2.heap.size,0,qu⟩) [i.d]:=au.one w2 i.d rfl;refine G _ _ (tj _) ?_;clear G
   try go_simp
   refine zK rfl λK' G=> ?_;go_simp;go_at_call 87;refine(tn.out _ (qt ⟨w2.heap.size,0,qu⟩) 1 [i.d] (by simp) ur).mono ?_;rintro e w5 ⟨rfl,uv⟩;have vy:S w5:=(D.out _).2 (((D.out _).1 (tj _)).trans (uv.mono (by have:=((D.out _).1 (tj (rj #[Z U i.d] 3))).size;rw[rB.out] at this;exact this)));rw[tp.out];refine G _ _ ?_;clear G uv tj vx ur
   try go_simp
   cases bD with
   |false=>
    refine aU 6 rfl (by kernel_rfl) (by kernel_rfl) (·=w5) rfl ?_;dsimp only[gh]
    repeat (go_big_quiet_step (fail))
    refine db ?_;rintro _ rfl;go_wp2
    go_meet
    case rel=>exact⟨rfl,by simp,(D.out _).1 vy⟩
   |true=>
    refine dO (S:=S) (k:=12) _ _ _ _ ?_;refine zT 6 rfl rm.out ?_
    try go_simp
    refine zT 7 rfl rm.out ?_
    try go_simp
    refine zT 8 rfl rm.out ?_
    try go_simp
    refine zL 9 rfl 38 ⟨N+1,0,qu⟩ ti.out cy ?_
    try go_simp
    refine zL 10 rfl 42 ⟨N+1+1,0,qu⟩ tt.out cr ?_
    try go_simp
    refine zO 11 rfl λK' G=> ?_;go_simp;go_at_call 88;refine(tS.out _ ((D.out _).1 (by assumption))).mono ?_;rintro e w7 ⟨ro,rc,rfl,sr,sx⟩;have rN:S w7:=(D.out _).2 (((D.out _).1 (by assumption)).trans (sx.mono (by have:=((D.out _).1 (by assumption)).size;rw[rB.out] at this;exact this)));have sy:=sr.at_;refine G _ _ rN ?_;clear G sr sx
    try go_simp
    refine zK rfl λK' G=> ?_;go_simp;go_at_call 87;refine(tn.out _ _ _ _ tU.out sy).mono ?_;rintro e w8 ⟨rfl,rI⟩;have tv:=((D.out _).1 rN).trans (rI.mono (by have:=((D.out _).1 rN).size;rw[rB.out] at this;exact this));rw[sf.out];refine G _ _ ?_;clear G sy rI
    try go_simp
    refine aU 13 rfl (by kernel_rfl) (by kernel_rfl) (·=w8) rfl ?_;dsimp only[gh]
    repeat (go_big_quiet_step (fail))
    refine db ?_;rintro _ rfl;go_wp2
    go_meet
    case rel=>exact⟨rfl,by simp,tv⟩
  |false=>
    simp only[mS,if_false];refine ah 12 S (by kernel_rfl) ?_;refine zT 0 rfl rm.out ?_
    try go_simp
    refine zT 1 rfl rm.out ?_
    try go_simp
    refine zN 2 rfl ?_
    try go_simp
    refine zN 3 rfl ?_
    try go_simp
    refine zN 4 rfl ?_
    try go_simp
    refine zN 5 rfl ?_
    try go_simp
    refine zN 6 rfl ?_
    try go_simp
    refine zT 7 rfl rm.out ?_
    try go_simp
    refine zT 8 rfl rm.out ?_
    try go_simp
    refine zL 9 rfl 38 ⟨N+1,0,qu⟩ ti.out cy ?_
    try go_simp
    refine zL 10 rfl 42 ⟨N+1+1,0,qu⟩ tt.out cr ?_
    try go_simp
    refine zO 11 rfl λK' G=> ?_;go_simp;go_at_call 88;refine(tS.out _ ((D.out _).1 (by assumption))).mono ?_;rintro e w7 ⟨ro,rc,rfl,sr,sx⟩;have rN:S w7:=(D.out _).2 (((D.out _).1 (by assumption)).trans (sx.mono (by have:=((D.out _).1 (by assumption)).size;rw[rB.out] at this;exact this)));have sy:=sr.at_;refine G _ _ rN ?_;clear G sr sx
    try go_simp
    refine zK rfl λK' G=> ?_;go_simp;go_at_call 87;refine(tn.out _ _ _ _ tU.out sy).mono ?_;rintro e w8 ⟨rfl,rI⟩;have tv:=((D.out _).1 rN).trans (rI.mono (by have:=((D.out _).1 rN).size;rw[rB.out] at this;exact this));rw[sf.out];refine G _ _ ?_;clear G sy rI
    try go_simp
    refine aU 13 rfl (by kernel_rfl) (by kernel_rfl) (·=w8) rfl ?_;dsimp only[gh]
    repeat (go_big_quiet_step (fail))
    refine db ?_;rintro _ rfl;go_wp2
    go_meet
    case rel=>exact⟨rfl,by simp,tv⟩
 case rest=>
  obtain⟨rfl,rfl,J⟩:=hcut;have rv:=zH (tm.out wc J);have q:=rx.out wc J;have HV:ca (∀v,isVar g.vs.length v=qv->∃(k b sB:cd) (x:Vr),v=(k:cj)/\k<g.vs.length/\ao=qt ⟨b,sB,qu⟩/\ak g.vs v=(x.ptr,x.tgt)/\∀W,aq (N+3) W1 W->W.cell? ⟨b,sB+k*3,qu⟩=qt (re x.ptr)/\W.cell? ⟨b,sB+k*3+1,qu⟩=qt (qT x.tgt)):=λv hv=>by
   obtain⟨k,b,sB,x,q1,q2,q3,q4,q5,q6,q7⟩:=dw ua.out.vars hv;refine⟨k,b,sB,x,q1,q2,by rw[<-vt.out];exact q3,q5,λW hW=> ?_⟩;have ux:=tm.out W hW;rw[K.out] at q4;exact⟨by rw[ux.cell (p:=⟨b,_,qu⟩) (show b<N by omega)];exact q6,by rw[ux.cell (p:=⟨b,_,qu⟩) (show b<N by omega)];exact q7⟩
  have wa:=ua.out.vl;unfold dl at wa;have HO:ca (∀W b f,zP 51 #[re b,Z U f] W (Z U (bv (!b) f))):=λW b f=>aX b f W;have rK:ca (∀W W':World,aq (N+3) W1 W->aq W.heap.size W W'->aq N w W'):=λW W' h1 h2=>tm.out W' (h1.trans (h2.mono (by have:=h1.size;rw[rB.out] at this;exact this)));obtain⟨B,hB⟩:=zE (bR&&(!wD||bD));rw[hB];cases B with
  |false=>
   have y:ca (R=15):=by unfold ca;rw[<-HR.out];unfold aC;rw[cw sn.out,cI (by rw[sq.out];exact hB)]
   clear q HV hB;obtain⟨wv,va⟩:=zE ((if wD=qv then(i.d,qv) else(0,qS)):cj×Bool);rw[va,ot];clear va tr;go_wp2;go_ret;rw[y.out,K.out];exact⟨rfl,rv.out⟩
  |true=>
  rw[px];clear D ti tt rm th tr tR uc;rcases vu.out with o|o|o|o
  ·
   have ew:wD=qv:=by rw[<-tf.out,o];decide
   subst ew;have rn:bR=qv:=(by simpa using hB:_/\_).1;have sE:bD=qv:=(by simpa using hB:_/\_).2;have tz:isVar g.vs.length i.d=qv:=by have:=tp.out;rw[sE] at this;simpa[aG] using this
   have sL:isVar g.vs.length i.a=qv:=eF (by rw[sf.out];exact rn) (by rw[o];decide);have wb:isVar g.vs.length i.b=qv:=uZ (by rw[sf.out];exact rn) (by rw[o];decide);have hE:=dK HR sn sq (by rw[rn,sE];simp);have i0:=q.i0;rw[o] at i0;have g7:=q.g7;have g2:=q.g2;have i2:=q.i2;have i3:=q.i3;obtain⟨kd,we,wg,xd,tA,wi,tB,sR,rS⟩:=HV.out i.d tz;have wj:=zH rS;obtain⟨d0,d1⟩:=rS wc J;clear rS;have wk:(kd:cj)<(g.vs.length:cj):=by omega
   obtain⟨ka,vc,vd,xa,sT,vf,se,rL,rr⟩:=HV.out i.a sL;have vh:=zH rr;obtain⟨a0,a1⟩:=rr wc J;clear rr;have vi:(ka:cj)<(g.vs.length:cj):=by omega
   obtain⟨kb,xf,xj,xb,wl,xl,vj,vm,tD⟩:=HV.out i.b wb;have xo:=zH tD;obtain⟨b0,b1⟩:=tD wc J;clear tD;have xp:(kb:cj)<(g.vs.length:cj):=by omega
   subst tB;simp only[dc,eW,and_true] at se;obtain⟨rfl,rfl⟩:=se;simp only[dc,eW,and_true] at vj;obtain⟨rfl,rfl⟩:=vj;rw[sT] at i2;rw[wl] at i3;obtain⟨pd,tE⟩:=zE xd.ptr;rw[tE] at d0 sR;obtain⟨pa,sX⟩:=zE xa.ptr;rw[sX] at a0 rL;obtain⟨pb,wn⟩:=zE xb.ptr;rw[wn] at b0 vm;have i6:=q.i6;have y:ca (R=dM (bv (!(pd||(pa||pb))) 7) i.sign fE):=by unfold ca;rw[hE];simp[o,aj,dB,sR,rL,vm]
   have vn:ca (∀W,zP 89 #[qT i.sign] W (re (fE.any λx=>x==i.sign))):=λW=>wY i.sign W;obtain⟨sg,tG⟩:=zE (fE.any λx=>x==i.sign);rw[tG] at vn;have sY:ca (∀z,dM z i.sign fE=if z≠0 then z else bv sg 3):=λz=>by unfold dM;rw[tG]
   rw[sY.out] at y;clear tG sY;simp only[oB];rw[tA];clear o hE hB q rx HV;cases pd
   ·cases pa
    ·cases pb
     ·go_wp2_with (first|(go_at_call 89;refine(vn.out _).mono ?_;rintro e w8 ⟨rfl,rI⟩;have ws:=zH (J.trans (rI.mono (by have:=J.size;rw[rB.out] at this;exact this)));clear rI)|(go_at_call 51;refine(HO.out _ _ _).mono ?_;rintro e w9 ⟨rfl,A⟩;have rl:=zH (rK.out _ _ ws.out A);clear A))
      go_ret;rw[y.out,K.out];exact⟨by cases sg<;>rfl,rl.out⟩
     ·go_wp2
      go_ret;rw[y.out,K.out];exact⟨rfl,rv.out⟩
    ·go_wp2
     go_ret;rw[y.out,K.out];exact⟨rfl,rv.out⟩
   ·go_wp2
    go_ret;rw[y.out,K.out];exact⟨rfl,rv.out⟩
  ·
   have ew:wD=qS:=by rw[<-tf.out,o];decide
   subst ew;have rn:bR=qv:=by simpa using hB
   have sL:isVar g.vs.length i.a=qv:=eF (by rw[sf.out];exact rn) (by rw[o];decide);have hE:=dK HR sn sq (by rw[rn];simp);have i0:=q.i0;rw[o] at i0;have g7:=q.g7;have g2:=q.g2;have i2:=q.i2;obtain⟨ka,vc,vd,xa,sT,vf,se,rL,rr⟩:=HV.out i.a sL;have vh:=zH rr;obtain⟨a0,a1⟩:=rr wc J;clear rr;have vi:(ka:cj)<(g.vs.length:cj):=by omega
   subst se;rw[sT] at i2;obtain⟨pa,sX⟩:=zE xa.ptr;rw[sX] at a0 rL;have y:ca (R=bv pa 7):=by unfold ca;rw[hE];simp[o,aj,rL]
   clear o hE hB q rx HV
   go_wp2_with (go_at_call 51;refine(HO.out _ _ _).mono ?_;rintro e w9 ⟨rfl,A⟩;have rl:=zH (rK.out _ _ J A);clear A)
   go_ret;rw[y.out,K.out];exact⟨rfl,by first|exact rl.out|exact rv.out⟩
  ·
   have ew:wD=qv:=by rw[<-tf.out,o];decide
   subst ew;have rn:bR=qv:=(by simpa using hB:_/\_).1;have sE:bD=qv:=(by simpa using hB:_/\_).2;have tz:isVar g.vs.length i.d=qv:=by have:=tp.out;rw[sE] at this;simpa[aG] using this
   have sL:isVar g.vs.length i.a=qv:=eF (by rw[sf.out];exact rn) (by rw[o];decide);have hE:=dK HR sn sq (by rw[rn,sE];simp);have i0:=q.i0;rw[o] at i0;have g7:=q.g7;have g2:=q.g2;have i2:=q.i2;obtain⟨kd,we,wg,xd,tA,wi,tB,sR,rS⟩:=HV.out i.d tz;have wj:=zH rS;obtain⟨d0,d1⟩:=rS wc J;clear rS;have wk:(kd:cj)<(g.vs.length:cj):=by omega
   obtain⟨ka,vc,vd,xa,sT,vf,se,rL,rr⟩:=HV.out i.a sL;have vh:=zH rr;obtain⟨a0,a1⟩:=rr wc J;clear rr;have vi:(ka:cj)<(g.vs.length:cj):=by omega
   subst tB;simp only[dc,eW,and_true] at se;obtain⟨rfl,rfl⟩:=se;rw[sT] at i2;obtain⟨pd,tE⟩:=zE xd.ptr;rw[tE] at d0 sR;obtain⟨pa,sX⟩:=zE xa.ptr;rw[sX] at a0 rL;have i6:=q.i6;have y:ca (R=dM (bv (!pd&&pa) 7) i.sign il):=by unfold ca;rw[hE];simp[o,aj,sR,rL]
   have vp:ca ((il.any λx=>x==i.sign)=(i.sign.toList==[61,61]||i.sign.toList==[33,61])):=by
    unfold ca il;simp only[List.any_cons,List.any_nil,Bool.or_false];rw[eL,eL,BEq.comm (a:=i.sign.toList),BEq.comm (a:=i.sign.toList)];rw[show(ByteArray.mk #[61,61]).toList=[61,61] from by decide+kernel,show(ByteArray.mk #[33,61]).toList=[33,61] from by decide+kernel]
   have sY:ca (∀z,dM z i.sign il=if z≠0 then z else bv (i.sign.toList==[61,61]||i.sign.toList==[33,61]) 3):=λz=>by unfold dM;rw[vp.out]
   rw[sY.out] at y;clear sY vp;simp only[oB];rw[tA];clear o hE hB q rx HV;cases pd
   ·cases pa
    ·go_wp2
     go_ret;rw[y.out,K.out];exact⟨rfl,rv.out⟩
    ·by_cases s1:i.sign.toList=[61,61]
     ·have te:ca (R=0):=by unfold ca;rw[y.out,s1];rfl
      go_wp2_with (go_at_call 51;refine(HO.out _ _ _).mono ?_;rintro e w9 ⟨rfl,A⟩;have rl:=zH (rK.out _ _ J A);clear A)
      go_ret;rw[te.out,K.out];exact⟨rfl,rl.out⟩
     ·by_cases s2:i.sign.toList=[33,61]
      ·have te:ca (R=0):=by unfold ca;rw[y.out,s2];rfl
       go_wp2_with (go_at_call 51;refine(HO.out _ _ _).mono ?_;rintro e w9 ⟨rfl,A⟩;have rl:=zH (rK.out _ _ J A);clear A)
       go_ret;rw[te.out,K.out];exact⟨rfl,rl.out⟩
      ·have te:ca (R=bv (i.sign.toList==[61,61]||i.sign.toList==[33,61]) 3):=by unfold ca;rw[y.out];rfl
       go_wp2_with (go_at_call 51;refine(HO.out _ _ _).mono ?_;rintro e w9 ⟨rfl,A⟩;have rl:=zH (rK.out _ _ J A);clear A)
       go_ret;rw[te.out,K.out];exact⟨rfl,rl.out⟩
   ·go_wp2
    go_ret;rw[y.out,K.out];exact⟨rfl,rv.out⟩
  ·
   have ew:wD=qS:=by rw[<-tf.out,o];decide
   subst ew;have rn:bR=qv:=by simpa using hB
   have hE:=dK HR sn sq (by rw[rn];simp);have i0:=q.i0;rw[o] at i0;have g7:=q.g7;have i9:=q.i9;obtain⟨n,hn⟩:=zE g.c.ins.length;obtain⟨t,ht⟩:=zE i.tI;rw[ht] at i9;rw[hn] at g7;have y:ca (R=bv (isVar n t) 15):=by unfold ca;rw[hE];simp[o,hn,ht]
   clear o hE hB q rx HV
   by_cases t0:t<0
   ·have e:isVar n t=qS:=by unfold isVar;rw[cv (by omega)];rfl
    rw[e] at y;have e0:decide (t<0)=qv:=dy t0
    go_wp2_with (go_at_call 51;refine(HO.out _ _ _).mono ?_;rintro e w9 ⟨rfl,A⟩;have rl:=zH (rK.out _ _ J A);clear A)
    go_ret;rw[y.out,K.out];exact⟨rfl,by first|exact rl.out|exact rv.out⟩
   have e0:decide (t<0)=qS:=cv t0
   by_cases t1:(n:cj)<=t
   ·have e:isVar n t=qS:=by unfold isVar;rw[cv (show¬t<(n:cj) by omega),Bool.and_false]
    rw[e] at y;have e1:decide ((n:cj)<=t)=qv:=dy t1
    go_wp2_with (go_at_call 51;refine(HO.out _ _ _).mono ?_;rintro e w9 ⟨rfl,A⟩;have rl:=zH (rK.out _ _ J A);clear A)
    go_ret;rw[y.out,K.out];exact⟨rfl,by first|exact rl.out|exact rv.out⟩
   ·have e:isVar n t=qv:=dJ.2 ⟨by omega,by omega⟩
    rw[e] at y;have e1:decide ((n:cj)<=t)=qS:=cv t1
    go_wp2_with (go_at_call 51;refine(HO.out _ _ _).mono ?_;rintro e w9 ⟨rfl,A⟩;have rl:=zH (rK.out _ _ J A);clear A)
    go_ret;rw[y.out,K.out];exact⟨rfl,by first|exact rl.out|exact rv.out⟩
theorem rY (m:Mo)(g:Fn)(i:Ins)(w:World)(h:mr w m g)(hi:i.args_in w)(ue:i.args.length<=40)(vt:∀v,isVar g.vs.length v=qv->m.known (ak g.vs v)=qv)(o:i.op=9\/i.op=12\/i.op=18):
  zP 49 #[rh m.cells,rh g.cells,rh i.cells] w (Z U (aC m g i)):=by
 obtain⟨ao,N,W1,hN,ur,tz,HN,rI,vu,vx,G,rL,HJ,ws,tA,uv,ux,va⟩:=eO h hi ue;obtain⟨wD,bD,bR,o1,o2,ti,tB,tj,tD,tE,tl⟩:=eT (g:=g) (i:=i) (by omega) (by omega);rw[vu.out];simp only[Mo.cells,gc,Ins.cells] at tz⊢;have vc:=zH tz;obtain⟨R,hR⟩:=zE (aC m g i);rw[hR];have HR:=zH hR;have tm:=zH h;have vy:=zH o;have vd:=G.out W1 (an _ _);have vf:=zH vd.ir;clear h hi ue vt tz hR o;have vh:W1.heap.size=N+3:=ur;go_enter func49,qn
 go_upto_region 1 with(fail)
 rw[vc.out];clear vc vd hN
 go_upto_region 2 with(first
  |(refine bo rfl 42 _ rfl (N+2) rfl 42 _ (0,0) _ vf.out cr rfl (by kernel_rfl) ?_)
  |(go_at_call 86;refine(uv.out _).mono ?_;rintro e w2 ⟨rfl,sn⟩;have vi:=zH sn;clear sn))
 have sn:aq (N+3) W1 w2:=by have:=vi.out;rwa [vh] at this
 have i0:=(G.out w2 sn).i0;have tn:=zH sn;clear sn vh ur vi;rw[tE.out]
 go_upto_region 4 with(fail)
 clear i0 o1 o2;obtain⟨S,hS⟩:∃S:World->Prop,S=aq (N+3) W1:=⟨_,rfl⟩
 have q:ca (∀w',S w'↔aq (N+3) W1 w'):=λw'=>by rw[hS]
 have tp:ca (∀w',S w'->∀j u,(#[qT g.c.nm,Z U g.c.par,ra ao g.vs.length g.c.varsC,re g.c.rp,qT g.c.rto,Z U g.c.rcl,ra g.c.fromA g.c.nfrom g.c.fromC,ra g.c.insA g.c.ins.length g.c.insC]:cG bw).toList[j]?=qt u->w'.cell? ((⟨N+1,0,qu⟩:oA).add j)=qt u):=λw' h=>cK (G.out w' ((q.out w').1 h)).gr;have tG:ca (∀w',S w'->∀j u,(#[Z U i.op,Z U i.d,Z U i.a,Z U i.b,Z U i.f,Z U i.n,qT i.sign,i.argsV,i.modeV,Z U i.tI,Z U i.els,Z U i.ln,Z U i.cl]:cG bw).toList[j]?=qt u->w'.cell? ((⟨N+1+1,0,qu⟩:oA).add j)=qt u):=λw' h=>cK (G.out w' ((q.out w').1 h)).ir;have rm:ca (∀w',S w'->True/\True):=λ_ _=>⟨trivial,trivial⟩
 clear hS
 go_cut [7,37] from 23 to 37 (λd b wc=>d= Z U (if wD=qv then(i.d,qv) else(0,qS)).1/\b= re (!(bR&&(!wD||bD)))/\aq (N+3) W1 wc)
 case first=>
  have wa:S w2.drew:=(q.out _).2 tn.out.drew;cases wD with
  |true=>
   simp only[oB];refine ah 5 S (by kernel_rfl) ?_;refine zT 0 rfl rm.out ?_
   try go_simp
   refine zT 1 rfl rm.out ?_
   try go_simp
   refine zL 2 rfl 38 ⟨N+1,0,qu⟩ tp.out cy ?_
   try go_simp
   refine zT 3 rfl rm.out ?_
   try go_simp
   refine zO 4 rfl λK' A=> ?_;go_simp;have tr:∀c,S (w2.alloc c).drew:=λc=>(q.out _).2 ((tn.out.alloc (by have:=tn.out.size;rw[rI.out] at this;exact this) _).drew);have vj:au (w2.alloc (rj #[Z U i.d] 3)).drew (qt ⟨w2.heap.size,0,qu⟩) [i.d]:=au.one w2 i.d rfl;refine A _ _ (tr _) ?_;clear A
   try go_simp
   refine zK rfl λK' A=> ?_;go_simp;go_at_call 87;refine(tA.out _ (qt ⟨w2.heap.size,0,qu⟩) 1 [i.d] (by simp) vj).mono ?_;rintro e w5 ⟨rfl,vm⟩;have wb:S w5:=(q.out _).2 (((q.out _).1 (tr _)).trans (vm.mono (by have:=((q.out _).1 (tr (rj #[Z U i.d] 3))).size;rw[rI.out] at this;exact this)));rw[tB.out];refine A _ _ ?_;clear A vm tr wa vj
   try go_simp
   cases bD with
   |false=>
    refine aU 6 rfl (by kernel_rfl) (by kernel_rfl) (·=w5) rfl ?_;dsimp only[gh]
    repeat (go_big_quiet_step (fail))
    refine db ?_;rintro _ rfl;go_wp2
    go_meet
    case rel=>exact⟨rfl,by simp,(q.out _).1 wb⟩
   |true=>
    refine dO (S:=S) (k:=12) _ _ _ _ ?_;refine zT 6 rfl rm.out ?_
    try go_simp
    refine zT 7 rfl rm.out ?_
    try go_simp
    refine zT 8 rfl rm.out ?_
    try go_simp
    refine zL 9 rfl 38 ⟨N+1,0,qu⟩ tp.out cy ?_
    try go_simp
    refine zL 10 rfl 42 ⟨N+1+1,0,qu⟩ tG.out cr ?_
    try go_simp
    refine zO 11 rfl λK' A=> ?_;go_simp;go_at_call 88;refine(ux.out _ ((q.out _).1 (by assumption))).mono ?_;rintro e w7 ⟨ro,rc,rfl,sr,sx⟩;have rN:S w7:=(q.out _).2 (((q.out _).1 (by assumption)).trans (sx.mono (by have:=((q.out _).1 (by assumption)).size;rw[rI.out] at this;exact this)));have sy:=sr.at_;refine A _ _ rN ?_;clear A sr sx
    try go_simp
    refine zK rfl λK' A=> ?_;go_simp;go_at_call 87;refine(tA.out _ _ _ _ va.out sy).mono ?_;rintro e w8 ⟨rfl,sB⟩;have tM:=((q.out _).1 rN).trans (sB.mono (by have:=((q.out _).1 rN).size;rw[rI.out] at this;exact this));rw[tj.out];refine A _ _ ?_;clear A sy sB
    try go_simp
    refine aU 13 rfl (by kernel_rfl) (by kernel_rfl) (·=w8) rfl ?_;dsimp only[gh]
    repeat (go_big_quiet_step (fail))
    refine db ?_;rintro _ rfl;go_wp2
    go_meet
    case rel=>exact⟨rfl,by simp,tM⟩
  |false=>
    simp only[mS,if_false];refine ah 12 S (by kernel_rfl) ?_;refine zT 0 rfl rm.out ?_
    try go_simp
    refine zT 1 rfl rm.out ?_
    try go_simp
    refine zN 2 rfl ?_
    try go_simp
    refine zN 3 rfl ?_
    try go_simp
    refine zN 4 rfl ?_
    try go_simp
    refine zN 5 rfl ?_
    try go_simp
    refine zN 6 rfl ?_
    try go_simp
    refine zT 7 rfl rm.out ?_
    try go_simp
    refine zT 8 rfl rm.out ?_
    try go_simp
    refine zL 9 rfl 38 ⟨N+1,0,qu⟩ tp.out cy ?_
    try go_simp
    refine zL 10 rfl 42 ⟨N+1+1,0,qu⟩ tG.out cr ?_
    try go_simp
    refine zO 11 rfl λK' A=> ?_;go_simp;go_at_call 88;refine(ux.out _ ((q.out _).1 (by assumption))).mono ?_;rintro e w7 ⟨ro,rc,rfl,sr,sx⟩;have rN:S w7:=(q.out _).2 (((q.out _).1 (by assumption)).trans (sx.mono (by have:=((q.out _).1 (by assumption)).size;rw[rI.out] at this;exact this)));have sy:=sr.at_;refine A _ _ rN ?_;clear A sr sx
    try go_simp
    refine zK rfl λK' A=> ?_;go_simp;go_at_call 87;refine(tA.out _ _ _ _ va.out sy).mono ?_;rintro e w8 ⟨rfl,sB⟩;have tM:=((q.out _).1 rN).trans (sB.mono (by have:=((q.out _).1 rN).size;rw[rI.out] at this;exact this));rw[tj.out];refine A _ _ ?_;clear A sy sB
    try go_simp
    refine aU 13 rfl (by kernel_rfl) (by kernel_rfl) (·=w8) rfl ?_;dsimp only[gh]
    repeat (go_big_quiet_step (fail))
    refine db ?_;rintro _ rfl;go_wp2
    go_meet
    case rel=>exact⟨rfl,by simp,tM⟩
 case rest=>
  obtain⟨rfl,rfl,rl⟩:=hcut;have tP:=zH (rL.out wc rl);have y:=G.out wc rl;have HV:ca (∀v,isVar g.vs.length v=qv->∃(k b sE:cd) (x:Vr),v=(k:cj)/\k<g.vs.length/\ao=qt ⟨b,sE,qu⟩/\ak g.vs v=(x.ptr,x.tgt)/\∀W,aq (N+3) W1 W->W.cell? ⟨b,sE+k*3,qu⟩=qt (re x.ptr)/\W.cell? ⟨b,sE+k*3+1,qu⟩=qt (qT x.tgt)):=λv hv=>by
   obtain⟨k,b,sE,x,q1,q2,q3,q4,q5,q6,q7⟩:=dw tm.out.vars hv;refine⟨k,b,sE,x,q1,q2,by rw[<-vx.out];exact q3,q5,λW hW=> ?_⟩;have tt:=rL.out W hW;rw[HN.out] at q4;exact⟨by rw[tt.cell (p:=⟨b,_,qu⟩) (show b<N by omega)];exact q6,by rw[tt.cell (p:=⟨b,_,qu⟩) (show b<N by omega)];exact q7⟩
  have we:=tm.out.vl;unfold dl at we;have HO:ca (∀W b f,zP 51 #[re b,Z U f] W (Z U (bv (!b) f))):=λW b f=>aX b f W;have wx:ca (∀W W':World,aq (N+3) W1 W->aq W.heap.size W W'->aq N w W'):=λW W' h1 h2=>rL.out W' (h1.trans (h2.mono (by have:=h1.size;rw[rI.out] at this;exact this)));obtain⟨B,J⟩:=zE (bR&&(!wD||bD));rw[J];cases B with
  |false=>
   have rn:ca (R=15):=by unfold ca;rw[<-HR.out];unfold aC;rw[cw ti.out,cI (by rw[tl.out];exact J)]
   clear y HV J;obtain⟨wv,vn⟩:=zE ((if wD=qv then(i.d,qv) else(0,qS)):cj×Bool);rw[vn,ot];clear vn tE;go_wp2;go_ret;rw[rn.out,HN.out];exact⟨rfl,tP.out⟩
  |true=>
  rw[px];clear q tp tG rm tn tE uv vf;rcases vy.out with o|o|o
  ·
   have ew:wD=qv:=by rw[<-tD.out,o];decide
   subst ew;have rS:bR=qv:=(by simpa using J:_/\_).1;have sL:bD=qv:=(by simpa using J:_/\_).2;have tR:isVar g.vs.length i.d=qv:=by have:=tB.out;rw[sL] at this;simpa[aG] using this
   have tS:isVar g.vs.length i.a=qv:=eF (by rw[tj.out];exact rS) (by rw[o];decide);have hE:=dK HR ti tl (by rw[rS,sL];simp);have i0:=y.i0;rw[o] at i0;have g7:=y.g7;have g2:=y.g2;have i2:=y.i2;obtain⟨kd,rr,rv,K,tU,wg,tW,sq,se⟩:=HV.out i.d tR;have sR:=zH se;obtain⟨d0,d1⟩:=se wc rl;clear se;have wi:(kd:cj)<(g.vs.length:cj):=by omega
   obtain⟨ka,sT,sX,xa,sY,wj,tv,sf,sk⟩:=HV.out i.a tS;have te:=zH sk;obtain⟨a0,a1⟩:=sk wc rl;clear sk;have wk:(ka:cj)<(g.vs.length:cj):=by omega
   subst tW;simp only[dc,eW,and_true] at tv;obtain⟨rfl,rfl⟩:=tv;rw[sY] at i2;have D:ca (∀p:BW wc,aq (N+3) W1 p.w):=λp=>rl.trans (p.h.mono (by have:=rl.size;rw[rI.out] at this;exact this));have rx:ca (∀p:BW wc,Bx m g i (qt ⟨rr,rv,qu⟩) N p.w):=λp=>G.out p.w (D.out p);have tf:ca (∀(p:BW wc) b f,zP 51 #[re b,Z U f] p.w (Z U (bv (!b) f))):=λp b f=>aX b f p.w;have xf:=zH sf;have xj:=zH sq;obtain⟨pa,ua⟩:=zE xa.ptr;obtain⟨dq,rB⟩:=zE (((pa,xa.tgt):Ty)==(K.ptr,K.tgt));have vp:∀w,(fS 10000 32 (rh #[re pa,qT xa.tgt]) (rh #[re K.ptr,qT K.tgt])).run ac w= .ok dq w:=λw=>by rw[cB,rB]
   rw[ua] at sf a0;have rn:ca (R=bv (pa&&dq) 7):=by unfold ca;rw[hE];simp only[o,aj,sf,sq,rB];simp
   have q0:∀p:BW wc,p.w.cell? ⟨N+1,2,qu⟩=qt (ra (qt ⟨rr,rv,qu⟩) g.vs.length g.c.varsC):=λp=>(rx.out p).g2;have q1:∀p:BW wc,p.w.cell? ⟨N+2,2,qu⟩=qt (Z U (ka:cj)):=λp=>by rw[<-sY];exact(rx.out p).i2
   have q2:∀p:BW wc,p.w.cell? ⟨rr,rv+ka*3,qu⟩=qt (re pa):=λp=>by rw[<-ua];exact(te.out p.w (D.out p)).1
   have q3:∀p:BW wc,p.w.cell? ⟨rr,rv+ka*3+1,qu⟩=qt (qT xa.tgt):=λp=>(te.out p.w (D.out p)).2;have q4:∀p:BW wc,p.w.cell? ⟨rr,rv+kd*3,qu⟩=qt (re K.ptr):=λp=>(sR.out p.w (D.out p)).1;have q5:∀p:BW wc,p.w.cell? ⟨rr,rv+kd*3+1,qu⟩=qt (qT K.tgt):=λp=>(sR.out p.w (D.out p)).2;clear rB ua sf sq;simp only[oB];rw[tU];clear o hE J y G HV;cases pa<;>cases dq
   all_goals
    go_wp2_with fail
    clear i0 g2 i2 a0 a1 d0 d1;refine zQ ?_
    repeat (go_big_quiet_step (first|(go_at_call 51;exact aV (tf.out _ _ _))))
    refine db ?_;rintro _ ⟨p,rfl⟩;have th:=zH (rL.out p.w (D.out p));clear q0 q1 q2 q3 q4 q5;go_wp2;go_ret;rw[rn.out,HN.out];exact⟨rfl,th.out⟩
  ·
   have ew:wD=qv:=by rw[<-tD.out,o];decide
   subst ew;have rS:bR=qv:=(by simpa using J:_/\_).1;have sL:bD=qv:=(by simpa using J:_/\_).2;have tR:isVar g.vs.length i.d=qv:=by have:=tB.out;rw[sL] at this;simpa[aG] using this
   have hE:=dK HR ti tl (by rw[rS,sL];simp);have i0:=y.i0;rw[o] at i0;have g7:=y.g7;have g2:=y.g2;obtain⟨kd,rr,rv,K,tU,wg,tW,sq,se⟩:=HV.out i.d tR;have sR:=zH se;obtain⟨d0,d1⟩:=se wc rl;clear se;have wi:(kd:cj)<(g.vs.length:cj):=by omega
   subst tW;have D:ca (∀p:BW wc,aq (N+3) W1 p.w):=λp=>rl.trans (p.h.mono (by have:=rl.size;rw[rI.out] at this;exact this));have rx:ca (∀p:BW wc,Bx m g i (qt ⟨rr,rv,qu⟩) N p.w):=λp=>G.out p.w (D.out p);have tf:ca (∀(p:BW wc) b f,zP 51 #[re b,Z U f] p.w (Z U (bv (!b) f))):=λp b f=>aX b f p.w;have i4:=y.i4;have m0:=y.m0;have rK:R=if i.f<0 then 15 else match m.ss[i.f.toNat]? with
    |none=>15
    |some s=>bv (ak g.vs i.d==(qv,s.s.nm)) 7:=by rw[hE];simp only[o,aj];simp;rfl
   obtain⟨f,hf⟩:=zE i.f;rw[hf] at rK i4;have wl:=tm.out.mo.ns;unfold dl at wl
   by_cases ub:f<0
   ·have rn:ca (R=15):=by unfold ca;rw[rK,cI ub]
    have e0:decide (f<0)=qv:=dy ub;clear o hE rK J y G HV hf;go_wp2;go_ret;rw[rn.out,HN.out];exact⟨rfl,tP.out⟩
   obtain⟨F,rfl⟩:∃F:cd,f=(F:cj):=⟨f.toNat,by omega⟩
   rw[cw ub,ep] at rK
   by_cases uc:F<m.ss.length
   rotate_left
   ·have rn:ca (R=15):=by unfold ca;rw[rK,lA (by omega)]
    have wn:(m.ss.length:cj)<=(F:cj):=by omega
    clear o hE rK J y G HV hf;go_wp2;go_ret;rw[rn.out,HN.out];exact⟨rfl,tP.out⟩
   have wn:(F:cj)<(m.ss.length:cj):=by omega
   obtain⟨st,hst⟩:∃s,m.ss[F]?=qt s:=⟨_,am uc⟩
   rw[hst,sq] at rK;obtain⟨sb,so,ud,vq,vr⟩:=tm.out.mo.srow (by intro e;rw[e] at uc;simp at uc);rw[ud] at m0;obtain⟨dq,rB⟩:=zE (((K.ptr,K.tgt):Ty)==(qv,st.s.nm));have vp:∀w,(fS 10000 32 (rh #[re K.ptr,qT K.tgt]) (rh #[re qv,qT st.s.nm])).run ac w= .ok dq w:=λw=>by rw[cB,rB]
   have rn:ca (R=bv dq 7):=by unfold ca;rw[rK,<-rB]
   have q0:∀p:BW wc,p.w.cell? ⟨N+1,2,qu⟩=qt (ra (qt ⟨rr,rv,qu⟩) g.vs.length g.c.varsC):=λp=>(rx.out p).g2;have q1:∀p:BW wc,p.w.cell? ⟨N+2,4,qu⟩=qt (Z U (F:cj)):=λp=>by rw[<-hf];exact(rx.out p).i4
   have q2:∀p:BW wc,p.w.cell? ⟨N,0,qu⟩=qt (ra (qt ⟨sb,so,qu⟩) m.ss.length m.sC):=λp=>by rw[<-ud];exact(rx.out p).m0
   have q3:∀p:BW wc,p.w.cell? ⟨sb,so+F*4,qu⟩=qt (qT st.s.nm):=λp=>by
    have tt:=rL.out p.w (D.out p);rw[HN.out] at vq;rw[tt.cell (p:=⟨sb,_,qu⟩) (show sb<N by omega)];exact vr F st hst 0 _ rfl
   have q4:∀p:BW wc,p.w.cell? ⟨rr,rv+kd*3,qu⟩=qt (re K.ptr):=λp=>(sR.out p.w (D.out p)).1;have q5:∀p:BW wc,p.w.cell? ⟨rr,rv+kd*3+1,qu⟩=qt (qT K.tgt):=λp=>(sR.out p.w (D.out p)).2;clear rB sq rK hf hst ud vq vr;simp only[oB];rw[tU];clear o hE J y G HV;cases dq
   all_goals
    go_wp2_with fail
    clear i0 g2 i4 m0 d0 d1;refine zQ ?_
    repeat (go_big_quiet_step (first|(go_at_call 51;exact aV (tf.out _ _ _))))
    refine db ?_;rintro _ ⟨p,rfl⟩;have th:=zH (rL.out p.w (D.out p));clear q0 q1 q2 q3 q4 q5;go_wp2;go_ret;rw[rn.out,HN.out];exact⟨rfl,th.out⟩
  ·
   have ew:wD=qS:=by rw[<-tD.out,o];decide
   subst ew;have rS:bR=qv:=by simpa using J
   have tS:isVar g.vs.length i.a=qv:=eF (by rw[tj.out];exact rS) (by rw[o];decide);have hE:=dK HR ti tl (by rw[rS];simp);have i0:=y.i0;rw[o] at i0;have g7:=y.g7;have g2:=y.g2;have i2:=y.i2;obtain⟨ka,sT,sX,xa,sY,wj,tv,sf,sk⟩:=HV.out i.a tS;have te:=zH sk;obtain⟨a0,a1⟩:=sk wc rl;clear sk;have wk:(ka:cj)<(g.vs.length:cj):=by omega
   subst tv;rw[sY] at i2;have D:ca (∀p:BW wc,aq (N+3) W1 p.w):=λp=>rl.trans (p.h.mono (by have:=rl.size;rw[rI.out] at this;exact this));have rx:ca (∀p:BW wc,Bx m g i (qt ⟨sT,sX,qu⟩) N p.w):=λp=>G.out p.w (D.out p);have tf:ca (∀(p:BW wc) b f,zP 51 #[re b,Z U f] p.w (Z U (bv (!b) f))):=λp b f=>aX b f p.w;obtain⟨dq,rB⟩:=zE (((xa.ptr,xa.tgt):Ty)==(g.c.rp,g.c.rto));have vp:∀w,(fS 10000 32 (rh #[re xa.ptr,qT xa.tgt]) (rh #[re g.c.rp,qT g.c.rto])).run ac w= .ok dq w:=λw=>by rw[cB,rB]
   have rn:ca (R=bv dq 7):=by unfold ca;rw[hE,sf,<-rB];simp only[o];simp[Fn.ret]
   have q0:∀p:BW wc,p.w.cell? ⟨N+1,2,qu⟩=qt (ra (qt ⟨sT,sX,qu⟩) g.vs.length g.c.varsC):=λp=>(rx.out p).g2;have q1:∀p:BW wc,p.w.cell? ⟨N+2,2,qu⟩=qt (Z U (ka:cj)):=λp=>by rw[<-sY];exact(rx.out p).i2
   have q2:∀p:BW wc,p.w.cell? ⟨sT,sX+ka*3,qu⟩=qt (re xa.ptr):=λp=>(te.out p.w (D.out p)).1;have q3:∀p:BW wc,p.w.cell? ⟨sT,sX+ka*3+1,qu⟩=qt (qT xa.tgt):=λp=>(te.out p.w (D.out p)).2;have q4:∀p:BW wc,p.w.cell? ⟨N+1,3,qu⟩=qt (re g.c.rp):=λp=>(rx.out p).g3;have q5:∀p:BW wc,p.w.cell? ⟨N+1,3+1,qu⟩=qt (qT g.c.rto):=λp=>(rx.out p).g4;clear rB sf;clear o hE J y G HV;cases dq
   all_goals
    go_wp2_with fail
    clear i0 g2 i2 a0 a1;refine zQ ?_
    repeat (go_big_quiet_step (first|(go_at_call 51;exact aV (tf.out _ _ _))))
    refine db ?_;rintro _ ⟨p,rfl⟩;have th:=zH (rL.out p.w (D.out p));clear q0 q1 q2 q3 q4 q5;go_wp2;go_ret;rw[rn.out,HN.out];exact⟨rfl,th.out⟩
theorem rZ (m:Mo)(g:Fn)(i:Ins)(w:World)(h:mr w m g)(hi:i.args_in w)(ur:i.args.length<=40)(uv:∀v,isVar g.vs.length v=qv->m.known (ak g.vs v)=qv)(q:i.op=7\/i.op=8\/i.op=10\/i.op=11):
  zP 49 #[rh m.cells,rh g.cells,rh i.cells] w (Z U (aC m g i)):=by
 obtain⟨ao,N,W1,hN,ux,tr,HN,rB,sx,vu,rv,tt,HJ,ws,tv,va,vc,vd⟩:=eO h hi ur;obtain⟨wD,bD,bR,o1,o2,sy,tz,rx,ti,tA,sB⟩:=eT (g:=g) (i:=i) (by omega) (by omega);rw[sx.out];simp only[Mo.cells,gc,Ins.cells] at tr⊢;have vf:=zH tr;obtain⟨R,hR⟩:=zE (aC m g i);rw[hR];have HR:=zH hR;have tj:=zH uv;have vh:=zH h;have vx:=zH q;have vi:=rv.out W1 (an _ _);have vj:=zH vi.ir;clear h hi ur uv tr hR q;have vm:W1.heap.size=N+3:=ux;go_enter func49,qn
 go_upto_region 1 with(fail)
 rw[vf.out];clear vf vi hN
 go_upto_region 2 with(first
  |(refine bo rfl 42 _ rfl (N+2) rfl 42 _ (0,0) _ vj.out cr rfl (by kernel_rfl) ?_)
  |(go_at_call 86;refine(va.out _).mono ?_;rintro e w2 ⟨rfl,sr⟩;have vn:=zH sr;clear sr))
 have sr:aq (N+3) W1 w2:=by have:=vn.out;rwa [vm] at this
 have i0:=(rv.out w2 sr).i0;have tl:=zH sr;clear sr vm ux vn;rw[tA.out]
 go_upto_region 4 with(fail)
 clear i0 o1 o2;obtain⟨S,hS⟩:∃S:World->Prop,S=aq (N+3) W1:=⟨_,rfl⟩
 have y:ca (∀w',S w'↔aq (N+3) W1 w'):=λw'=>by rw[hS]
 have tm:ca (∀w',S w'->∀j u,(#[qT g.c.nm,Z U g.c.par,ra ao g.vs.length g.c.varsC,re g.c.rp,qT g.c.rto,Z U g.c.rcl,ra g.c.fromA g.c.nfrom g.c.fromC,ra g.c.insA g.c.ins.length g.c.insC]:cG bw).toList[j]?=qt u->w'.cell? ((⟨N+1,0,qu⟩:oA).add j)=qt u):=λw' h=>cK (rv.out w' ((y.out w').1 h)).gr;have tB:ca (∀w',S w'->∀j u,(#[Z U i.op,Z U i.d,Z U i.a,Z U i.b,Z U i.f,Z U i.n,qT i.sign,i.argsV,i.modeV,Z U i.tI,Z U i.els,Z U i.ln,Z U i.cl]:cG bw).toList[j]?=qt u->w'.cell? ((⟨N+1+1,0,qu⟩:oA).add j)=qt u):=λw' h=>cK (rv.out w' ((y.out w').1 h)).ir;have rn:ca (∀w',S w'->True/\True):=λ_ _=>⟨trivial,trivial⟩
 clear hS
 go_cut [7,37] from 23 to 37 (λd b wc=>d= Z U (if wD=qv then(i.d,qv) else(0,qS)).1/\b= re (!(bR&&(!wD||bD)))/\aq (N+3) W1 wc)
 case first=>
  have vy:S w2.drew:=(y.out _).2 tl.out.drew;cases wD with
  |true=>
   simp only[oB];refine ah 5 S (by kernel_rfl) ?_;refine zT 0 rfl rn.out ?_
   try go_simp
   refine zT 1 rfl rn.out ?_
   try go_simp
   refine zL 2 rfl 38 ⟨N+1,0,qu⟩ tm.out cy ?_
   try go_simp
   refine zT 3 rfl rn.out ?_
   try go_simp
   refine zO 4 rfl λK' G=> ?_;go_simp;have tn:∀c,S (w2.alloc c).drew:=λc=>(y.out _).2 ((tl.out.alloc (by have:=tl.out.size;rw[rB.out] at this;exact this) _).drew);have vp:au (w2.alloc (rj #[Z U i.d] 3)).drew (qt ⟨w2.heap.size,0,qu⟩) [i.d]:=au.one w2 i.d rfl;refine G _ _ (tn _) ?_;clear G
   try go_simp
   refine zK rfl λK' G=> ?_;go_simp;go_at_call 87;refine(tv.out _ (qt ⟨w2.heap.size,0,qu⟩) 1 [i.d] (by simp) vp).mono ?_;rintro e w5 ⟨rfl,vq⟩;have wa:S w5:=(y.out _).2 (((y.out _).1 (tn _)).trans (vq.mono (by have:=((y.out _).1 (tn (rj #[Z U i.d] 3))).size;rw[rB.out] at this;exact this)));rw[tz.out];refine G _ _ ?_;clear G vq tn vy vp
   try go_simp
   cases bD with
   |false=>
    refine aU 6 rfl (by kernel_rfl) (by kernel_rfl) (·=w5) rfl ?_;dsimp only[gh]
    repeat (go_big_quiet_step (fail))
    refine db ?_;rintro _ rfl;go_wp2
    go_meet
    case rel=>exact⟨rfl,by simp,(y.out _).1 wa⟩
   |true=>
    refine dO (S:=S) (k:=12) _ _ _ _ ?_;refine zT 6 rfl rn.out ?_
    try go_simp
    refine zT 7 rfl rn.out ?_
    try go_simp
    refine zT 8 rfl rn.out ?_
    try go_simp
    refine zL 9 rfl 38 ⟨N+1,0,qu⟩ tm.out cy ?_
    try go_simp
    refine zL 10 rfl 42 ⟨N+1+1,0,qu⟩ tB.out cr ?_
    try go_simp
    refine zO 11 rfl λK' G=> ?_;go_simp;go_at_call 88;refine(vc.out _ ((y.out _).1 (by assumption))).mono ?_;rintro e w7 ⟨ro,rc,rfl,sE,sL⟩;have rI:S w7:=(y.out _).2 (((y.out _).1 (by assumption)).trans (sL.mono (by have:=((y.out _).1 (by assumption)).size;rw[rB.out] at this;exact this)));have sR:=sE.at_;refine G _ _ rI ?_;clear G sE sL
    try go_simp
    refine zK rfl λK' G=> ?_;go_simp;go_at_call 87;refine(tv.out _ _ _ _ vd.out sR).mono ?_;rintro e w8 ⟨rfl,sT⟩;have tD:=((y.out _).1 rI).trans (sT.mono (by have:=((y.out _).1 rI).size;rw[rB.out] at this;exact this));rw[rx.out];refine G _ _ ?_;clear G sR sT
    try go_simp
    refine aU 13 rfl (by kernel_rfl) (by kernel_rfl) (·=w8) rfl ?_;dsimp only[gh]
    repeat (go_big_quiet_step (fail))
    refine db ?_;rintro _ rfl;go_wp2
    go_meet
    case rel=>exact⟨rfl,by simp,tD⟩
  |false=>
    simp only[mS,if_false];refine ah 12 S (by kernel_rfl) ?_;refine zT 0 rfl rn.out ?_
    try go_simp
    refine zT 1 rfl rn.out ?_
    try go_simp
    refine zN 2 rfl ?_
    try go_simp
    refine zN 3 rfl ?_
    try go_simp
    refine zN 4 rfl ?_
    try go_simp
    refine zN 5 rfl ?_
    try go_simp
    refine zN 6 rfl ?_
    try go_simp
    refine zT 7 rfl rn.out ?_
    try go_simp
    refine zT 8 rfl rn.out ?_
    try go_simp
    refine zL 9 rfl 38 ⟨N+1,0,qu⟩ tm.out cy ?_
    try go_simp
    refine zL 10 rfl 42 ⟨N+1+1,0,qu⟩ tB.out cr ?_
    try go_simp
    refine zO 11 rfl λK' G=> ?_;go_simp;go_at_call 88;refine(vc.out _ ((y.out _).1 (by assumption))).mono ?_;rintro e w7 ⟨ro,rc,rfl,sE,sL⟩;have rI:S w7:=(y.out _).2 (((y.out _).1 (by assumption)).trans (sL.mono (by have:=((y.out _).1 (by assumption)).size;rw[rB.out] at this;exact this)));have sR:=sE.at_;refine G _ _ rI ?_;clear G sE sL
    try go_simp
    refine zK rfl λK' G=> ?_;go_simp;go_at_call 87;refine(tv.out _ _ _ _ vd.out sR).mono ?_;rintro e w8 ⟨rfl,sT⟩;have tD:=((y.out _).1 rI).trans (sT.mono (by have:=((y.out _).1 rI).size;rw[rB.out] at this;exact this));rw[rx.out];refine G _ _ ?_;clear G sR sT
    try go_simp
    refine aU 13 rfl (by kernel_rfl) (by kernel_rfl) (·=w8) rfl ?_;dsimp only[gh]
    repeat (go_big_quiet_step (fail))
    refine db ?_;rintro _ rfl;go_wp2
    go_meet
    case rel=>exact⟨rfl,by simp,tD⟩
 case rest=>
  obtain⟨rfl,rfl,D⟩:=hcut;have wb:=zH (tt.out wc D);have o:=rv.out wc D;have HV:ca (∀v,isVar g.vs.length v=qv->∃(k b sX:cd) (x:Vr),v=(k:cj)/\k<g.vs.length/\ao=qt ⟨b,sX,qu⟩/\ak g.vs v=(x.ptr,x.tgt)/\∀W,aq (N+3) W1 W->W.cell? ⟨b,sX+k*3,qu⟩=qt (re x.ptr)/\W.cell? ⟨b,sX+k*3+1,qu⟩=qt (qT x.tgt)):=λv hv=>by
   obtain⟨k,b,sX,x,q1,q2,q3,q4,q5,q6,q7⟩:=dw vh.out.vars hv;refine⟨k,b,sX,x,q1,q2,by rw[<-vu.out];exact q3,q5,λW hW=> ?_⟩;have vr:=tt.out W hW;rw[HN.out] at q4;exact⟨by rw[vr.cell (p:=⟨b,_,qu⟩) (show b<N by omega)];exact q6,by rw[vr.cell (p:=⟨b,_,qu⟩) (show b<N by omega)];exact q7⟩
  have we:=vh.out.vl;unfold dl at we;have HO:ca (∀W b f,zP 51 #[re b,Z U f] W (Z U (bv (!b) f))):=λW b f=>aX b f W;have tp:ca (∀W W':World,aq (N+3) W1 W->aq W.heap.size W W'->aq N w W'):=λW W' h1 h2=>tt.out W' (h1.trans (h2.mono (by have:=h1.size;rw[rB.out] at this;exact this)));obtain⟨B,hB⟩:=zE (bR&&(!wD||bD));rw[hB];cases B with
  |false=>
   have sY:ca (R=15):=by unfold ca;rw[<-HR.out];unfold aC;rw[cw sy.out,cI (by rw[sB.out];exact hB)]
   clear o HV hB;obtain⟨wv,vt⟩:=zE ((if wD=qv then(i.d,qv) else(0,qS)):cj×Bool);rw[vt,ot];clear vt tA;go_wp2;go_ret;rw[sY.out,HN.out];exact⟨rfl,wb.out⟩
  |true=>
  rw[px];clear y tm tB rn tl tA va vj;rcases vx.out with q|q|q|q
  ·
   have ew:wD=qv:=by rw[<-ti.out,q];decide
   subst ew;have rm:bR=qv:=(by simpa using hB:_/\_).1;have te:bD=qv:=(by simpa using hB:_/\_).2;have tf:isVar g.vs.length i.d=qv:=by have:=tz.out;rw[te] at this;simpa[aG] using this
   have J:isVar g.vs.length i.a=qv:=eF (by rw[rx.out];exact rm) (by rw[q];decide);have hE:=dK HR sy sB (by rw[rm,te];simp);have i0:=o.i0;rw[q] at i0;have g7:=o.g7;have g2:=o.g2;have i2:=o.i2;obtain⟨ka,tE,tG,xa,rK,rL,rN,rS,K⟩:=HV.out i.a J;have tM:=zH K;obtain⟨a0,a1⟩:=K wc D;clear K;have se:(ka:cj)<(g.vs.length:cj):=by omega
   obtain⟨kd,wg,wi,xd,tP,tR,tS,tU,sf⟩:=HV.out i.d tf;have wj:=zH sf;obtain⟨d0,d1⟩:=sf wc D;clear sf;have tW:(kd:cj)<(g.vs.length:cj):=by omega
   have rl:R=bN m g.vs i i.d qS:=by rw[hE];simp[q,aj]
   have sY:=zH rl;have A:=uW m g i wc (HJ.out wc D) q J tf (tj.out i.a J);rw[<-rl,sx.out] at A;simp only[Mo.cells,gc,Ins.cells] at A;have sk:=zH A;have m0:=o.m0;have m1:=o.m1;have HG:=zH o.gr;have HI:=zH o.ir;clear rl A a0 a1 d0 d1 rK rL rN rS se tP tR tS tU tW;clear q hE hB o rv HV g2 i2
   go_wp2_with (first
    |(refine bo rfl 38 _ rfl (N+1) rfl 38 _ (0,0) _ HG.out cy rfl (by kernel_rfl) ?_)
    |(refine bo rfl 42 _ rfl (N+2) rfl 42 _ (0,0) _ HI.out cr rfl (by kernel_rfl) ?_)
    |(go_at_call 90;refine sk.out.mono ?_;rintro e w9 ⟨rfl,rr⟩;have sn:=zH (tp.out _ _ D rr);clear rr))
   go_ret;rw[HN.out];exact⟨rfl,sn.out⟩
  ·
   have ew:wD=qS:=by rw[<-ti.out,q];decide
   subst ew;have rm:bR=qv:=by simpa using hB
   have J:isVar g.vs.length i.a=qv:=eF (by rw[rx.out];exact rm) (by rw[q];decide);have th:isVar g.vs.length i.b=qv:=uZ (by rw[rx.out];exact rm) (by rw[q];decide);have hE:=dK HR sy sB (by rw[rm];simp);have i0:=o.i0;rw[q] at i0;have g7:=o.g7;have g2:=o.g2;have i2:=o.i2;have i3:=o.i3;obtain⟨ka,tE,tG,xa,rK,rL,rN,rS,K⟩:=HV.out i.a J;have tM:=zH K;obtain⟨a0,a1⟩:=K wc D;clear K;have se:(ka:cj)<(g.vs.length:cj):=by omega
   obtain⟨kb,wk,wl,xb,ua,ub,uc,ud,sq⟩:=HV.out i.b th;have wn:=zH sq;obtain⟨b0,b1⟩:=sq wc D;clear sq;have ue:(kb:cj)<(g.vs.length:cj):=by omega
   have rl:R=bN m g.vs i i.b qS:=by rw[hE];simp[q,aj]
   have sY:=zH rl;have A:=uX m g i wc (HJ.out wc D) q J th (tj.out i.a J);rw[<-rl,sx.out] at A;simp only[Mo.cells,gc,Ins.cells] at A;have sk:=zH A;have m0:=o.m0;have m1:=o.m1;have HG:=zH o.gr;have HI:=zH o.ir;clear rl A a0 a1 b0 b1 rK rL rN rS se ua ub uc ud ue;clear q hE hB o rv HV g2 i2 i3
   go_wp2_with (first
    |(refine bo rfl 38 _ rfl (N+1) rfl 38 _ (0,0) _ HG.out cy rfl (by kernel_rfl) ?_)
    |(refine bo rfl 42 _ rfl (N+2) rfl 42 _ (0,0) _ HI.out cr rfl (by kernel_rfl) ?_)
    |(go_at_call 90;refine sk.out.mono ?_;rintro e w9 ⟨rfl,rr⟩;have sn:=zH (tp.out _ _ D rr);clear rr))
   go_ret;rw[HN.out];exact⟨rfl,sn.out⟩
  ·
   have ew:wD=qv:=by rw[<-ti.out,q];decide
   subst ew;have rm:bR=qv:=(by simpa using hB:_/\_).1;have te:bD=qv:=(by simpa using hB:_/\_).2;have tf:isVar g.vs.length i.d=qv:=by have:=tz.out;rw[te] at this;simpa[aG] using this
   have J:isVar g.vs.length i.a=qv:=eF (by rw[rx.out];exact rm) (by rw[q];decide);have hE:=dK HR sy sB (by rw[rm,te];simp);have i0:=o.i0;rw[q] at i0;have g7:=o.g7;have g2:=o.g2;have i2:=o.i2;obtain⟨ka,tE,tG,xa,rK,rL,rN,rS,K⟩:=HV.out i.a J;have tM:=zH K;obtain⟨a0,a1⟩:=K wc D;clear K;have se:(ka:cj)<(g.vs.length:cj):=by omega
   obtain⟨kd,wg,wi,xd,tP,tR,tS,tU,sf⟩:=HV.out i.d tf;have wj:=zH sf;obtain⟨d0,d1⟩:=sf wc D;clear sf;have tW:(kd:cj)<(g.vs.length:cj):=by omega
   have rl:R=bN m g.vs i i.d qv:=by rw[hE];simp[q,aj]
   have sY:=zH rl;have A:=rT m g i wc (HJ.out wc D) q J tf (tj.out i.a J);rw[<-rl,sx.out] at A;simp only[Mo.cells,gc,Ins.cells] at A;have sk:=zH A;have m0:=o.m0;have m1:=o.m1;have HG:=zH o.gr;have HI:=zH o.ir;clear rl A a0 a1 d0 d1 rK rL rN rS se tP tR tS tU tW;clear q hE hB o rv HV g2 i2
   go_wp2_with (first
    |(refine bo rfl 38 _ rfl (N+1) rfl 38 _ (0,0) _ HG.out cy rfl (by kernel_rfl) ?_)
    |(refine bo rfl 42 _ rfl (N+2) rfl 42 _ (0,0) _ HI.out cr rfl (by kernel_rfl) ?_)
    |(go_at_call 90;refine sk.out.mono ?_;rintro e w9 ⟨rfl,rr⟩;have sn:=zH (tp.out _ _ D rr);clear rr))
   go_ret;rw[HN.out];exact⟨rfl,sn.out⟩
  ·
   have ew:wD=qS:=by rw[<-ti.out,q];decide
   subst ew;have rm:bR=qv:=by simpa using hB
   have J:isVar g.vs.length i.a=qv:=eF (by rw[rx.out];exact rm) (by rw[q];decide);have th:isVar g.vs.length i.b=qv:=uZ (by rw[rx.out];exact rm) (by rw[q];decide);have hE:=dK HR sy sB (by rw[rm];simp);have i0:=o.i0;rw[q] at i0;have g7:=o.g7;have g2:=o.g2;have i2:=o.i2;have i3:=o.i3;obtain⟨ka,tE,tG,xa,rK,rL,rN,rS,K⟩:=HV.out i.a J;have tM:=zH K;obtain⟨a0,a1⟩:=K wc D;clear K;have se:(ka:cj)<(g.vs.length:cj):=by omega
   obtain⟨kb,wk,wl,xb,ua,ub,uc,ud,sq⟩:=HV.out i.b th;have wn:=zH sq;obtain⟨b0,b1⟩:=sq wc D;clear sq;have ue:(kb:cj)<(g.vs.length:cj):=by omega
   have rl:R=bN m g.vs i i.b qv:=by rw[hE];simp[q,aj]
   have sY:=zH rl;have A:=rU m g i wc (HJ.out wc D) q J th (tj.out i.a J);rw[<-rl,sx.out] at A;simp only[Mo.cells,gc,Ins.cells] at A;have sk:=zH A;have m0:=o.m0;have m1:=o.m1;have HG:=zH o.gr;have HI:=zH o.ir;clear rl A a0 a1 b0 b1 rK rL rN rS se ua ub uc ud ue;clear q hE hB o rv HV g2 i2 i3
   go_wp2_with (first
    |(refine bo rfl 38 _ rfl (N+1) rfl 38 _ (0,0) _ HG.out cy rfl (by kernel_rfl) ?_)
    |(refine bo rfl 42 _ rfl (N+2) rfl 42 _ (0,0) _ HI.out cr rfl (by kernel_rfl) ?_)
    |(go_at_call 90;refine sk.out.mono ?_;rintro e w9 ⟨rfl,rr⟩;have sn:=zH (tp.out _ _ D rr);clear rr))
   go_ret;rw[HN.out];exact⟨rfl,sn.out⟩
theorem sj (m:Mo)(g:Fn)(i:Ins)(w:World)(h:mr w m g)(hi:i.args_in w)(se:i.args.length<=40)(tG:∀v,isVar g.vs.length v=qv->m.known (ak g.vs v)=qv)(D:i.op=15):
  zP 49 #[rh m.cells,rh g.cells,rh i.cells] w (Z U (aC m g i)):=by
 obtain⟨ao,N,G,hN,sE,sf,HN,J,sL,tM,rl,sk,HJ,tP,sn,sR,sT,sX⟩:=eO h hi se;obtain⟨wD,bD,bR,o1,o2,sY,te,sq,tR,sr,tf⟩:=eT (g:=g) (i:=i) (by omega) (by omega);rw[sL.out];simp only[Mo.cells,gc,Ins.cells] at sf⊢;have th:=zH sf;obtain⟨R,hR⟩:=zE (aC m g i);rw[hR];have HR:=zH hR;have tS:=zH se;have ti:=zH h;have tU:=zH D;have tj:=rl.out G (an _ _);have tl:=zH tj.ir;clear h hi se tG sf hR D;have tm:G.heap.size=N+3:=sE;go_enter func49,qn
 go_upto_region 1 with(fail)
 rw[th.out];clear th tj hN
 go_upto_region 2 with(first
  |(refine bo rfl 42 _ rfl (N+2) rfl 42 _ (0,0) _ tl.out cr rfl (by kernel_rfl) ?_)
  |(go_at_call 86;refine(sR.out _).mono ?_;rintro e w2 ⟨rfl,rm⟩;have tn:=zH rm;clear rm))
 have rm:aq (N+3) G w2:=by have:=tn.out;rwa [tm] at this
 have i0:=(rl.out w2 rm).i0;have rK:=zH rm;clear rm tm sE tn;rw[sr.out]
 go_upto_region 4 with(fail)
 clear i0 o1 o2;obtain⟨S,hS⟩:∃S:World->Prop,S=aq (N+3) G:=⟨_,rfl⟩
 have o:ca (∀w',S w'↔aq (N+3) G w'):=λw'=>by rw[hS]
 have rL:ca (∀w',S w'->∀j u,(#[qT g.c.nm,Z U g.c.par,ra ao g.vs.length g.c.varsC,re g.c.rp,qT g.c.rto,Z U g.c.rcl,ra g.c.fromA g.c.nfrom g.c.fromC,ra g.c.insA g.c.ins.length g.c.insC]:cG bw).toList[j]?=qt u->w'.cell? ((⟨N+1,0,qu⟩:oA).add j)=qt u):=λw' h=>cK (rl.out w' ((o.out w').1 h)).gr;have sx:ca (∀w',S w'->∀j u,(#[Z U i.op,Z U i.d,Z U i.a,Z U i.b,Z U i.f,Z U i.n,qT i.sign,i.argsV,i.modeV,Z U i.tI,Z U i.els,Z U i.ln,Z U i.cl]:cG bw).toList[j]?=qt u->w'.cell? ((⟨N+1+1,0,qu⟩:oA).add j)=qt u):=λw' h=>cK (rl.out w' ((o.out w').1 h)).ir;have y:ca (∀w',S w'->True/\True):=λ_ _=>⟨trivial,trivial⟩
 clear hS
 go_cut [7,37] from 23 to 37 (λd b wc=>d= Z U (if wD=qv then(i.d,qv) else(0,qS)).1/\b= re (!(bR&&(!wD||bD)))/\aq (N+3) G wc)
 case first=>
  have tW:S w2.drew:=(o.out _).2 rK.out.drew;cases wD with
  |true=>
   simp only[oB];refine ah 5 S (by kernel_rfl) ?_;refine zT 0 rfl y.out ?_
   try go_simp
   refine zT 1 rfl y.out ?_
   try go_simp
   refine zL 2 rfl 38 ⟨N+1,0,qu⟩ rL.out cy ?_
   try go_simp
   refine zT 3 rfl y.out ?_
   try go_simp
   refine zO 4 rfl λK' q=> ?_;go_simp;have rN:∀c,S (w2.alloc c).drew:=λc=>(o.out _).2 ((rK.out.alloc (by have:=rK.out.size;rw[J.out] at this;exact this) _).drew);have tp:au (w2.alloc (rj #[Z U i.d] 3)).drew (qt ⟨w2.heap.size,0,qu⟩) [i.d]:=au.one w2 i.d rfl;refine q _ _ (rN _) ?_;clear q
   try go_simp
   refine zK rfl λK' q=> ?_;go_simp;go_at_call 87;refine(sn.out _ (qt ⟨w2.heap.size,0,qu⟩) 1 [i.d] (by simp) tp).mono ?_;rintro e w5 ⟨rfl,tr⟩;have ua:S w5:=(o.out _).2 (((o.out _).1 (rN _)).trans (tr.mono (by have:=((o.out _).1 (rN (rj #[Z U i.d] 3))).size;rw[J.out] at this;exact this)));rw[te.out];refine q _ _ ?_;clear q tr rN tW tp
   try go_simp
   cases bD with
   |false=>
    refine aU 6 rfl (by kernel_rfl) (by kernel_rfl) (·=w5) rfl ?_;dsimp only[gh]
    repeat (go_big_quiet_step (fail))
    refine db ?_;rintro _ rfl;go_wp2
    go_meet
    case rel=>exact⟨rfl,by simp,(o.out _).1 ua⟩
   |true=>
    refine dO (S:=S) (k:=12) _ _ _ _ ?_;refine zT 6 rfl y.out ?_
    try go_simp
    refine zT 7 rfl y.out ?_
    try go_simp
    refine zT 8 rfl y.out ?_
    try go_simp
    refine zL 9 rfl 38 ⟨N+1,0,qu⟩ rL.out cy ?_
    try go_simp
    refine zL 10 rfl 42 ⟨N+1+1,0,qu⟩ sx.out cr ?_
    try go_simp
    refine zO 11 rfl λK' q=> ?_;go_simp;go_at_call 88;refine(sT.out _ ((o.out _).1 (by assumption))).mono ?_;rintro e w7 ⟨ro,rc,rfl,rr,rv⟩;have K:S w7:=(o.out _).2 (((o.out _).1 (by assumption)).trans (rv.mono (by have:=((o.out _).1 (by assumption)).size;rw[J.out] at this;exact this)));have rx:=rr.at_;refine q _ _ K ?_;clear q rr rv
    try go_simp
    refine zK rfl λK' q=> ?_;go_simp;go_at_call 87;refine(sn.out _ _ _ _ sX.out rx).mono ?_;rintro e w8 ⟨rfl,rB⟩;have sy:=((o.out _).1 K).trans (rB.mono (by have:=((o.out _).1 K).size;rw[J.out] at this;exact this));rw[sq.out];refine q _ _ ?_;clear q rx rB
    try go_simp
    refine aU 13 rfl (by kernel_rfl) (by kernel_rfl) (·=w8) rfl ?_;dsimp only[gh]
    repeat (go_big_quiet_step (fail))
    refine db ?_;rintro _ rfl;go_wp2
    go_meet
    case rel=>exact⟨rfl,by simp,sy⟩
  |false=>
    simp only[mS,if_false];refine ah 12 S (by kernel_rfl) ?_;refine zT 0 rfl y.out ?_
    try go_simp
    refine zT 1 rfl y.out ?_
    try go_simp
    refine zN 2 rfl ?_
    try go_simp
    refine zN 3 rfl ?_
    try go_simp
    refine zN 4 rfl ?_
    try go_simp
    refine zN 5 rfl ?_
    try go_simp
    refine zN 6 rfl ?_
    try go_simp
    refine zT 7 rfl y.out ?_
    try go_simp
    refine zT 8 rfl y.out ?_
    try go_simp
    refine zL 9 rfl 38 ⟨N+1,0,qu⟩ rL.out cy ?_
    try go_simp
    refine zL 10 rfl 42 ⟨N+1+1,0,qu⟩ sx.out cr ?_
    try go_simp
    refine zO 11 rfl λK' q=> ?_;go_simp;go_at_call 88;refine(sT.out _ ((o.out _).1 (by assumption))).mono ?_;rintro e w7 ⟨ro,rc,rfl,rr,rv⟩;have K:S w7:=(o.out _).2 (((o.out _).1 (by assumption)).trans (rv.mono (by have:=((o.out _).1 (by assumption)).size;rw[J.out] at this;exact this)));have rx:=rr.at_;refine q _ _ K ?_;clear q rr rv
    try go_simp
    refine zK rfl λK' q=> ?_;go_simp;go_at_call 87;refine(sn.out _ _ _ _ sX.out rx).mono ?_;rintro e w8 ⟨rfl,rB⟩;have sy:=((o.out _).1 K).trans (rB.mono (by have:=((o.out _).1 K).size;rw[J.out] at this;exact this));rw[sq.out];refine q _ _ ?_;clear q rx rB
    try go_simp
    refine aU 13 rfl (by kernel_rfl) (by kernel_rfl) (·=w8) rfl ?_;dsimp only[gh]
    repeat (go_big_quiet_step (fail))
    refine db ?_;rintro _ rfl;go_wp2
    go_meet
    case rel=>exact⟨rfl,by simp,sy⟩
 case rest=>
  obtain⟨rfl,rfl,rn⟩:=hcut;have ub:=zH (sk.out wc rn);have A:=rl.out wc rn;have HV:ca (∀v,isVar g.vs.length v=qv->∃(k b rI:cd) (x:Vr),v=(k:cj)/\k<g.vs.length/\ao=qt ⟨b,rI,qu⟩/\ak g.vs v=(x.ptr,x.tgt)/\∀W,aq (N+3) G W->W.cell? ⟨b,rI+k*3,qu⟩=qt (re x.ptr)/\W.cell? ⟨b,rI+k*3+1,qu⟩=qt (qT x.tgt)):=λv hv=>by
   obtain⟨k,b,rI,x,q1,q2,q3,q4,q5,q6,q7⟩:=dw ti.out.vars hv;refine⟨k,b,rI,x,q1,q2,by rw[<-tM.out];exact q3,q5,λW hW=> ?_⟩;have tt:=sk.out W hW;rw[HN.out] at q4;exact⟨by rw[tt.cell (p:=⟨b,_,qu⟩) (show b<N by omega)];exact q6,by rw[tt.cell (p:=⟨b,_,qu⟩) (show b<N by omega)];exact q7⟩
  have uc:=ti.out.vl;unfold dl at uc;have HO:ca (∀W b f,zP 51 #[re b,Z U f] W (Z U (bv (!b) f))):=λW b f=>aX b f W;have ud:ca (∀W W':World,aq (N+3) G W->aq W.heap.size W W'->aq N w W'):=λW W' h1 h2=>sk.out W' (h1.trans (h2.mono (by have:=h1.size;rw[J.out] at this;exact this)));obtain⟨B,hB⟩:=zE (bR&&(!wD||bD));rw[hB];cases B with
  |false=>
   have ue:ca (R=15):=by unfold ca;rw[<-HR.out];unfold aC;rw[cw sY.out,cI (by rw[tf.out];exact hB)]
   clear A HV hB;obtain⟨wv,tv⟩:=zE ((if wD=qv then(i.d,qv) else(0,qS)):cj×Bool);rw[tv,ot];clear tv sr;go_wp2;go_ret;rw[ue.out,HN.out];exact⟨rfl,ub.out⟩
  |true=>
  rw[px];clear o rL sx y rK sr sR tl;have D:=tU.out
  ·
   have ew:wD=qv:=by rw[<-tR.out,D];decide
   subst ew;have tz:bR=qv:=(by simpa using hB:_/\_).1;have tA:bD=qv:=(by simpa using hB:_/\_).2;have tB:isVar g.vs.length i.d=qv:=by have:=te.out;rw[tA] at this;simpa[aG] using this
   have hE:=dK HR sY tf (by rw[tz,tA];simp);have i0:=A.i0;rw[D] at i0;have g7:=A.g7;have g2:=A.g2;obtain⟨kd,vh,vi,xd,ur,uv,ux,va,sB⟩:=HV.out i.d tB;have vj:=zH sB;obtain⟨d0,d1⟩:=sB wc rn;clear sB;have vc:(kd:cj)<(g.vs.length:cj):=by omega
   have tD:R=gD m g.vs i:=by rw[hE,cI D]
   have rS:=wZ m g i wc (HJ.out wc rn) (tP.out wc rn) (by have:=tS.out;unfold dl;omega) tB (yH (by rw[sq.out];exact tz) D);rw[<-tD,sL.out] at rS;simp only[Mo.cells,gc,Ins.cells] at rS;have vd:=zH rS;have m0:=A.m0;have m1:=A.m1;have HG:=zH A.gr;have HI:=zH A.ir;clear tD rS d0 d1 g2 ur uv ux va vc;clear D hE hB A rl HV
   go_wp2_with (first
    |(refine bo rfl 38 _ rfl (N+1) rfl 38 _ (0,0) _ HG.out cy rfl (by kernel_rfl) ?_)
    |(refine bo rfl 42 _ rfl (N+2) rfl 42 _ (0,0) _ HI.out cr rfl (by kernel_rfl) ?_)
    |(go_at_call 91;refine vd.out.mono ?_;rintro e w9 ⟨rfl,tE⟩;have vf:=zH (ud.out _ _ rn tE);clear tE))
   go_ret;rw[HN.out];exact⟨rfl,vf.out⟩
theorem su (m:Mo)(g:Fn)(i:Ins)(w:World)(h:mr w m g)(hi:i.args_in w)(sL:i.args.length<=40)(tD:∀v,isVar g.vs.length v=qv->m.known (ak g.vs v)=qv)(G:i.op=17):
  zP 49 #[rh m.cells,rh g.cells,rh i.cells] w (Z U (aC m g i)):=by
 obtain⟨ao,N,J,hN,sR,sk,HN,rl,tE,tG,rn,sn,HJ,uv,sq,sT,sX,sY⟩:=eO h hi sL;obtain⟨wD,bD,bR,o1,o2,te,tM,sr,tP,sx,tf⟩:=eT (g:=g) (i:=i) (by omega) (by omega);rw[tE.out];simp only[Mo.cells,gc,Ins.cells] at sk⊢;have th:=zH sk;obtain⟨R,hR⟩:=zE (aC m g i);rw[hR];have HR:=zH hR;have ti:=zH h;have tR:=zH G;have tj:=rn.out J (an _ _);have tl:=zH tj.ir;clear h hi sL tD sk hR G;have tm:J.heap.size=N+3:=sR;go_enter func49,qn
 go_upto_region 1 with(fail)
 rw[th.out];clear th tj hN
 go_upto_region 2 with(first
  |(refine bo rfl 42 _ rfl (N+2) rfl 42 _ (0,0) _ tl.out cr rfl (by kernel_rfl) ?_)
  |(go_at_call 86;refine(sT.out _).mono ?_;rintro e w2 ⟨rfl,rr⟩;have tn:=zH rr;clear rr))
 have rr:aq (N+3) J w2:=by have:=tn.out;rwa [tm] at this
 have i0:=(rn.out w2 rr).i0;have rN:=zH rr;clear rr tm sR tn;rw[sx.out]
 go_upto_region 4 with(fail)
 clear i0 o1 o2;obtain⟨S,hS⟩:∃S:World->Prop,S=aq (N+3) J:=⟨_,rfl⟩
 have o:ca (∀w',S w'↔aq (N+3) J w'):=λw'=>by rw[hS]
 have rS:ca (∀w',S w'->∀j u,(#[qT g.c.nm,Z U g.c.par,ra ao g.vs.length g.c.varsC,re g.c.rp,qT g.c.rto,Z U g.c.rcl,ra g.c.fromA g.c.nfrom g.c.fromC,ra g.c.insA g.c.ins.length g.c.insC]:cG bw).toList[j]?=qt u->w'.cell? ((⟨N+1,0,qu⟩:oA).add j)=qt u):=λw' h=>cK (rn.out w' ((o.out w').1 h)).gr;have sy:ca (∀w',S w'->∀j u,(#[Z U i.op,Z U i.d,Z U i.a,Z U i.b,Z U i.f,Z U i.n,qT i.sign,i.argsV,i.modeV,Z U i.tI,Z U i.els,Z U i.ln,Z U i.cl]:cG bw).toList[j]?=qt u->w'.cell? ((⟨N+1+1,0,qu⟩:oA).add j)=qt u):=λw' h=>cK (rn.out w' ((o.out w').1 h)).ir;have A:ca (∀w',S w'->True/\True):=λ_ _=>⟨trivial,trivial⟩
 clear hS
 go_cut [7,37] from 23 to 37 (λd b wc=>d= Z U (if wD=qv then(i.d,qv) else(0,qS)).1/\b= re (!(bR&&(!wD||bD)))/\aq (N+3) J wc)
 case first=>
  have tS:S w2.drew:=(o.out _).2 rN.out.drew;cases wD with
  |true=>
   simp only[oB];refine ah 5 S (by kernel_rfl) ?_;refine zT 0 rfl A.out ?_
   try go_simp
   refine zT 1 rfl A.out ?_
   try go_simp
   refine zL 2 rfl 38 ⟨N+1,0,qu⟩ rS.out cy ?_
   try go_simp
   refine zT 3 rfl A.out ?_
   try go_simp
   refine zO 4 rfl λK' q=> ?_;go_simp;have se:∀c,S (w2.alloc c).drew:=λc=>(o.out _).2 ((rN.out.alloc (by have:=rN.out.size;rw[rl.out] at this;exact this) _).drew);have tp:au (w2.alloc (rj #[Z U i.d] 3)).drew (qt ⟨w2.heap.size,0,qu⟩) [i.d]:=au.one w2 i.d rfl;refine q _ _ (se _) ?_;clear q
   try go_simp
   refine zK rfl λK' q=> ?_;go_simp;go_at_call 87;refine(sq.out _ (qt ⟨w2.heap.size,0,qu⟩) 1 [i.d] (by simp) tp).mono ?_;rintro e w5 ⟨rfl,tr⟩;have tU:S w5:=(o.out _).2 (((o.out _).1 (se _)).trans (tr.mono (by have:=((o.out _).1 (se (rj #[Z U i.d] 3))).size;rw[rl.out] at this;exact this)));rw[tM.out];refine q _ _ ?_;clear q tr se tS tp
   try go_simp
   cases bD with
   |false=>
    refine aU 6 rfl (by kernel_rfl) (by kernel_rfl) (·=w5) rfl ?_;dsimp only[gh]
    repeat (go_big_quiet_step (fail))
    refine db ?_;rintro _ rfl;go_wp2
    go_meet
    case rel=>exact⟨rfl,by simp,(o.out _).1 tU⟩
   |true=>
    refine dO (S:=S) (k:=12) _ _ _ _ ?_;refine zT 6 rfl A.out ?_
    try go_simp
    refine zT 7 rfl A.out ?_
    try go_simp
    refine zT 8 rfl A.out ?_
    try go_simp
    refine zL 9 rfl 38 ⟨N+1,0,qu⟩ rS.out cy ?_
    try go_simp
    refine zL 10 rfl 42 ⟨N+1+1,0,qu⟩ sy.out cr ?_
    try go_simp
    refine zO 11 rfl λK' q=> ?_;go_simp;go_at_call 88;refine(sX.out _ ((o.out _).1 (by assumption))).mono ?_;rintro e w7 ⟨ro,rc,rfl,rv,rx⟩;have rm:S w7:=(o.out _).2 (((o.out _).1 (by assumption)).trans (rx.mono (by have:=((o.out _).1 (by assumption)).size;rw[rl.out] at this;exact this)));have rB:=rv.at_;refine q _ _ rm ?_;clear q rv rx
    try go_simp
    refine zK rfl λK' q=> ?_;go_simp;go_at_call 87;refine(sq.out _ _ _ _ sY.out rB).mono ?_;rintro e w8 ⟨rfl,rI⟩;have sB:=((o.out _).1 rm).trans (rI.mono (by have:=((o.out _).1 rm).size;rw[rl.out] at this;exact this));rw[sr.out];refine q _ _ ?_;clear q rB rI
    try go_simp
    refine aU 13 rfl (by kernel_rfl) (by kernel_rfl) (·=w8) rfl ?_;dsimp only[gh]
    repeat (go_big_quiet_step (fail))
    refine db ?_;rintro _ rfl;go_wp2
    go_meet
    case rel=>exact⟨rfl,by simp,sB⟩
  |false=>
    simp only[mS,if_false];refine ah 12 S (by kernel_rfl) ?_;refine zT 0 rfl A.out ?_
    try go_simp
    refine zT 1 rfl A.out ?_
    try go_simp
    refine zN 2 rfl ?_
    try go_simp
    refine zN 3 rfl ?_
    try go_simp
    refine zN 4 rfl ?_
    try go_simp
    refine zN 5 rfl ?_
    try go_simp
    refine zN 6 rfl ?_
    try go_simp
    refine zT 7 rfl A.out ?_
    try go_simp
    refine zT 8 rfl A.out ?_
    try go_simp
    refine zL 9 rfl 38 ⟨N+1,0,qu⟩ rS.out cy ?_
    try go_simp
    refine zL 10 rfl 42 ⟨N+1+1,0,qu⟩ sy.out cr ?_
    try go_simp
    refine zO 11 rfl λK' q=> ?_;go_simp;go_at_call 88;refine(sX.out _ ((o.out _).1 (by assumption))).mono ?_;rintro e w7 ⟨ro,rc,rfl,rv,rx⟩;have rm:S w7:=(o.out _).2 (((o.out _).1 (by assumption)).trans (rx.mono (by have:=((o.out _).1 (by assumption)).size;rw[rl.out] at this;exact this)));have rB:=rv.at_;refine q _ _ rm ?_;clear q rv rx
    try go_simp
    refine zK rfl λK' q=> ?_;go_simp;go_at_call 87;refine(sq.out _ _ _ _ sY.out rB).mono ?_;rintro e w8 ⟨rfl,rI⟩;have sB:=((o.out _).1 rm).trans (rI.mono (by have:=((o.out _).1 rm).size;rw[rl.out] at this;exact this));rw[sr.out];refine q _ _ ?_;clear q rB rI
    try go_simp
    refine aU 13 rfl (by kernel_rfl) (by kernel_rfl) (·=w8) rfl ?_;dsimp only[gh]
    repeat (go_big_quiet_step (fail))
    refine db ?_;rintro _ rfl;go_wp2
    go_meet
    case rel=>exact⟨rfl,by simp,sB⟩
 case rest=>
  obtain⟨rfl,rfl,sf⟩:=hcut;have rK:=zH (sn.out wc sf);have K:=rn.out wc sf;have HV:ca (∀v,isVar g.vs.length v=qv->∃(k b rL:cd) (x:Vr),v=(k:cj)/\k<g.vs.length/\ao=qt ⟨b,rL,qu⟩/\ak g.vs v=(x.ptr,x.tgt)/\∀W,aq (N+3) J W->W.cell? ⟨b,rL+k*3,qu⟩=qt (re x.ptr)/\W.cell? ⟨b,rL+k*3+1,qu⟩=qt (qT x.tgt)):=λv hv=>by
   obtain⟨k,b,rL,x,q1,q2,q3,q4,q5,q6,q7⟩:=dw ti.out.vars hv;refine⟨k,b,rL,x,q1,q2,by rw[<-tG.out];exact q3,q5,λW hW=> ?_⟩;have tt:=sn.out W hW;rw[HN.out] at q4;exact⟨by rw[tt.cell (p:=⟨b,_,qu⟩) (show b<N by omega)];exact q6,by rw[tt.cell (p:=⟨b,_,qu⟩) (show b<N by omega)];exact q7⟩
  have tW:=ti.out.vl;unfold dl at tW;have HO:ca (∀W b f,zP 51 #[re b,Z U f] W (Z U (bv (!b) f))):=λW b f=>aX b f W;have ua:ca (∀W W':World,aq (N+3) J W->aq W.heap.size W W'->aq N w W'):=λW W' h1 h2=>sn.out W' (h1.trans (h2.mono (by have:=h1.size;rw[rl.out] at this;exact this)));obtain⟨B,hB⟩:=zE (bR&&(!wD||bD));rw[hB];cases B with
  |false=>
   have y:ca (R=15):=by unfold ca;rw[<-HR.out];unfold aC;rw[cw te.out,cI (by rw[tf.out];exact hB)]
   clear K HV hB;obtain⟨wv,tv⟩:=zE ((if wD=qv then(i.d,qv) else(0,qS)):cj×Bool);rw[tv,ot];clear tv sx;go_wp2;go_ret;rw[y.out,HN.out];exact⟨rfl,rK.out⟩
  |true=>
  rw[px];clear o rS sy A rN sx sT tl;have G:=tR.out
  ·
   have ew:wD=qS:=by rw[<-tP.out,G];decide
   subst ew;have tz:bR=qv:=by simpa using hB
   have ub:isVar g.vs.length i.a=qv:=eF (by rw[sr.out];exact tz) (by rw[G];decide);have hE:=dK HR te tf (by rw[tz];simp);have i0:=K.i0;rw[G] at i0;have g7:=K.g7;have g2:=K.g2;have i2:=K.i2;obtain⟨ka,ux,va,xa,uc,vc,ud,tA,sE⟩:=HV.out i.a ub;have vd:=zH sE;obtain⟨a0,a1⟩:=sE wc sf;clear sE;have vf:(ka:cj)<(g.vs.length:cj):=by omega
   subst ud;rw[uc] at i2;obtain⟨pa,ue⟩:=zE xa.ptr;rw[ue] at a0 tA;have i9:=K.i9;have i10:=K.i10;obtain⟨n,hn⟩:=zE g.c.ins.length;obtain⟨t,ht⟩:=zE i.tI;obtain⟨u,hu⟩:=zE i.els;rw[ht] at i9;rw[hu] at i10;rw[hn] at g7;have y:ca (R=if isVar n t&&isVar n u then bv (!pa) 7 else 15):=by unfold ca;rw[hE];simp[G,hn,ht,hu,dB,tA]
   clear G hE hB K rn HV
   by_cases t0:t<0
   ·have e0:decide (t<0)=qv:=dy t0
    have D:ca (R=15):=by unfold ca;rw[y.out,cw (by unfold isVar;simp;omega)]
    clear y;go_wp2;go_ret;rw[D.out,HN.out];exact⟨rfl,rK.out⟩
   have e0:decide (t<0)=qS:=cv t0
   by_cases t1:(n:cj)<=t
   ·have e1:decide ((n:cj)<=t)=qv:=dy t1
    have D:ca (R=15):=by unfold ca;rw[y.out,cw (by unfold isVar;simp;omega)]
    clear y;go_wp2;go_ret;rw[D.out,HN.out];exact⟨rfl,rK.out⟩
   have e1:decide ((n:cj)<=t)=qS:=cv t1
   by_cases u0:u<0
   ·have e2:decide (u<0)=qv:=dy u0
    have D:ca (R=15):=by unfold ca;rw[y.out,cw (by unfold isVar;simp;omega)]
    clear y;go_wp2;go_ret;rw[D.out,HN.out];exact⟨rfl,rK.out⟩
   have e2:decide (u<0)=qS:=cv u0
   by_cases u1:(n:cj)<=u
   ·have e3:decide ((n:cj)<=u)=qv:=dy u1
    have D:ca (R=15):=by unfold ca;rw[y.out,cw (by unfold isVar;simp;omega)]
    clear y;go_wp2;go_ret;rw[D.out,HN.out];exact⟨rfl,rK.out⟩
   have e3:decide ((n:cj)<=u)=qS:=cv u1;have D:ca (R=bv (!pa) 7):=by unfold ca;rw[y.out,cI (by rw[dJ.2 ⟨by omega,by omega⟩,dJ.2 ⟨by omega,by omega⟩];rfl)]
   clear y
   go_wp2_with (go_at_call 51;refine(HO.out _ _ _).mono ?_;rintro e w9 ⟨rfl,tB⟩;have ur:=zH (ua.out _ _ sf tB);clear tB)
   go_ret;rw[D.out,HN.out];exact⟨rfl,ur.out⟩
theorem pU (m:Mo)(g:Fn)(i:Ins)(w:World)(h:mr w m g)(d:i.args_in w)(f:i.args.length<=40)(o:∀v,isVar g.vs.length v=qv->m.known (ak g.vs v)=qv):
  zP 49 #[rh m.cells,rh g.cells,rh i.cells] w (Z U (aC m g i)):=by
 by_cases h0:i.op<1\/18<i.op
 ·exact rV m g i w h d f o h0
 by_cases q:i.op=1\/i.op=2\/i.op=3\/i.op=5\/i.op=6
 ·exact rW m g i w h d f o q
 by_cases u:i.op=4\/i.op=13\/i.op=14\/i.op=16
 ·exact rX m g i w h d f o u
 by_cases y:i.op=9\/i.op=12\/i.op=18
 ·exact rY m g i w h d f o y
 by_cases A:i.op=15
 ·exact sj m g i w h d f o A
 by_cases D:i.op=17
 ·exact su m g i w h d f o D
 ·exact rZ m g i w h d f o (by omega)
end Go.Proofs.YtjomgckjhcfbgaaGreat
