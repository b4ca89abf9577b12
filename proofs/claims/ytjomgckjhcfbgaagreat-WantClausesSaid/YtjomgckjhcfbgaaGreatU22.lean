/- Walks. -/
import Derived.Test.YtjomgckjhcfbgaaGreatRows
import Derived.ProofKit
import Derived.ChangeSame
import Derived.Test.YtjomgckjhcfbgaaGreatU13
import Derived.Test.YtjomgckjhcfbgaaGreatU21
set_option maxRecDepth 100000
set_option maxHeartbeats 64000000
set_option linter.all false
namespace Go.Proofs.YtjomgckjhcfbgaaGreat
open Go.RowKit
open Go.Proofs.Tryz renaming prog→am,underlying4→nj
open _root_.List renaming getElem?_eq_getElem→ap,mem_append→cX,length_map→dy,mem_map→gi
open Go.RowKit.Below renaming refl→aq
open _root_ renaming Int→aw,Nat→bh,List→bj,decide_eq_false→cv,Option→cG,decide_eq_true→cV,Array→eA,absurd→fL,beq_self_eq_true→iS,Bool→mm,and_true→pf,bne_iff_ne→pp
open Go.RowKit renaming Below→aE,Hid→cj,intOf→de
open _root_.Nat renaming le_refl→cg,le_trans→eJ,le_succ→i5
open Go.Value renaming oneCell'→ct,slice→tU,pointer→tW,bool→ua,agg→ub,int→Z
open Go renaming run_storeCells_new→cx,Value→cA,storeCells→dt,Addr→fS,Calls→ge,TypeId→gt,Program→lr,MemPlace→n9
open _root_.Option.some renaming injEq→dd
open _root_.Prod renaming fst→eN,snd→fh
open Go.Addr.mk renaming injEq→eR
open Go.DataW renaming trod→kO
open _root_.Option renaming some→tG,none→tM
open _root_.Bool renaming true→tP,false→tR
open Go.Obj renaming cells→uc
open Go.Ending renaming returned→ud
open Go.IntKind renaming i64→U
open Go.Proofs.Tryz
theorem Dq {w:World}{m:Mo}(d:m.inn w)(e:m.shortW):m.ptrs.length*m.fs.length+124*aO m.fs<=200000:=by
 obtain⟨f,_,_,_,_,g⟩:=e;have h:=ou m.fs 0 d.fin;have j:m.ptrs.length+aO m.fs<=1212:=by
  show(bY 0 m.fs).length+_<=_
  omega
 have o:m.ptrs.length*m.fs.length<=1212*12:=Nat.mul_le_mul (by omega) f;omega
theorem BC {w:World}{N:aw}{a:cG fS}{n k:bh}:∀(c:eA cA),c.size=2->(dt ⟨w.heap.size,0,tM⟩ [Z U N,tU a n k] 0).run am (w.alloc (uc c 52))= .ok () (w.alloc (uc #[Z U N,tU a n k] 52)):=λc d=>
 cx (P:=am) w 52 c #[Z U N,tU a n k] (by show _=tG 2;kernel_rfl) d (by simp[ct])
theorem wantClauses_calls (m:Mo)(w:World)(hm:m.inn w)(At:∀g∈m.fs,∀i∈g.c.ins,i.wfs):
  zP 4 #[ub m.cells] w (ua tP):=by
 obtain⟨N,hN⟩:=zE w.heap.size;obtain⟨W1,vt⟩:=zE (w.alloc (uc m.cells 25));have Ax:=iR vt hN;have CN:W1.heap.size=N+1:=by rw[<-vt];simp[hN]
 have q1:W1.heap[N]?=tG (uc m.cells 25 (0,0)):=by rw[<-vt,<-hN];exact alloc_at _ _
 have R:cj (∀W,aE W1.heap.size W1 W->W.cell? ⟨N,0,tM⟩=tG (tU m.sA m.ss.length m.sC)/\W.cell? ⟨N,1,tM⟩=tG (tU m.fA m.fs.length m.fC)/\m.inn W/\aE N w W/\W.heap[N]?=tG (uc m.cells 25 (0,0))):=λW f=>by
  have h1:=(f.block N (by omega)).trans q1;have h3:=Ax.trans (f.mono (by omega));exact⟨zR h1 0 _,zR h1 1 _,hm.below (by rw[hN];exact h3),h3,h1⟩
 obtain⟨c0,c1,AD,_⟩:=R.out W1 (aq _ _);have ye:=zH (vQ W1 m AD);have yi:=zH λW=>vO W;have B6:=zH At;have yk:=vt;simp only[Mo.cells] at yk ye;have AE:=zH yk;unfold zP;rw[hN];simp only[Mo.cells];clear hm AD q1 vt yk Ax At;go_enter func4,ntmps4
 go_upto_region 1 with(fail)
 rw[AE.out];clear hN
 go_wp2_with fail
 go_at_call 12;refine ye.out.mono ?_;rintro e w2 ⟨b,rfl,hb,wk⟩;obtain⟨d0,d1,wl,AF,_⟩:=R.out w2 wk;have vd:=zH wk;clear AE ye;cases b with
 |false=>
  clear c0 c1 hb wk wl AF
  go_wp2_with (go_at_call 14;refine(yi.out _).mono ?_;rintro e w3 ⟨rfl,z⟩;have HR:=zH (R.out w3 (vd.out.trans (z.mono vd.out.size))).2.2.2.1;clear z)
  go_ret;exact⟨rfl,HR.out⟩
 |true=>
 have yp:=hb rfl;have A:=ER wl yp B6.out;have vu:cj ((m.wants (bq m)).length<=200000):=eJ (mK m.fs 0 A.ri.al) (Dq wl yp);have ws:cj (∀W,aE w2.heap.size w2 W->qp W m):=λW f=>⟨A.ri.below f,A.wf,A.nv,A.ni,A.nf,A.np,A.nt⟩
 have vx:cj (∀W,aE w2.heap.size w2 W->zP 13 #[ub m.cells] W (Z U (eU m))):=λW f=>tu m W (ws.out W f).ri;have vy:=zH (λh=>Dp m w2 A.ri h);obtain⟨F,hF⟩:=zE (eU m);rw[hF] at vx vy;simp only[Mo.cells] at vx vy;clear c0 c1 hb wk wl AF A yp
 by_cases yq:F=0
 rotate_left
 ·have e0:(F != 0)=tP:=by rw[pp];exact yq
  have e1:(F==F)=tP:=iS _;have xf:=zH (vy.out yq);clear hF vy
  go_upto_region 4 with(go_at_call 15;refine xf.out.mono ?_;rintro e w3 ⟨rfl,z⟩;have ux:=zH (vd.out.trans (z.mono vd.out.size));have xj:=zH (vx.out w3 z);clear z)
  clear d0 d1;obtain⟨d0,d1,_⟩:=R.out w3 ux.out
  go_wp2_with (first
   |(go_at_call 13;refine xj.out.mono ?_;rintro e w4 ⟨rfl,vc⟩;have vf:=zH (ux.out.trans (vc.mono ux.out.size));clear vc)
   |(go_at_call 14;refine(yi.out _).mono ?_;rintro e w5 ⟨rfl,ue⟩;have HR:=zH (R.out w5 (vf.out.trans (ue.mono vf.out.size))).2.2.2.1;clear ue))
  go_ret;exact⟨rfl,HR.out⟩
 subst yq;have e0:((0:aw) != 0)=tR:=rfl;have xf:cj (ge am 15 #[ub #[tU m.sA m.ss.length m.sC,tU m.fA m.fs.length m.fC]] w2 λe w'=>∃T Bb MB lv at_ tg s,e= ud (.tuple #[tW (tG ⟨T,0,tM⟩),Z U 0])/\Wn T Bb MB lv m.ptrs (2*(m.ptrs.length:aw)) (aG 0 m.ptrs) ((m.wants (bq m)).map eN) ((m.wants (bq m)).map fh) at_ (w2.heap.size+1) tg s w'/\aE w2.heap.size w2 w'):=by
  refine(pQ m w2 (ws.out w2 (aq _ _)) hF).mono ?_;rintro e w' ⟨T,Bb,MB,lv,at_,he,tg,s,xo,hb⟩;refine⟨T,Bb,MB,lv,at_,tg,s,he,xo, ?_⟩;have B7:aE w2.heap.size w2 (w2.alloc (uc m.cells 25)):=(aq _ _).alloc (cg _) _;exact B7.trans (hb.mono (i5 _))
 have AH:cj (∀x∈m.wants (bq m),yN (2*(m.ptrs.length:aw)) x.1/\∃(k:bh) (g:Fn),m.fs[k]?=tG g/\x.2.1=(k:aw)/\-1<=x.2.2/\x.2.2<(g.c.ins.length:aw)):=λx hx=>Ga hF hx;have B8:cj (m.ptrs.length<=20000):=(ws.out w2 (aq _ _)).np;have AI:cj (∀W,aE w2.heap.size w2 W->ge am 18 #[ub #[tU m.sA m.ss.length m.sC,tU m.fA m.fs.length m.fC]] W (BB m W)):=λW f=>EX m W (ws.out W f) hF;clear hF vy
 go_upto_region 4 with(go_at_call 15;refine xf.out.mono ?_;rintro e w3 ⟨T,Bb,MB,lv,at_,tg,s,rfl,xo,z⟩;have AK:=zH xo;have ux:=zH (vd.out.trans (z.mono vd.out.size));have yr:=zH z;clear xo z)
 clear d0 d1 xf;obtain⟨d0,d1,_⟩:=R.out w3 ux.out;have xj:=zH (vx.out w3 yr.out)
 go_upto_region 7 with(go_at_call 13;refine xj.out.mono ?_;rintro e w4 ⟨rfl,vc⟩;have vf:=zH (ux.out.trans (vc.mono ux.out.size));have B9:=zH (yr.out.trans (vc.mono yr.out.size));have vh:=zH (AK.out.grow vc);clear vc)
 clear d0 d1 xj AK;obtain⟨d0,d1,_⟩:=R.out w4 vf.out;have AM:=zH (AI.out w4 B9.out);clear AI vx
 go_upto_region 8 with(go_at_call 18;refine AM.out.mono ?_;rintro e w5 ⟨ra,rc,ya,yc,rfl,vm,AN,ue⟩;have xp:=BC (w:=w5) (N:=2*(m.ptrs.length:aw)) (a:=ra) (n:=(m.wants (bq m)).length) (k:=rc);have yv:=zH ue;have xt:=zH vm;have we:=zH AN;clear ue vm AN)
 clear d0 d1 AM e0;obtain⟨E,hE⟩:=zE w5.heap.size;obtain⟨X,hX⟩:=zE (m.wants (bq m));rw[hX] at vh xt we AH vu xp⊢;obtain⟨K,hK⟩:=zE X.length;have up:(X.map eN).length=K:=by rw[dy,hK]
 have yy:(X.map fh).length=K:=by rw[dy,hK]
 have wg:cj (∀c∈X.map eN,c.all (bL (2*(m.ptrs.length:aw)))=tP/\c.length<=80000):=λc hc=>by
  obtain⟨x,hx,rfl⟩:=gi.1 hc;have h:=(AH.out x hx).1;exact⟨ui h,by have:=h.2.1;omega⟩
 obtain⟨CL,AS⟩:=zE (X.map eN);obtain⟨YL,yW⟩:=zE (X.map fh);rw[AS] at vh xt wg up;rw[yW] at vh we yy;rw[hK] at we vu xp⊢;obtain⟨P,hP⟩:=zE (2*(m.ptrs.length:aw));have Cd:cj (0<=P/\P<=100000):=by have:=B8.out;unfold cj;omega
 rw[hP] at vh wg xp⊢;obtain⟨d,xF⟩:=zE (w5.alloc (uc #[Z U P,tU ra K rc] 52));have xT:=il xF;have yb:d.heap[E]?=tG (uc #[Z U P,tU ra K rc] 52 (0,0)):=by rw[<-xF,<-hE];exact alloc_at _ _
 rw[xF,hE];have Cl:=zH (xt.out.below xT);have Cp:=zH (ownsRow_below we.out xT);have AT:cj (aE w4.heap.size w4 d):=yv.out.trans (xT.mono yv.out.size);have AW:cj (aE W1.heap.size W1 d):=vf.out.trans (AT.out.mono vf.out.size);have zc:cj (∀W,aE d.heap.size d W->Wn T Bb MB lv m.ptrs P (aG 0 m.ptrs) CL YL at_ (w2.heap.size+1) tg s W):=λW f=>(vh.out.grow AT.out).grow f;have zj:cj (∀W,aE d.heap.size d W->ge am 16 #[tW (tG ⟨T,0,tM⟩)] W λe w'=>∃o v,e= ud (ub #[Z U P,tU o K v])/\eH (W.heap.size+1) w' o CL/\aE d.heap.size d w'):=λW f=>by
  refine(nK W (zc.out W f) (λc hc=>(wg.out c hc).2)).mono ?_;rintro e w' ⟨o,v,he,h1,h2⟩;rw[up] at he;exact⟨o,v,he,h1,f.trans (h2.mono f.size)⟩
 have A0:cj (∀W B o v,aE d.heap.size d W->eH B W o CL->zP 19 #[ub #[Z U P,tU o K v],ub #[Z U P,tU ra K rc]] W (ua tP)):=λW B o v f vm=>by
  have:=zh P B _ o ra CL v rc W vm (Cl.out.below f) (λc hc=>(wg.out c hc).2) (by rw[up];have:=vu.out;omega);rw[up] at this;exact this
 have A1:cj (∀W B o v,aE d.heap.size d W->eH B W o CL->zP 20 #[ub #[Z U P,tU o K v]] W (ua tP)):=λW B o v f vm=>by
  have:=mg P B o CL v W Cd.out vm wg.out (by rw[up];exact vu.out);rw[up] at this;exact this
 obtain⟨G,A2⟩:=zE ((λw'=>aE d.heap.size d w'):World->Prop);have ur:cj (∀W,G W↔aE d.heap.size d W):=λW=>by rw[<-A2]
 have A3:G d.drew:=(ur.out _).2 (aq _ _).drew;have vp:cj (∀W,G W->True):=λ_ _=>trivial;have A4:cj (∀W,G W->∀j u,(#[Z U P,tU ra K rc]:eA cA).toList[j]?=tG u->W.cell? ((⟨E,0,tM⟩:fS).add j)=tG u):=λW h=>dC ((((ur.out W).1 h).block E (aa yb)).trans yb);have CT:=zH yb;have C4:=zH up;have A5:=zH yy;have C5:=zH yW;clear xp xT yb hE xF xt we yv hX hK up yy AS yW hP A2 vh;refine aj 10 G (by kernel_rfl) ?_;refine zT 0 rfl vp.out ?_;(try go_simp);refine zL 2 rfl 52 ⟨E,0,tM⟩ A4.out underlying52 ?_;(try go_simp);refine zO 1 rfl λK' q=> ?_;go_simp;go_at_call 16;refine(zj.out _ ((ur.out _).1 A3)).mono ?_;rintro e J ⟨o,v,rfl,A6,t⟩;have Bk:G J:=(ur.out _).2 t;refine q _ _ Bk ?_;clear q;(try go_simp);refine zO 3 rfl λK' q=> ?_;go_simp;go_at_call 19;refine(A0.out J _ o v t A6).mono ?_;rintro e w8 ⟨rfl,Bm⟩;have zp:aE d.heap.size d w8:=t.trans (Bm.mono t.size);have Bs:G w8:=(ur.out _).2 zp;refine q _ _ Bs ?_;clear q;(try go_simp);refine zT 4 rfl vp.out ?_;(try go_simp);refine zT 5 rfl vp.out ?_;(try go_simp);refine zT 6 rfl vp.out ?_;(try go_simp);refine zO 7 rfl λK' q=> ?_;go_simp;go_at_call 16;refine(zj.out _ zp).mono ?_;rintro e w9 ⟨CA,CC,rfl,By,wj⟩;have BE:G w9:=(ur.out _).2 wj;refine q _ _ BE ?_;clear q;(try go_simp);refine zO 8 rfl λK' q=> ?_;go_simp;go_at_call 20;refine(A1.out w9 _ CA CC wj By).mono ?_;rintro e wa ⟨rfl,BT⟩;have zs:aE d.heap.size d wa:=wj.trans (BT.mono wj.size);have BY:G wa:=(ur.out _).2 zs;refine q _ _ BY ?_;clear q;(try go_simp);refine zT 9 rfl vp.out ?_;(try go_simp);refine zK rfl λK' q=> ?_;go_simp;refine q _ _ ?_;clear q;refine⟨by kernel_rfl, ?_⟩;have CD:=zH zs;clear zs BT wj zp Bm t Bk Bs BE BY A3 A6 By A4 vp ur A0 A1 zj G
 go_wp2_with fail
 go_loopw [8] (λc wr=>∃k:aw,-1<=k/\k<=(K:aw)+1/\c= Z U k/\aE d.heap.size d wr) (λc _=>((K:aw)+1-de c).toNat)
 case atStart=>exact⟨-1,by omega,by omega,rfl,CD.out⟩
 case round=>
  rename World=>wr;obtain⟨k,C6,C7,rfl,vq⟩:=hrel;have uv:=zH vq;have Dd:=vu.out
  by_cases B5:k<=(K:aw)
  ·have t0:decide (k<=(K:aw))=tP:=cV B5
   by_cases zv:0<=k/\k<(K:aw)
   ·obtain⟨n,rfl⟩:∃n:bh,k=(n:aw):=⟨k.toNat,by omega⟩
    have CH:n<YL.length:=by rw[A5.out];omega
    obtain⟨y,hy⟩:∃y,YL[n]?=tG y:=⟨_,ap CH⟩
    have yd:=zH (EN wr (zc.out wr vq) n y hy);have CM:cj (∀W,aE d.heap.size d W->∃g,ya=tG ⟨g,0,tM⟩/\g<W.heap.size/\W.cell? ⟨g,n*2,tM⟩=tG (Z U y.1)/\W.cell? ⟨g,n*2+1,tM⟩=tG (Z U y.2)):=λW f=>by
     obtain⟨a1,a2⟩:=De YL n y hy;have hr:=ownsRow_below Cp.out f;obtain⟨g,e1,e2,e3⟩:=mM hr a1;obtain⟨g',An,_,e4⟩:=mM hr a2;rw[e1] at An;simp only[dd,eR,pf] at An;subst An;exact⟨g,e1,e2,by simpa using e3,by simpa using e4⟩
    have Dg:(n:aw)<(K:aw):=zv.2;have t1:decide ((0:aw)<=(n:aw))=tP:=cV zv.1;have e1:(y.1 != y.1)=tR:=by simp
    have e2:(y.2 != y.2)=tR:=by simp
    clear vq hy zv
    go_upto_region 14 with(go_at_call 21;refine yd.out.mono ?_;rintro e J ⟨rfl,t⟩;have vr:cj (aE d.heap.size d J):=zH (uv.out.trans (t.mono uv.out.size));clear t)
    obtain⟨g,rfl,Do,c1,c2⟩:=CM.out J vr.out;go_wp2;go_roundw
    case rel=>exact⟨(n:aw)+1,by omega,by omega,by go_num,vr.out⟩
    case measure=>simp[de];omega
   ·have yd:=zH (zi wr (zc.out wr vq) k (by rw[A5.out];omega))
    clear vq
    by_cases hn:k<0
    ·have t1:decide ((0:aw)<=k)=tR:=cv (by omega)
     go_upto_region 14 with(go_at_call 21;refine yd.out.mono ?_;rintro e J ⟨rfl,t⟩;have vr:cj (aE d.heap.size d J):=zH (uv.out.trans (t.mono uv.out.size));clear t)
     go_wp2;go_roundw
     case rel=>exact⟨k+1,by omega,by omega,by go_num,vr.out⟩
     case measure=>simp[de];omega
    ·have t1:decide ((0:aw)<=k)=tP:=cV (by omega)
     have t2:decide (k<(K:aw))=tR:=cv (by omega)
     go_upto_region 14 with(go_at_call 21;refine yd.out.mono ?_;rintro e J ⟨rfl,t⟩;have vr:cj (aE d.heap.size d J):=zH (uv.out.trans (t.mono uv.out.size));clear t)
     go_wp2;go_roundw
     case rel=>exact⟨k+1,by omega,by omega,by go_num,vr.out⟩
     case measure=>simp[de];omega
  ·have t0:decide (k<=(K:aw))=tR:=cv B5
   clear vq
   go_wp2_with (go_at_call 14;refine(yi.out _).mono ?_;rintro e w5 ⟨rfl,ue⟩;have HR:=zH (R.out w5 (AW.out.trans ((uv.out.trans (ue.mono uv.out.size)).mono AW.out.size))).2.2.2.1;clear ue)
   go_ret;exact⟨rfl,HR.out⟩
section
open Go.ChangeShapes Go.WideShapes Go.ChangeAt Go.RowKit
theorem own_:ownKnob am.godebug=tM:=by kernel_rfl
theorem laidOut_:laidOutB am=tP:=by kernel_rfl
theorem law_post {H:Type}{enc:gt×cA->H}{P:lr}{f:Func}{s:ChangeSpec}{W d:World}{args:eA cA}{v:cA}{e g:bj (DataW H)}{j pa pv:bj n9}
  (q:DataW.Whole enc P f.params.toList s.vars tR W args.toList e g j)
  (t:∀(b:bh)(u:bh->mm)(x:mm),DataW.TrodAll enc P d b u x f.resultTypes.toList (v.resultList f.resultTypes.size) (s.fn H (e++g)).results [])
  (y:DataW.TrodAll enc P d 0 (λb=>decide (b<W.heap.size)) tP f.params.toList args.toList (s.fn H (e++g)).args pa)
  (z:DataW.TrodVars enc P d (λb=>decide (b<W.heap.size)) s.vars (s.fn H (e++g)).vars pv)
  (A:j=pa++pv)(E:aE W.heap.size W d):
  s.post enc P f tR tP tR tR W args v d:=by
 refine⟨e,g,j,[],pa,pv,q,t _ _ _,y,z,World.keptBut_mono (λp o=>⟨o, ?_⟩) (E.frame (·∈j)),λh=> ?_⟩
 ·rw[A,cX] at o
  exact Or.inr o
 ·exact fL h (by decide)
theorem shut_true {H:Type}{enc:gt×cA->H}{W:World}{base:bh}{d:bh->mm}{held:mm}(b:mm):DataW.Trod enc am W base d held 4 (.bool b) (.lit (.bool b)) []:=⟨1,by simp[kO,Value.cells,nj]⟩
end
theorem bH {a b:mm}(h:a=tP)(k:b=tP):(a&&b)=tP:=by rw[h,k];rfl
theorem uw:(laidOutB Tryz.pinned.checked.prog)=tP:=by kernel_rfl
theorem uy:(mapsRowed Tryz.pinned.checked.prog)=tP:=by kernel_rfl
theorem uz:((Rows.wantClausesRow.inPlace==Tryz.pinned.checked.prog.inPlace 4))=tP:=by kernel_rfl
theorem ry:((Rows.wantClausesRow.unfollowed==Tryz.pinned.checked.prog.unfollowed 4))=tP:=by kernel_rfl
theorem rz:((Rows.wantClausesRow.recurses==Tryz.pinned.checked.prog.recurses 4))=tP:=by kernel_rfl
theorem rA:((Rows.wantClausesRow.named==Tryz.pinned.checked.prog.varsNamed 4))=tP:=by kernel_rfl
theorem rC:((Rows.wantClausesRow.loops==(Tryz.f4.params.toList++Rows.wantClausesSpec.plain.varTypes Tryz.pinned.checked.prog).any (Tryz.pinned.checked.prog.loopsFrom ·)))=tP:=by kernel_rfl
theorem rD:(Tryz.pinned.checked.prog.stopsHeard)=tP:=by kernel_rfl
theorem rF:(Tryz.pinned.checked.prog.mayEnter)=tP:=by kernel_rfl
theorem rG:((Rows.wantClausesRow.lifted==Tryz.pinned.checked.prog.liftsFinal))=tP:=by kernel_rfl
theorem rH:((Tryz.pinned.checked.prog.make==tG Rows.wantClausesRow.make))=tP:=by kernel_rfl
theorem wantClauses_closed:joinedFacts Tryz.pinned.checked.prog 4 Tryz.f4 Rows.wantClausesSpec Rows.wantClausesRow=tP:=by
 unfold joinedFacts;exact bH (bH (bH (bH (bH (bH (bH (bH (bH (bH (bH (bH (bH (bH (bH (bH (bH (bH (bH (bH (bH (bH (bH (bH (bH (bH (bH (bH (bH (bH (bH (by kernel_rfl) uw) uy) (by kernel_rfl)) (by kernel_rfl)) (by kernel_rfl)) (by kernel_rfl)) (by kernel_rfl)) (by kernel_rfl)) uz) ry) rz) rA) (by kernel_rfl)) (by kernel_rfl)) (by kernel_rfl)) rC) (by kernel_rfl)) (by kernel_rfl)) (by kernel_rfl)) (by kernel_rfl)) (by kernel_rfl)) (by kernel_rfl)) (by kernel_rfl)) rD) rF) rG) rH) (by kernel_rfl)) (by kernel_rfl)) (by kernel_rfl)) (by kernel_rfl)
end Go.Proofs.YtjomgckjhcfbgaaGreat
