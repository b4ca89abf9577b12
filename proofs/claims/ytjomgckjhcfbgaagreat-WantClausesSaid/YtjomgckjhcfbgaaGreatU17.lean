/- Walks. -/
import Derived.Test.YtjomgckjhcfbgaaGreatU16
set_option maxRecDepth 100000
set_option maxHeartbeats 64000000
set_option linter.all false
namespace Go.Proofs.YtjomgckjhcfbgaaGreat
open Go.RowKit
open Go.Proofs.Tryz renaming prog→am,ntmps58→kt,func58→lE
open _root_.List renaming getElem?_eq_getElem→ap,getElem?_eq_some_iff→bl,length_append→bo,mem_of_getElem?→cd,length_singleton→cr,take_length→cR,mem_append→cX,map_append→dp,length_map→dy,length_take→ee,append_nil→ej,append_assoc→eq,length_cons→eV,cons_append→ij,take_zero→lz,map_nil→pm
open Go.RowKit.Below renaming refl→aq
open _root_ renaming Int→aw,Nat→bh,List→bj,ByteArray→bm,if_neg→bx,decide_eq_false→cv,Option→cG,if_pos→cI,decide_eq_true→cV,beq_false_of_ne→ef,Array→eA,absurd→fL,if_true→lj,False→me,Bool→mm,and_true→pf
open Go.RowKit renaming Below→aE,Hid→cj,intOf→de
open _root_.Nat renaming le_refl→cg,zero_add→cL,zero_le→cN,le_trans→eJ
open Go renaming Value→cA,bodyPost_ret→er,Addr→fS,Calls→ge,heap_alloc2_new→jp,heap_alloc2_old→kp,results_none→li
open _root_.Option.some renaming injEq→dd
open Go.IntKind renaming i64→dT,signed→ep,wrap→eK,bits→eL,i64→U
open Go.Addr.mk renaming injEq→eR
open Go.Instr renaming lookup→nr
open _root_.Option renaming some→tG,none→tM
open _root_.Bool renaming true→tP,false→tR
open Go.Value renaming string→tS,slice→tU,pointer→tW,bool→ua,agg→ub,int→Z
open Go.Obj renaming cells→uc
open Go.Ending renaming returned→ud
open Tryz
structure Ag (T Bb MB:bh)(lv:cG fS×bh)(P:bj (aw×aw))(N:aw)(F:aw×aw->aw)(C:bj (bj aw))(Y:bj (aw×aw))(at_:aw×aw)(B:bh)(tg:bh->bh)(s:ow)(w0:World)(TT RB:bh)(c:dx)(b:bh->bh->bh)(hi:bh)(D:bh)(ac ic:eA cA)(w:World):Prop where
 as_:As T Bb MB lv P N F C Y at_ B tg s w0 TT RB c b hi w
 r0:w.heap[D]?=tG (uc ac 129 (0,0))
 r1:w.heap[D+1]?=tG (uc ic 42 (0,0))
 z0:tg D=0
 z1:tg (D+1)=0
section
variable {T Bb MB:bh}{lv:cG fS×bh}{P:bj (aw×aw)}{N:aw}{F:aw×aw->aw}{C C2:bj (bj aw)}{Y Y2:bj (aw×aw)}{at_ at2:aw×aw}{B:bh}{tg:bh->bh}{s:ow}{w0:World}{TT RB hi:bh}{c:dx}{b:bh->bh->bh}{D:bh}{ac ic:eA cA}{w w':World}
theorem Ag.grow (h:Ag T Bb MB lv P N F C Y at_ B tg s w0 TT RB c b hi D ac ic w)(d:aE w.heap.size w w'):Ag T Bb MB lv P N F C Y at_ B tg s w0 TT RB c b hi D ac ic w':=
 ⟨h.as_.grow d,(d.block D (aa h.r0)).trans h.r0,(d.block (D+1) (aa h.r1)).trans h.r1,h.z0,h.z1⟩
theorem Ag.mv (h:Ag T Bb MB lv P N F C Y at_ B tg s w0 TT RB c b hi D ac ic w)(t:aZ T Bb MB lv P N F C2 Y2 at2 B tg w w'):∃d f,Ag T Bb MB lv P N F C2 Y2 at2 B d f w0 TT RB c b hi D ac ic w'/\Ext (λq=>tg q≠0) w w'/\(∀k,d k≠0->tg k≠0\/w.heap.size<=k)/\∀k,tg k≠0->d k=tg k:=by
 obtain⟨d,f,u,g,o,v⟩:=h.as_.mv t;have j:∀k,tg k=0->k<w.heap.size->d k=0:=λk x y=>by
  cases j:d k with
  |zero=>rfl
  |succ q=>
   rcases o k (by omega) with e|e
   ·exact fL x e
   ·omega
 exact⟨d,f,⟨u,g.heap h.r0 (λe=>e h.z0),g.heap h.r1 (λe=>e h.z1),j D h.z0 (aa h.r0),j (D+1) h.z1 (aa h.r1)⟩,g,o,v⟩
theorem Ag.box (h:As T Bb MB lv P N F C Y at_ B tg s w0 TT RB c b hi w)(ac ic:eA cA):Ag T Bb MB lv P N F C Y at_ B tg s w0 TT RB c b hi w.heap.size ac ic ((w.alloc (uc ac 129)).alloc (uc ic 42)):=by
 have d:∀k,w.heap.size<=k->tg k=0:=λk e=>by
  cases d:tg k with
  |zero=>rfl
  |succ q=>have:=(h.wn.lo k (by omega)).2;omega
 exact⟨h.grow (((aq _ _).alloc (cg _) _).alloc (by simp) _),kp _ _ _,jp _ _ _,d _ (cg _),d _ (by omega)⟩
end
section
variable {T Bb MB:bh}{lv:cG fS×bh}{P:bj (aw×aw)}{N:aw}{F:aw×aw->aw}{C C2:bj (bj aw)}{Y Y2:bj (aw×aw)}{at_ at2:aw×aw}{B:bh}{tg:bh->bh}{s:ow}{w0:World}{TT RB hi:bh}{c:dx}{b:bh->bh->bh}
theorem ak.lit1 (w:World)(z:aw){G:bh}(h:w.heap[G]?=tG (uc #[Z U z] 3 (0,0))):ak w (tG ⟨G,0,tM⟩) [z]:=λ_=>⟨G,0,rfl,aa h,λi x d=>by
 cases i with
 |succ i=>simp at d
 |zero=>
  obtain rfl:z=x:=by simpa using d
  exact(rowAt h 0 rfl).1⟩
theorem ak.lit2 (w:World)(z y:aw){G:bh}(h:w.heap[G]?=tG (uc #[Z U z,Z U y] 3 (0,0))):ak w (tG ⟨G,0,tM⟩) [z,y]:=λ_=>⟨G,0,rfl,aa h,λi x d=>by
 match i with
 |0=>
  obtain rfl:z=x:=by simpa using d
  exact(rowAt h 0 rfl).1
 |1=>
  obtain rfl:y=x:=by simpa using d
  exact(rowAt h 1 rfl).1
 |i+2=>simp at d⟩
abbrev ma (D T MB TT:bh)(f e v:aw)(h j:cG fS)(n1 n2 c1 c2 g d o gc n:bh)(w:World):Prop:=(w.cell? ⟨D,0,tM⟩=tG (tW (tG ⟨T,0,tM⟩))/\w.cell? ⟨D,1,tM⟩=tG (Z U f)/\w.cell? ⟨D,2,tM⟩=tG (tU h n1 c1)/\w.cell? ⟨D,3,tM⟩=tG (tU j n2 c2)/\w.cell? ⟨D,4,tM⟩=tG (tW (tG ⟨TT,0,tM⟩)))/\(w.cell? ⟨D+1,7,tM⟩=tG (tU (tG ⟨g,d,tM⟩) o gc)/\w.cell? ⟨D+1,4,tM⟩=tG (Z U e))/\w.cell? ⟨g,d+n,tM⟩=tG (Z U v)/\D+1<w.heap.size/\w.cell? ⟨T,2,tM⟩=tG (.map (tG MB))/\T<w.heap.size
theorem EJ (w:World)(h:As T Bb MB lv P N F C Y at_ B tg s w0 TT RB c b hi w)(hN:0<=N/\N<=9000000)(hF:∀x,0<=F x/\F x<=9000000)(f:aw)(hf:bN f)(t u:cG fS)(n1 n2 c1 c2:bh)(i:Ins)(ga:cG fS)(gc:bh)(zc:i.argsV= tU ga i.args.length gc)(AM:∃ao n cap,i.modeV= tU ao n cap)(vx:ak w0 ga i.args)(AN:i.args.length<=40)(AS:bN i.f)
  (n:bh)(v:aw)(hn:i.args[n]?=tG v)(k:bh)(hk:k<c.ins.length)(hv:isVar c.nvars v=tP)(DA:c.ins.length<=90000)(DB:c.nvars<=90000)(hl:C.length+3<=1000000)(Fo:Y.length+3<=1000000)
  (vy:∀x∈l8 (λv=>F (f,v)) (F (i.f,(n:aw))) (dE (bg b k) i.d i.args n v) v,x.all (bL N)=tP):
  ge am 149 #[ub #[tW (tG ⟨T,0,tM⟩),Z U f,tU t n1 c1,tU u n2 c2,tW (tG ⟨TT,0,tM⟩)],ub i.cells,Z U (n:aw),Z U (k:aw)] w λe w'=>e= ud (.tuple #[])/\aZ T Bb MB lv P N F (C++l8 (λv=>F (f,v)) (F (i.f,(n:aw))) (dE (bg b k) i.d i.args n v) v) (Y++(l8 (λv=>F (f,v)) (F (i.f,(n:aw))) (dE (bg b k) i.d i.args n v) v).map λ_=>at_) at_ B tg w w':=by
 obtain⟨D,hD⟩:=zE w.heap.size;have we:∀w C Y tg s,Ag T Bb MB lv P N F C Y at_ B tg s w0 TT RB c b hi D #[tW (tG ⟨T,0,tM⟩),Z U f,tU t n1 c1,tU u n2 c2,tW (tG ⟨TT,0,tM⟩)] i.cells w->∀W,aE w.heap.size w W->zP 195 #[ub #[tW (tG ⟨T,0,tM⟩),Z U f,tU t n1 c1,tU u n2 c2,tW (tG ⟨TT,0,tM⟩)],ub i.cells,Z U (n:aw),Z U (k:aw)] W (ua (dE (bg b k) i.d i.args n v)):=λw C Y tg s y W hW=>
  Bf W (y.grow hW).as_ f t u n1 n2 c1 c2 i ga gc zc AM vx AN n v hn k hk hv DA DB
 have vd:=Ag.box h #[tW (tG ⟨T,0,tM⟩),Z U f,tU t n1 c1,tU u n2 c2,tW (tG ⟨TT,0,tM⟩)] i.cells;rw[hD] at vd;obtain⟨mo,mn,mc,AT⟩:=AM;obtain⟨ag,AW⟩:=zE (dE (bg b k) i.d i.args n v);rw[AW] at vy we⊢;clear AW;obtain⟨op,d,a,bb,A,nn,vp,argsV,modeV,vq,vr,ln,cl,args⟩:=i;simp only at zc AT hn AN AS vx vy we vd⊢;subst zc AT;simp only[Ins.cells] at vd we⊢;obtain⟨W1,xt⟩:=zE ((w.alloc (uc #[tW (tG ⟨T,0,tM⟩),Z U f,tU t n1 c1,tU u n2 c2,tW (tG ⟨TT,0,tM⟩)] 129)).alloc (uc #[Z U op,Z U d,Z U a,Z U bb,Z U A,Z U nn,tS vp,tU ga args.length gc,tU mo mn mc,Z U vq,Z U vr,Z U ln,Z U cl] 42));rw[xt] at vd;have A0:=E8 xt;have Fr:n<args.length:=(bl.1 hn).1;have Ft:(n:aw)<(args.length:aw):=by omega
 have A1:args≠[]:=by intro e;rw[e] at hn;simp at hn
 obtain⟨g,up,rfl,_,_⟩:=vx A1;obtain⟨z,hz⟩:=zE (F (A,(n:aw)));obtain⟨J,xF⟩:=zE (F (f,v));have xT:=hF (A,(n:aw));have A2:=hF (f,v);rw[hz] at xT vy⊢;rw[xF] at A2;obtain⟨FA,FF⟩:=xT;obtain⟨FG,F0⟩:=A2;have A3:bN v:=by have:=bP.1 hv;unfold bN;omega
 have DE:bN (n:aw):=by unfold bN;omega
 have A4:∀w C Y tg s,Ag T Bb MB lv P N F C Y at_ B tg s w0 TT RB c b hi D #[tW (tG ⟨T,0,tM⟩),Z U f,tU t n1 c1,tU u n2 c2,tW (tG ⟨TT,0,tM⟩)] #[Z U op,Z U d,Z U a,Z U bb,Z U A,Z U nn,tS vp,tU (tG ⟨g,up,tM⟩) args.length gc,tU mo mn mc,Z U vq,Z U vr,Z U ln,Z U cl] w->ma D T MB TT f A v t u n1 n2 c1 c2 g up args.length gc n w:=λw C Y tg s y=>by
  obtain⟨g',F1,e1,_,e3⟩:=y.as_.ints vx A1;simp only[dd,eR,pf] at e1;obtain⟨rfl,rfl⟩:=e1;exact⟨⟨(rowAt y.r0 0 rfl).1,(rowAt y.r0 1 rfl).1,(rowAt y.r0 2 rfl).1,(rowAt y.r0 3 rfl).1,(rowAt y.r0 4 rfl).1⟩,⟨(rowAt y.r1 7 rfl).1,(rowAt y.r1 4 rfl).1⟩,e3 n v hn,aa y.r1,(rowAt y.as_.wn.row 2 rfl).1,aa y.as_.wn.row⟩
 have vt:=zH A4;have DG:cj (∀w C Y tg s,Ag T Bb MB lv P N F C Y at_ B tg s w0 TT RB c b hi D #[tW (tG ⟨T,0,tM⟩),Z U f,tU t n1 c1,tU u n2 c2,tW (tG ⟨TT,0,tM⟩)] #[Z U op,Z U d,Z U a,Z U bb,Z U A,Z U nn,tS vp,tU (tG ⟨g,up,tM⟩) args.length gc,tU mo mn mc,Z U vq,Z U vr,Z U ln,Z U cl] w->zP 107 #[ub #[tW (tG ⟨T,0,tM⟩),Z U f,tU t n1 c1,tU u n2 c2,tW (tG ⟨TT,0,tM⟩)],Z U v] w (Z U J)):=λw C Y tg s y=>by rw[<-xF];exact yQ w y.as_.wn f v hf A3 t u n1 n2 c1 c2 _
 have A5:cj (∀w C Y tg s,Ag T Bb MB lv P N F C Y at_ B tg s w0 TT RB c b hi D #[tW (tG ⟨T,0,tM⟩),Z U f,tU t n1 c1,tU u n2 c2,tW (tG ⟨TT,0,tM⟩)] #[Z U op,Z U d,Z U a,Z U bb,Z U A,Z U nn,tS vp,tU (tG ⟨g,up,tM⟩) args.length gc,tU mo mn mc,Z U vq,Z U vr,Z U ln,Z U cl] w->(nr 118 (.map (tG MB)) (ub #[Z U A,Z U (n:aw)]) tR).run am w= .ok (Z U z) w):=λw C Y tg s y=>by rw[<-hz];exact y.as_.wn.map.look AS DE
 have DH:=zH we;have A6:=zH A0;have DM:=zH xt;have DO:=zH vd;have zj:=zH vy;have yb:=zH xF;have Bk:dT.wrap (-z)= -z:=by simp[eK,eL,ep];omega
 have Ge:dT.wrap (z+1)=z+1:=by simp[eK,eL,ep];omega
 have Bm:dT.wrap (-(z+1))= -(z+1):=by simp[eK,eL,ep];omega
 have DP:D+1<W1.heap.size:=aa vd.r1;clear h vx hn vd vy we xt A0 A4 hz xF;go_enter func149,ntmps149
 go_upto_region 1 with(fail)
 rw[DM.out];obtain⟨S0,zp⟩:=zE ((λw'=>w'=W1.drew):World->Prop);have DQ:S0 W1.drew:=by rw[<-zp]
 have yd:Ag T Bb MB lv P N F C Y at_ B tg s w0 TT RB c b hi D #[tW (tG ⟨T,0,tM⟩),Z U f,tU t n1 c1,tU u n2 c2,tW (tG ⟨TT,0,tM⟩)] #[Z U op,Z U d,Z U a,Z U bb,Z U A,Z U nn,tS vp,tU (tG ⟨g,up,tM⟩) args.length gc,tU mo mn mc,Z U vq,Z U vr,Z U ln,Z U cl] W1.drew:=DO.out.grow (aq _ _).drew;have R:cj (∀w,S0 w->ma D T MB TT f A v t u n1 n2 c1 c2 g up args.length gc n w/\(nr 118 (.map (tG MB)) (ub #[Z U A,Z U (n:aw)]) tR).run am w= .ok (Z U z) w):=λw hw=>by rw[<-zp] at hw;rw[hw];exact And.intro (vt.out _ _ _ _ _ yd) (A5.out _ _ _ _ _ yd)
 have vu:=zH yd;clear zp yd;refine aj 10 S0 (by kernel_rfl) ?_;refine zT 0 rfl R.out ?_;(try go_simp);refine zT 1 rfl R.out ?_;(try go_simp);refine zT 2 rfl R.out ?_;(try go_simp);refine zT 3 rfl R.out ?_;(try go_simp);refine zT 4 rfl R.out ?_;(try go_simp);refine zT 5 rfl R.out ?_;(try go_simp);refine zT 6 rfl R.out ?_;(try go_simp);refine zT 7 rfl R.out ?_;(try go_simp);refine zT 8 rfl R.out ?_;(try go_simp);refine zT 9 rfl R.out ?_;(try go_simp);refine zK rfl λK' j=> ?_;go_simp;refine j _ _ ?_;clear j;refine⟨by kernel_rfl, ?_⟩;clear R DQ
 by_cases vf:z=0
 ·have xT:(z==0)=tP:=by rw[vf];rfl
  have Gk:=zH vf;have vh:cj (l8 (λv=>F (f,v)) z ag v=[]):=by unfold cj l8;rw[cI vf]
  clear vf;go_wp2;refine er (li rfl _ _ _) rfl ?_;rw[vh.out,pm,ej,ej];exact⟨rfl,(vu.out.as_.wn.same (aq _ _)).below (A6.out.drew)⟩
 ·have xT:(z==0)=tR:=ef vf
  have vh:cj (l8 (λv=>F (f,v)) z ag v=[[-z,J]]++(if ag=tP then[[-z]] else[])++[[-(z+1),J,J+1]]):=by unfold cj l8;rw[bx vf];simp only[yb.out]
  have Bs:[-z,J].all (bL N)=tP:=zj.out _ (by rw[vh.out];simp);have By:[-(z+1),J,J+1].all (bL N)=tP:=zj.out _ (by rw[vh.out];simp);have BE:ag=tP->[-z].all (bL N)=tP:=λe=>zj.out _ (by rw[vh.out,cI e];simp);have DS:=zH Bs;have D0:=zH BE;have D1:=zH By;clear vf Bs BE By A5
  go_upto_region 3 with(fail)
  obtain⟨Wd,ye⟩:=zE W1.drew;rw[ye] at vu;(try rw[ye]);have BT:aE w.heap.size w Wd:=by rw[<-ye];exact A6.out.drew
  have BY:=zH BT;clear ye BT DP;obtain⟨S1,yi⟩:=zE ((λw'=>aE Wd.heap.size Wd w'):World->Prop);have D2:S1 Wd.drew:=by rw[<-yi];exact(aq _ _).drew
  have zs:cj (∀W,aE Wd.heap.size Wd W->S1 W):=λW hW=>by rw[<-yi];exact hW
  have ue:cj (∀w,S1 w->ma D T MB TT f A v t u n1 n2 c1 c2 g up args.length gc n w):=λw hw=>by rw[<-yi] at hw;exact vt.out _ _ _ _ _ (vu.out.grow hw)
  clear yi;refine aj 12 S1 (by kernel_rfl) ?_;refine zT 0 rfl ue.out ?_;(try go_simp);refine zT 1 rfl ue.out ?_;(try go_simp);refine zT 2 rfl ue.out ?_;(try go_simp);refine zT 3 rfl ue.out ?_;(try go_simp);refine zT 4 rfl ue.out ?_;(try go_simp);refine zT 5 rfl ue.out ?_;(try go_simp);refine zT 6 rfl ue.out ?_;(try go_simp);refine zT 7 rfl ue.out ?_;(try go_simp);refine zT 8 rfl ue.out ?_;(try go_simp);refine zT 9 rfl ue.out ?_;(try go_simp);refine zO 10 rfl λK' j=> ?_;go_simp;go_at_call 107;refine(DG.out _ _ _ _ _ (vu.out.grow (aq _ _).drew)).mono ?_;rintro e w5 ⟨rfl,B5⟩;have yk:aE Wd.heap.size Wd w5:=(aq _ _).drew.trans B5;have B6:S1 w5:=zs.out _ yk;refine j _ _ B6 ?_;clear j;(try go_simp);refine zO 11 rfl λK' j=> ?_;go_simp;(try rw[Bk]);obtain⟨G,hG⟩:=zE w5.heap.size;obtain⟨W8,yp⟩:=zE (w5.alloc (uc #[Z U (-z),Z U J] 3));(try rw[hG]);(try rw[yp]);have B7:=il yp;have wg:aE Wd.heap.size Wd W8:=yk.trans (B7.mono yk.size);have B8:W8.heap[G]?=tG (uc #[Z U (-z),Z U J] 3 (0,0)):=by rw[<-yp,<-hG];exact alloc_at _ _
  have B9:S1 W8:=zs.out _ wg;refine j _ _ B9 ?_;clear j;(try go_simp);refine zK rfl λK' j=> ?_;go_simp;have Cd:=zH (jm W8 (vu.out.grow wg).as_.wn hN (tG ⟨G,0,tM⟩) [-z,J] 2 (ak.lit2 W8 (-z) J B8) DS.out (by simp) (by omega) (by omega));go_at_call 56;refine Cd.out.mono ?_;rintro e w9 ⟨rfl,Cl⟩;refine j _ _ ?_;clear j;refine⟨by kernel_rfl, ?_⟩;obtain⟨D3,s9,wj,Cp,CA,CC⟩:=(vu.out.grow wg).mv Cl;have zv:=zH wj;have CD:=zH Cp;have CH:=zH CA;have CM:=zH CC;have CN:aE w.heap.size w W8:=BY.out.trans (wg.mono BY.out.size);have CT:=zH CN;obtain⟨⟨x0,x1,x2,x3,x4⟩,⟨x7,x8⟩,y1,y2,y3,y4⟩:=vt.out _ _ _ _ _ wj;have GB:=zH wj.r1;have K:=wj.r1;clear Cl wj Cp CA CC CN wg B7 B8 yp hG B9 B6 yk B5 D2 Cd ue zs;have E:=(rowAt K 0 rfl).1;have z1:=(rowAt K 1 rfl).1;have z2:=(rowAt K 2 rfl).1;have z3:=(rowAt K 3 rfl).1;have z5:=(rowAt K 5 rfl).1;have z6:=(rowAt K 6 rfl).1;have z8:=(rowAt K 8 rfl).1;have z9:=(rowAt K 9 rfl).1;have yq:=(rowAt K 10 rfl).1;have yr:=(rowAt K 11 rfl).1;have yv:=(rowAt K 12 rfl).1;clear K;have C4:=zH (DH.out w9 _ _ _ _ zv.out w9 (aq _ _));have C5:cj (∀(C1:bj (bj aw))(Y1:bj (aw×aw)) An s1 (w1 W:World)(G:bh),Ag T Bb MB lv P N F C1 Y1 at_ B An s1 w0 TT RB c b hi D #[tW (tG ⟨T,0,tM⟩),Z U f,tU t n1 c1,tU u n2 c2,tW (tG ⟨TT,0,tM⟩)] #[Z U op,Z U d,Z U a,Z U bb,Z U A,Z U nn,tS vp,tU (tG ⟨g,up,tM⟩) args.length gc,tU mo mn mc,Z U vq,Z U vr,Z U ln,Z U cl] w1->C1.length+1<=1000000->Y1.length+1<=1000000->aE w1.heap.size w1 W->W.heap[G]?=tG (uc #[Z U (-(z+1))] 3 (0,0))->ge am 106 #[ub #[tW (tG ⟨T,0,tM⟩),Z U f,tU t n1 c1,tU u n2 c2,tW (tG ⟨TT,0,tM⟩)],Z U v,tU (tG ⟨G,0,tM⟩) 1 1] W λe w'=>e= ud (.tuple #[])/\aZ T Bb MB lv P N F (C1++[[-(z+1),J,J+1]]) (Y1++[at_]) at_ B An W w'):=λC1 Y1 An s1 w1 W G y D4 Ek hW hr=>by
   have:=kR W (y.grow hW).as_.wn hN f v hf A3 (by rw[yb.out];omega) t u n1 n2 c1 c2 (tG ⟨TT,0,tM⟩) (tG ⟨G,0,tM⟩) [-(z+1)] 1 (ak.lit1 W _ hr) (λh=>by cases h) (by simp) (by rw[yb.out];exact D1.out) (by simp) D4 Ek;rw[yb.out] at this;exact this
  cases ag with
  |false=>
   go_upto_region 6 with(go_at_call 195;refine C4.out.mono ?_;rintro e o ⟨rfl,At⟩;have wk:=zH (zv.out.grow At);have EV:=zH At;clear At)
   have Ax:cj (∀{C3 Y3 w3},aZ T Bb MB lv P N F C3 Y3 at_ B D3 o w3->aZ T Bb MB lv P N F C3 Y3 at_ B tg w w3):=λh3=>aZ.below CT.out (qi CD.out CH.out CM.out (aZ.below EV.out h3));clear x0 x1 x2 x3 x4 x7 x8 y1 y2 y3 y4 E z1 z2 z3 z5 z6 z8 z9 yq yr yv;obtain⟨S2,ur⟩:=zE ((λw'=>aE o.heap.size o w'):World->Prop);have AD:S2 o.drew:=by rw[<-ur];exact(aq _ _).drew
   have wl:cj (∀W,aE o.heap.size o W->S2 W):=λW hW=>by rw[<-ur];exact hW
   have q:cj (∀w,S2 w->ma D T MB TT f A v t u n1 n2 c1 c2 g up args.length gc n w):=λw hw=>by rw[<-ur] at hw;exact vt.out _ _ _ _ _ (wk.out.grow hw)
   clear ur;refine aj 10 S2 (by kernel_rfl) ?_;refine zT 0 rfl q.out ?_;(try go_simp);refine zT 1 rfl q.out ?_;(try go_simp);refine zT 2 rfl q.out ?_;(try go_simp);refine zT 3 rfl q.out ?_;(try go_simp);refine zT 4 rfl q.out ?_;(try go_simp);refine zT 5 rfl q.out ?_;(try go_simp);refine zT 6 rfl q.out ?_;(try go_simp);refine zT 7 rfl q.out ?_;(try go_simp);refine zT 8 rfl q.out ?_;(try go_simp);refine zO 9 rfl λK' j=> ?_;go_simp;(try rw[Bm]);obtain⟨G2,vm⟩:=zE o.heap.size;obtain⟨uv,ux⟩:=zE ((o.alloc (uc #[Z U (-(z+1))] 3)).drew);(try rw[vm]);(try rw[ux]);have vc:aE o.heap.size o uv:=by rw[<-ux];exact((aq _ _).alloc (cg _) _).drew
   have ws:uv.heap[G2]?=tG (uc #[Z U (-(z+1))] 3 (0,0)):=by rw[<-ux,<-vm];exact alloc_at _ _
   have xf:S2 uv:=wl.out _ vc;refine j _ _ xf ?_;clear j;(try go_simp);refine zK rfl λK' j=> ?_;go_simp;have xj:=zH (C5.out _ _ _ _ o uv G2 wk.out (by simp only[bo,cr];omega) (by simp only[bo,cr];omega) vc ws);go_at_call 106;refine xj.out.mono ?_;rintro e E0 ⟨rfl,xo⟩;refine j _ _ ?_;clear j;refine⟨by kernel_rfl, ?_⟩;have xp:=(Ax.out (aZ.below vc xo))
   have AE:=zH xp;clear xp xo vc ws ux vm xf AD xj q wl;go_wp2
   go_end0
   refine⟨rfl, ?_⟩;rw[vh.out];simpa using AE.out
  |true=>
   go_upto_region 5 with(go_at_call 195;refine C4.out.mono ?_;rintro e wy ⟨rfl,AF⟩;have AH:=zH (zv.out.grow AF);have E2:=zH AF;clear AF)
   clear x0 x1 x2 x3 x4 x7 x8 y1 y2 y3 y4 E z1 z2 z3 z5 z6 z8 z9 yq yr yv;obtain⟨⟨x0,x1,x2,x3,x4⟩,⟨x7,x8⟩,y1,y2,y3,y4⟩:=vt.out _ _ _ _ _ AH.out;obtain⟨G1,AI⟩:=zE wy.heap.size;obtain⟨AK,yy⟩:=zE (wy.alloc (uc #[Z U (-z)] 3));have yW:=il yy;have C6:AK.heap[G1]?=tG (uc #[Z U (-z)] 3 (0,0)):=by rw[<-yy,<-AI];exact alloc_at _ _
   have E3:=zH (jm AK (AH.out.grow yW).as_.wn hN (tG ⟨G1,0,tM⟩) [-z] 1 (ak.lit1 AK (-z) C6) (D0.out (by first|rfl|trivial)) (by simp) (by simp only[bo,cr];omega) (by simp only[bo,cr];omega));have E4:=zH (AH.out.grow yW);have E6:=zH yW;have E7:=zH yy;have Fc:=zH AI;clear yW C6 yy AI
   go_upto_region 6 with(go_at_call 56;(try rw[Bk]);(try rw[Fc.out]);(try rw[E7.out]);refine E3.out.mono ?_;rintro e o ⟨rfl,C7⟩;obtain⟨Fi,sz,Dd,Dg,Do,Ds⟩:=E4.out.mv C7;have wk:=zH Dd;have Fk:=zH Dg;have Fl:=zH Do;have Fm:=zH Ds;clear C7 Dd Dg Do Ds)
   have Ax:cj (∀{C3 Y3 w3},aZ T Bb MB lv P N F C3 Y3 at_ B Fi o w3->aZ T Bb MB lv P N F C3 Y3 at_ B tg w w3):=λh3=>aZ.below CT.out (qi CD.out CH.out CM.out (aZ.below E2.out (aZ.below E6.out (qi Fk.out Fl.out Fm.out h3))));have E:True:=trivial;have z1:=E;have z2:=E;have z3:=E;have z5:=E;have z6:=E;have z8:=E;have z9:=E;have yq:=E;have yr:=E;have yv:=E;clear x0 x1 x2 x3 x4 x7 x8 y1 y2 y3 y4 E z1 z2 z3 z5 z6 z8 z9 yq yr yv;obtain⟨S2,ur⟩:=zE ((λw'=>aE o.heap.size o w'):World->Prop);have AD:S2 o.drew:=by rw[<-ur];exact(aq _ _).drew
   have wl:cj (∀W,aE o.heap.size o W->S2 W):=λW hW=>by rw[<-ur];exact hW
   have q:cj (∀w,S2 w->ma D T MB TT f A v t u n1 n2 c1 c2 g up args.length gc n w):=λw hw=>by rw[<-ur] at hw;exact vt.out _ _ _ _ _ (wk.out.grow hw)
   clear ur;refine aj 10 S2 (by kernel_rfl) ?_;refine zT 0 rfl q.out ?_;(try go_simp);refine zT 1 rfl q.out ?_;(try go_simp);refine zT 2 rfl q.out ?_;(try go_simp);refine zT 3 rfl q.out ?_;(try go_simp);refine zT 4 rfl q.out ?_;(try go_simp);refine zT 5 rfl q.out ?_;(try go_simp);refine zT 6 rfl q.out ?_;(try go_simp);refine zT 7 rfl q.out ?_;(try go_simp);refine zT 8 rfl q.out ?_;(try go_simp);refine zO 9 rfl λK' j=> ?_;go_simp;(try rw[Bm]);obtain⟨G2,vm⟩:=zE o.heap.size;obtain⟨uv,ux⟩:=zE ((o.alloc (uc #[Z U (-(z+1))] 3)).drew);(try rw[vm]);(try rw[ux]);have vc:aE o.heap.size o uv:=by rw[<-ux];exact((aq _ _).alloc (cg _) _).drew
   have ws:uv.heap[G2]?=tG (uc #[Z U (-(z+1))] 3 (0,0)):=by rw[<-ux,<-vm];exact alloc_at _ _
   have xf:S2 uv:=wl.out _ vc;refine j _ _ xf ?_;clear j;(try go_simp);refine zK rfl λK' j=> ?_;go_simp;have xj:=zH (C5.out _ _ _ _ o uv G2 wk.out (by simp only[bo,cr];omega) (by simp only[bo,cr];omega) vc ws);go_at_call 106;refine xj.out.mono ?_;rintro e E0 ⟨rfl,xo⟩;refine j _ _ ?_;clear j;refine⟨by kernel_rfl, ?_⟩;have xp:=(Ax.out (aZ.below vc xo))
   have AE:=zH xp;clear xp xo vc ws ux vm xf AD xj q wl;go_wp2
   go_end0
   refine⟨rfl, ?_⟩;rw[vh.out];simpa using AE.out
end
def aS (T Bb MB:bh)(lv:cG fS×bh)(P:bj (aw×aw))(N:aw)(F:aw×aw->aw)(at_:aw×aw)(B:bh)(tg:bh->bh)(w0:World)(TT RB:bh)(c:dx)(b:bh->bh->bh)(hi:bh)(D:bh)(ac ic:eA cA)(W1:World)(C:bj (bj aw))(Y:bj (aw×aw))(w:World):Prop:=
 ∃d e,Ag T Bb MB lv P N F C Y at_ B d e w0 TT RB c b hi D ac ic w/\Ext (λq=>tg q≠0) W1 w/\(∀k,d k≠0->tg k≠0\/W1.heap.size<=k)/\∀k,tg k≠0->d k=tg k
section
variable {T Bb MB:bh}{lv:cG fS×bh}{P:bj (aw×aw)}{N:aw}{F:aw×aw->aw}{C C2:bj (bj aw)}{Y Y2:bj (aw×aw)}{at_ at2:aw×aw}{B:bh}{tg:bh->bh}{s:ow}{w0:World}{TT RB hi:bh}{c:dx}{b:bh->bh->bh}{D:bh}{ac ic:eA cA}{W1 w w' w2:World}
theorem aS.wn (h:aS T Bb MB lv P N F at_ B tg w0 TT RB c b hi D ac ic W1 C Y w):aZ T Bb MB lv P N F C Y at_ B tg W1 w:=by
 obtain⟨d,e,f,g,j,o⟩:=h;exact⟨d,e,f.as_.wn,g,j,o⟩
theorem aS.start (h:Ag T Bb MB lv P N F C Y at_ B tg s w0 TT RB c b hi D ac ic W1):aS T Bb MB lv P N F at_ B tg w0 TT RB c b hi D ac ic W1 C Y W1:=⟨tg,s,h,Ext.refl _ _,λ_ d=> .inl d,λ_ _=>rfl⟩
theorem aS.grow (h:aS T Bb MB lv P N F at_ B tg w0 TT RB c b hi D ac ic W1 C Y w)(d:aE w.heap.size w w'):aS T Bb MB lv P N F at_ B tg w0 TT RB c b hi D ac ic W1 C Y w':=by
 obtain⟨e,f,g,j,o,t⟩:=h;exact⟨e,f,g.grow d,j.trans (Ext.of_below_size (M:=λ_=>me) d) (λq h=>h.elim),o,t⟩
theorem aS.of {d:bh->bh}{j:ow}(o:Ag T Bb MB lv P N F C Y at_ B d j w0 TT RB c b hi D ac ic w)(g:Ext (λq=>tg q≠0) W1 w)(h:∀k,d k≠0->tg k≠0\/W1.heap.size<=k)(t:∀k,tg k≠0->d k=tg k)(u:aZ T Bb MB lv P N F C2 Y2 at_ B d w w'):aS T Bb MB lv P N F at_ B tg w0 TT RB c b hi D ac ic W1 C2 Y2 w':=by
 obtain⟨v,x,y,z,A,E⟩:=o.mv u;refine⟨v,x,y,g.trans z (λq G=>h q G),λk f=> ?_,λk f=> ?_⟩
 ·rcases A k f with e|e
  ·exact h k e
  ·exact .inr (eJ g.size e)
 ·have:=t k f
  rw[E k (by omega),this]
theorem aS.then_ {d:bh->bh}{e:ow}(f:Ag T Bb MB lv P N F C Y at_ B d e w0 TT RB c b hi D ac ic w)(g:Ext (λq=>tg q≠0) W1 w)(h:∀k,d k≠0->tg k≠0\/W1.heap.size<=k)(j:∀k,tg k≠0->d k=tg k)(o:aE w.heap.size w w2)(t:aZ T Bb MB lv P N F C2 Y2 at_ B d w2 w'):aS T Bb MB lv P N F at_ B tg w0 TT RB c b hi D ac ic W1 C2 Y2 w':=
 aS.of f g h j (aZ.below o t)
theorem aS.put2 (h:aS T Bb MB lv P N F at_ B tg w0 TT RB c b hi D ac ic W1 C Y w)(g:0<=N/\N<=9000000)(x y:aw)(j:[x,y].all (bL N)=tP)(o:C.length+1<=1000000)(q:Y.length+1<=1000000):
  ge am 56 #[tW (tG ⟨T,0,tM⟩),tU (tG ⟨w.heap.size,0,tM⟩) 2 2] (w.alloc (uc #[Z U x,Z U y] 3)) λe w'=>e= ud (.tuple #[])/\aS T Bb MB lv P N F at_ B tg w0 TT RB c b hi D ac ic W1 (C++[[x,y]]) (Y++[at_]) w':=by
 have d:aE w.heap.size w (w.alloc (uc #[Z U x,Z U y] 3)):=(aq _ _).alloc (cg _) _;obtain⟨A,E,f,t,u,v⟩:=h;refine(jm _ (f.grow d).as_.wn g (tG ⟨w.heap.size,0,tM⟩) [x,y] 2 (ak.lit2 _ x y (alloc_at _ _)) j (by simp) o q).mono ?_;rintro e w2 ⟨rfl,z⟩;exact⟨rfl,aS.then_ f t u v d z⟩
theorem aS.put1 (h:aS T Bb MB lv P N F at_ B tg w0 TT RB c b hi D ac ic W1 C Y w)(g:0<=N/\N<=9000000)(x:aw)(j:[x].all (bL N)=tP)(o:C.length+1<=1000000)(q:Y.length+1<=1000000):
  ge am 56 #[tW (tG ⟨T,0,tM⟩),tU (tG ⟨w.heap.size,0,tM⟩) 1 1] (w.alloc (uc #[Z U x] 3)) λe w'=>e= ud (.tuple #[])/\aS T Bb MB lv P N F at_ B tg w0 TT RB c b hi D ac ic W1 (C++[[x]]) (Y++[at_]) w':=by
 have d:aE w.heap.size w (w.alloc (uc #[Z U x] 3)):=(aq _ _).alloc (cg _) _;obtain⟨z,A,f,t,u,v⟩:=h;refine(jm _ (f.grow d).as_.wn g (tG ⟨w.heap.size,0,tM⟩) [x] 1 (ak.lit1 _ x (alloc_at _ _)) j (by simp) o q).mono ?_;rintro e w2 ⟨rfl,y⟩;exact⟨rfl,aS.then_ f t u v d y⟩
theorem aS.o (h:aS T Bb MB lv P N F at_ B tg w0 TT RB c b hi D ac ic W1 C Y w)(f v:aw)(j:bN f)(q:bN v)(d e:cG fS)(n1 n2 c1 c2:bh)(g:cG fS):
  zP 107 #[ub #[tW (tG ⟨T,0,tM⟩),Z U f,tU d n1 c1,tU e n2 c2,.pointer g],Z U v] w (Z U (F (f,v))):=by
 obtain⟨u,x,t,y,z,A⟩:=h;exact yQ w t.as_.wn f v j q d e n1 n2 c1 c2 g
theorem aS.look (h:aS T Bb MB lv P N F at_ B tg w0 TT RB c b hi D ac ic W1 C Y w){f v:aw}(d:bN f)(e:bN v):(nr 118 (.map (tG MB)) (ub #[Z U f,Z U v]) tR).run am w= .ok (Z U (F (f,v))) w:=by
 obtain⟨j,o,g,q,t,u⟩:=h;exact g.as_.wn.map.look d e
theorem aS.rows (h:aS T Bb MB lv P N F at_ B tg w0 TT RB c b hi D ac ic W1 C Y w):w.heap[D]?=tG (uc ac 129 (0,0))/\w.heap[D+1]?=tG (uc ic 42 (0,0))/\w.cell? ⟨T,2,tM⟩=tG (.map (tG MB))/\T<w.heap.size:=by
 obtain⟨e,f,d,g,j,o⟩:=h;exact⟨d.r0,d.r1,(rowAt d.as_.wn.row 2 rfl).1,aa d.as_.wn.row⟩
end
abbrev kE (D T TT:bh)(f op d a e g h:aw)(j:bm)(o q:cG fS)(t gc u v:bh)(x y z A:aw)(E G:cG fS)(n1 n2 c1 c2:bh)(w:World):Prop:=
 (w.cell? ⟨D,0,tM⟩=tG (tW (tG ⟨T,0,tM⟩))/\w.cell? ⟨D,1,tM⟩=tG (Z U f)/\w.cell? ⟨D,2,tM⟩=tG (tU E n1 c1)/\w.cell? ⟨D,3,tM⟩=tG (tU G n2 c2)/\w.cell? ⟨D,4,tM⟩=tG (tW (tG ⟨TT,0,tM⟩)))/\
 (w.cell? ⟨D+1,0,tM⟩=tG (Z U op)/\w.cell? ⟨D+1,1,tM⟩=tG (Z U d)/\w.cell? ⟨D+1,2,tM⟩=tG (Z U a)/\w.cell? ⟨D+1,3,tM⟩=tG (Z U e)/\w.cell? ⟨D+1,4,tM⟩=tG (Z U g)/\w.cell? ⟨D+1,5,tM⟩=tG (Z U h)/\w.cell? ⟨D+1,6,tM⟩=tG (tS j)/\w.cell? ⟨D+1,7,tM⟩=tG (tU o t gc)/\w.cell? ⟨D+1,8,tM⟩=tG (tU q u v)/\w.cell? ⟨D+1,9,tM⟩=tG (Z U x)/\w.cell? ⟨D+1,10,tM⟩=tG (Z U y)/\w.cell? ⟨D+1,11,tM⟩=tG (Z U z)/\w.cell? ⟨D+1,12,tM⟩=tG (Z U A))/\D+1<w.heap.size
theorem uf {D T TT:bh}{f op d a g h j:aw}{o:bm}{q t:cG fS}{u gc v x:bh}{y z A E:aw}{G J:cG fS}{n1 n2 c1 c2:bh}{w:World}(h0:w.heap[D]?=tG (uc #[tW (tG ⟨T,0,tM⟩),Z U f,tU G n1 c1,tU J n2 c2,tW (tG ⟨TT,0,tM⟩)] 129 (0,0)))(e:w.heap[D+1]?=tG (uc #[Z U op,Z U d,Z U a,Z U g,Z U h,Z U j,tS o,tU q u gc,tU t v x,Z U y,Z U z,Z U A,Z U E] 42 (0,0))):kE D T TT f op d a g h j o q t u gc v x y z A E G J n1 n2 c1 c2 w:=
 ⟨⟨(rowAt h0 0 rfl).1,(rowAt h0 1 rfl).1,(rowAt h0 2 rfl).1,(rowAt h0 3 rfl).1,(rowAt h0 4 rfl).1⟩,⟨(rowAt e 0 rfl).1,(rowAt e 1 rfl).1,(rowAt e 2 rfl).1,(rowAt e 3 rfl).1,(rowAt e 4 rfl).1,(rowAt e 5 rfl).1,(rowAt e 6 rfl).1,(rowAt e 7 rfl).1,(rowAt e 8 rfl).1,(rowAt e 9 rfl).1,(rowAt e 10 rfl).1,(rowAt e 11 rfl).1,(rowAt e 12 rfl).1⟩,aa e⟩
def qj (o:aw->aw)(a:aw):bj (bj aw):=if o (-1)=0 then[] else[[-(o (-1)),o a],[o (-1),-(o a)],[-(o (-1)+1),o a+1]]
def iV (F:aw×aw->aw)(o:aw->aw)(beh:aw->mm)(i:Ins):bh->bj aw->bj (bj aw)
 |_,[]=>[]
 |n,a::r=>l8 o (F (i.f,(n:aw))) (dE beh i.d i.args n a) a++iV F o beh i (n+1) r
theorem ql {P:bj (aw×aw)}{o:aw->aw}{beh:aw->mm}{i:Ins}:∀(l:bj aw)(n:bh),iV (aG 0 P) o beh i n l=nH P o beh i n l
 |[],_=>rfl
 |a::r,n=>by unfold iV nH;rw[ql r (n+1)]
theorem nX {F:aw×aw->aw}{o:aw->aw}{beh:aw->mm}{i:Ins}{a:aw}:∀(l:bj aw)(n:bh),iV F o beh i n (l++[a])=iV F o beh i n l++l8 o (F (i.f,((n+l.length:bh):aw))) (dE beh i.d i.args (n+l.length) a) a
 |[],n=>by simp[iV]
 |x::r,n=>by
  rw[ij];unfold iV;rw[nX r (n+1),eq,eV,show n+1+r.length=n+(r.length+1) by omega]
theorem Gd {o:aw->aw}{p a:aw}{ag:mm}:(l8 o p ag a).length<=3:=by
 unfold l8
 by_cases h:p=0
 ·rw[cI h];simp
 ·rw[bx h];cases ag<;>simp
theorem mI {F:aw×aw->aw}{o:aw->aw}{beh:aw->mm}{i:Ins}:∀(l:bj aw)(n:bh),(iV F o beh i n l).length<=3*l.length
 |[],_=>by simp[iV]
 |x::r,n=>by
  unfold iV;rw[bo,eV];have e:=mI (F:=F) (o:=o) (beh:=beh) (i:=i) r (n+1);have g:=Gd (o:=o) (p:=F (i.f,(n:aw))) (a:=x) (ag:=dE beh i.d i.args n x);omega
theorem xe {F:aw×aw->aw}{o:aw->aw}{beh:aw->mm}{i:Ins}{a:aw}{x:bj aw}:∀(l:bj aw)(n j:bh),l[j]?=tG a->x∈l8 o (F (i.f,((n+j:bh):aw))) (dE beh i.d i.args (n+j) a) a->x∈iV F o beh i n l
 |[],_,_,h,_=>by simp at h
 |y::r,n,0,h,e=>by
  obtain rfl:y=a:=by simpa using h
  unfold iV;exact cX.2 (.inl e)
 |y::r,n,j+1,h,e=>by
  unfold iV;refine cX.2 (.inr (xe r (n+1) j (by simpa using h) ?_));rw[show n+1+j=n+(j+1) by omega];exact e
def fI (F:aw×aw->aw)(f:aw)(beh:aw->mm)(i:Ins):bj (bj aw):=
 iV F (λv=>F (f,v)) beh i 0 i.args++(if 0<F (f,i.d) then[[-(F (f,i.d)),F (i.f,-1)],[F (f,i.d),-(F (i.f,-1))],[-(F (f,i.d)+1),F (i.f,-1)+1],[F (f,i.d)+1,-(F (i.f,-1)+1)]] else[])
section
variable {T Bb MB:bh}{lv:cG fS×bh}{P:bj (aw×aw)}{N:aw}{F:aw×aw->aw}{C C2:bj (bj aw)}{Y Y2:bj (aw×aw)}{at_ at2:aw×aw}{B:bh}{tg:bh->bh}{s:ow}{w0:World}{TT RB hi:bh}{c:dx}{b:bh->bh->bh}
theorem EK (w:World)(h:As T Bb MB lv P N F C Y at_ B tg s w0 TT RB c b hi w)(hN:0<=N/\N<=9000000)(hF:∀x,0<=F x/\F x<=9000000)(f:aw)(hf:bN f)(g j:cG fS)(n1 n2 c1 c2:bh)(i:Ins)(t:cG fS)(gc:bh)(xF:i.argsV= tU t i.args.length gc)(zs:∃ao n cap,i.modeV= tU ao n cap)(xT:bN i.a)
  (hl:C.length+3<=1000000)(AI:Y.length+3<=1000000)(vy:∀x∈qj (λv=>F (f,v)) i.a,x.all (bL N)=tP):
  ge am 110 #[ub #[tW (tG ⟨T,0,tM⟩),Z U f,tU g n1 c1,tU j n2 c2,tW (tG ⟨TT,0,tM⟩)],ub i.cells] w λe w'=>e= ud (.tuple #[])/\aZ T Bb MB lv P N F (C++qj (λv=>F (f,v)) i.a) (Y++(qj (λv=>F (f,v)) i.a).map λ_=>at_) at_ B tg w w':=by
 obtain⟨D,hD⟩:=zE w.heap.size;have vd:=Ag.box h #[tW (tG ⟨T,0,tM⟩),Z U f,tU g n1 c1,tU j n2 c2,tW (tG ⟨TT,0,tM⟩)] i.cells;rw[hD] at vd;obtain⟨G,J,K,yb⟩:=zs;obtain⟨op,d,a,R,ff,nn,ue,argsV,modeV,up,ur,ln,cl,args⟩:=i;simp only at xF yb xT vy⊢;subst xF yb;simp only[Ins.cells] at vd⊢;obtain⟨W1,vr⟩:=zE ((w.alloc (uc #[tW (tG ⟨T,0,tM⟩),Z U f,tU g n1 c1,tU j n2 c2,tW (tG ⟨TT,0,tM⟩)] 129)).alloc (uc #[Z U op,Z U d,Z U a,Z U R,Z U ff,Z U nn,tS ue,tU t args.length gc,tU G J K,Z U up,Z U ur,Z U ln,Z U cl] 42));rw[vr] at vd;have yd:=E8 vr;have vf:cj (aS T Bb MB lv P N F at_ B tg w0 TT RB c b hi D #[tW (tG ⟨T,0,tM⟩),Z U f,tU g n1 c1,tU j n2 c2,tW (tG ⟨TT,0,tM⟩)] #[Z U op,Z U d,Z U a,Z U R,Z U ff,Z U nn,tS ue,tU t args.length gc,tU G J K,Z U up,Z U ur,Z U ln,Z U cl] W1 C Y W1):=aS.start vd;have vt:cj (∀C2 Y2 w2,aS T Bb MB lv P N F at_ B tg w0 TT RB c b hi D #[tW (tG ⟨T,0,tM⟩),Z U f,tU g n1 c1,tU j n2 c2,tW (tG ⟨TT,0,tM⟩)] #[Z U op,Z U d,Z U a,Z U R,Z U ff,Z U nn,tS ue,tU t args.length gc,tU G J K,Z U up,Z U ur,Z U ln,Z U cl] W1 C2 Y2 w2->kE D T TT f op d a R ff nn ue t G args.length gc J K up ur ln cl g j n1 n2 c1 c2 w2/\w2.cell? ⟨T,2,tM⟩=tG (.map (tG MB))/\T<w2.heap.size):=λC2 Y2 w2 h2=>by
  obtain⟨r0,r1,r2,r3⟩:=h2.rows;exact⟨uf r0 r1,r2,r3⟩
 have zv:=zH vr;have ye:=zH yd;clear vr yd h vd;obtain⟨r,hr⟩:=zE (F (f,-1));obtain⟨x,hx⟩:=zE (F (f,a));have vu:=hF (f,-1);have yi:=hF (f,a);rw[hr] at vu;rw[hx] at yi;obtain⟨AK,AM⟩:=vu;obtain⟨AN,AS⟩:=yi;have An:cj (∀C2 Y2 w2,aS T Bb MB lv P N F at_ B tg w0 TT RB c b hi D #[tW (tG ⟨T,0,tM⟩),Z U f,tU g n1 c1,tU j n2 c2,tW (tG ⟨TT,0,tM⟩)] #[Z U op,Z U d,Z U a,Z U R,Z U ff,Z U nn,tS ue,tU t args.length gc,tU G J K,Z U up,Z U ur,Z U ln,Z U cl] W1 C2 Y2 w2->zP 107 #[ub #[tW (tG ⟨T,0,tM⟩),Z U f,tU g n1 c1,tU j n2 c2,tW (tG ⟨TT,0,tM⟩)],Z U (-1)] w2 (Z U r)):=λC2 Y2 w2 h2=>by rw[<-hr];exact h2.o f (-1) hf (by unfold bN;omega) g j n1 n2 c1 c2 _
 have At:cj (∀C2 Y2 w2,aS T Bb MB lv P N F at_ B tg w0 TT RB c b hi D #[tW (tG ⟨T,0,tM⟩),Z U f,tU g n1 c1,tU j n2 c2,tW (tG ⟨TT,0,tM⟩)] #[Z U op,Z U d,Z U a,Z U R,Z U ff,Z U nn,tS ue,tU t args.length gc,tU G J K,Z U up,Z U ur,Z U ln,Z U cl] W1 C2 Y2 w2->zP 107 #[ub #[tW (tG ⟨T,0,tM⟩),Z U f,tU g n1 c1,tU j n2 c2,tW (tG ⟨TT,0,tM⟩)],Z U a] w2 (Z U x)):=λC2 Y2 w2 h2=>by rw[<-hx];exact h2.o f a hf xT g j n1 n2 c1 c2 _
 have HR:cj (qj (λv=>F (f,v)) a=if r=0 then[] else[[-r,x],[r,-x],[-(r+1),x+1]]):=by unfold cj qj;simp only[hr,hx]
 have we:=zH vy;have w1:dT.wrap (-r)= -r:=by simp[eK,eL,ep];omega
 have w2:dT.wrap (-x)= -x:=by simp[eK,eL,ep];omega
 have w3:dT.wrap (r+1)=r+1:=by simp[eK,eL,ep];omega
 have w4:dT.wrap (-(r+1))= -(r+1):=by simp[eK,eL,ep];omega
 have w5:dT.wrap (x+1)=x+1:=by simp[eK,eL,ep];omega
 clear vy hr hx;go_enter func110,ntmps110
 go_upto_region 1 with(fail)
 rw[zv.out];obtain⟨S1,vx⟩:=zE ((λw'=>aE W1.heap.size W1 w'):World->Prop);have Ax:S1 W1.drew:=by rw[<-vx];exact(aq _ _).drew
 have wg:cj (∀W,aE W1.heap.size W1 W->S1 W):=λW hW=>by rw[<-vx];exact hW
 have yk:cj (∀W,S1 W->aE W1.heap.size W1 W):=λW hW=>by rw[<-vx] at hW;exact hW
 have uv:cj (∀w,S1 w->kE D T TT f op d a R ff nn ue t G args.length gc J K up ur ln cl g j n1 n2 c1 c2 w):=λw hw=>(vt.out _ _ _ (vf.out.grow (yk.out w hw))).1;clear vx;refine aj 7 S1 (by kernel_rfl) ?_;refine zT 0 rfl uv.out ?_;(try go_simp);refine zT 2 rfl uv.out ?_;(try go_simp);refine zT 3 rfl uv.out ?_;(try go_simp);refine zT 4 rfl uv.out ?_;(try go_simp);refine zO 1 rfl λK' u=> ?_;go_simp;go_at_call 107;refine(An.out _ _ _ (vf.out.grow (aq _ _).drew)).mono ?_;rintro e yp ⟨rfl,yq⟩;have vh:aE W1.heap.size W1 yp:=(aq _ _).drew.trans yq;have yr:S1 yp:=wg.out _ vh;refine u _ _ yr ?_;clear u;(try go_simp);refine zO 5 rfl λK' u=> ?_;go_simp;go_at_call 107;refine(At.out _ _ _ (vf.out.grow vh)).mono ?_;rintro e w6 ⟨rfl,yv⟩;have wj:aE W1.heap.size W1 w6:=vh.trans (yv.mono vh.size);have yy:S1 w6:=wg.out _ wj;refine u _ _ yy ?_;clear u;(try go_simp);refine zT 6 rfl uv.out ?_;(try go_simp);refine zK rfl λK' u=> ?_;go_simp;refine u _ _ ?_;clear u;refine⟨by kernel_rfl, ?_⟩;have wk:=vf.out.grow wj;have wl:=zH wk;clear yy yr Ax uv yk wg yv yq vh wj vf
 by_cases ux:r=0
 ·have vu:(r==0)=tP:=by rw[ux];rfl
  have vc:cj (qj (λv=>F (f,v)) a=[]):=by unfold cj;rw[HR.out,cI ux]
  clear ux wk;go_wp2;refine er (li rfl _ _ _) rfl ?_;rw[vc.out,pm,ej,ej];have:=wl.out.wn;exact⟨rfl,aZ.below ye.out this⟩
 ·have vu:(r==0)=tR:=ef ux
  have vc:cj (qj (λv=>F (f,v)) a=[[-r,x],[r,-x],[-(r+1),x+1]]):=by unfold cj;rw[HR.out,bx ux]
  have AD:cj ([-r,x].all (bL N)=tP):=we.out _ (by rw[vc.out];simp);have AE:cj ([r,-x].all (bL N)=tP):=we.out _ (by rw[vc.out];simp);have AF:cj ([-(r+1),x+1].all (bL N)=tP):=we.out _ (by rw[vc.out];simp);clear ux;clear wk;obtain⟨⟨x0,x1,x2,x3,x4⟩,⟨z0,z1,z2,z3,z4,z5,z6,z7,z8,z9,vm,vp,vq⟩,y2⟩:=(vt.out _ _ _ wl.out).1;obtain⟨G0,ws⟩:=zE w6.heap.size;obtain⟨V0,xf⟩:=zE (w6.alloc (uc #[Z U (-r),Z U (x)] 3));have q:=aS.put2 wl.out hN (-r) (x) AD.out (by(try simp only[bo,cr]);omega) (by(try simp only[bo,cr]);omega);rw[ws,xf] at q;have y:=zH q;have z:=zH xf;have A:=zH ws;clear q xf ws
  go_upto_region 4 with(go_at_call 56;(try rw[A.out]);(try simp only[w1,w2,w3,w4,w5]);(try rw[z.out]);refine y.out.mono ?_;rintro e yW ⟨rfl,E⟩;have zc:=zH E;clear E)
  clear x0 x1 x2 x3 x4 z0 z1 z2 z3 z4 z5 z6 z7 z8 z9 vm vp vq y2 y z A;obtain⟨⟨x0,x1,x2,x3,x4⟩,⟨z0,z1,z2,z3,z4,z5,z6,z7,z8,z9,vm,vp,vq⟩,y2⟩:=(vt.out _ _ _ zc.out).1;obtain⟨G1,xj⟩:=zE yW.heap.size;obtain⟨V1,xo⟩:=zE (yW.alloc (uc #[Z U (r),Z U (-x)] 3));have q:=aS.put2 zc.out hN (r) (-x) AE.out (by(try simp only[bo,cr]);omega) (by(try simp only[bo,cr]);omega);rw[xj,xo] at q;have y:=zH q;have z:=zH xo;have A:=zH xj;clear q xo xj
  go_upto_region 5 with(go_at_call 56;(try rw[A.out]);(try simp only[w1,w2,w3,w4,w5]);(try rw[z.out]);refine y.out.mono ?_;rintro e zj ⟨rfl,E⟩;have zp:=zH E;clear E)
  clear x0 x1 x2 x3 x4 z0 z1 z2 z3 z4 z5 z6 z7 z8 z9 vm vp vq y2 y z A;obtain⟨⟨x0,x1,x2,x3,x4⟩,⟨z0,z1,z2,z3,z4,z5,z6,z7,z8,z9,vm,vp,vq⟩,y2⟩:=(vt.out _ _ _ zp.out).1;obtain⟨G2,xp⟩:=zE zj.heap.size;obtain⟨V2,xt⟩:=zE (zj.alloc (uc #[Z U (-(r+1)),Z U (x+1)] 3));have q:=aS.put2 zp.out hN (-(r+1)) (x+1) AF.out (by(try simp only[bo,cr]);omega) (by(try simp only[bo,cr]);omega);rw[xp,xt] at q;have y:=zH q;have z:=zH xt;have A:=zH xp;clear q xt xp
  go_wp2_with (go_at_call 56;(try rw[A.out]);(try simp only[w1,w2,w3,w4,w5]);(try rw[z.out]);refine y.out.mono ?_;rintro e AT ⟨rfl,E⟩;have AH:=zH E;clear E)
  clear x0 x1 x2 x3 x4 z0 z1 z2 z3 z4 z5 z6 z7 z8 z9 vm vp vq y2 y z A
  go_end0
  refine⟨rfl, ?_⟩;have:=AH.out.wn;rw[vc.out];refine aZ.below ye.out ?_;simpa using this
end
section
variable {T Bb MB:bh}{lv:cG fS×bh}{P:bj (aw×aw)}{N:aw}{F:aw×aw->aw}{C C2:bj (bj aw)}{Y Y2:bj (aw×aw)}{at_ at2:aw×aw}{B:bh}{tg:bh->bh}{s:ow}{w0:World}{TT RB hi:bh}{c:dx}{b:bh->bh->bh}
theorem Bg (w:World)(h:As T Bb MB lv P N F C Y at_ B tg s w0 TT RB c b hi w)(hN:0<=N/\N<=9000000)(hF:∀x,0<=F x/\F x<=9000000)(f:aw)(hf:bN f)(A E:cG fS)(n1 n2 c1 c2:bh)(i:Ins)(t:cG fS)(gc:bh)(yr:i.argsV= tU t i.args.length gc)(A0:∃ao n cap,i.modeV= tU ao n cap)(xf:ak w0 t i.args)(yv:i.args.length<=40)(xj:bN i.f)(yy:bN i.d)
  (k:bh)(hk:k<c.ins.length)(hv:∀v∈i.args,isVar c.nvars v=tP)(A1:c.ins.length<=90000)(A2:c.nvars<=90000)(hl:C.length+130<=1000000)(B9:Y.length+130<=1000000)
  (vx:∀x∈fI F f (bg b k) i,x.all (bL N)=tP):
  ge am 109 #[ub #[tW (tG ⟨T,0,tM⟩),Z U f,tU A n1 c1,tU E n2 c2,tW (tG ⟨TT,0,tM⟩)],ub i.cells,Z U (k:aw)] w λe w'=>e= ud (.tuple #[])/\aZ T Bb MB lv P N F (C++fI F f (bg b k) i) (Y++(fI F f (bg b k) i).map λ_=>at_) at_ B tg w w':=by
 obtain⟨D,hD⟩:=zE w.heap.size;have vr:=Ag.box h #[tW (tG ⟨T,0,tM⟩),Z U f,tU A n1 c1,tU E n2 c2,tW (tG ⟨TT,0,tM⟩)] i.cells;rw[hD] at vr;obtain⟨u,y,z,yW⟩:=A0;obtain⟨op,d,a,G,g,J,K,argsV,modeV,R,ue,ln,cl,args⟩:=i;simp only at yr yW yy xj hv yv xf vx⊢;subst yr yW;simp only[Ins.cells] at vr⊢;obtain⟨W1,vy⟩:=zE ((w.alloc (uc #[tW (tG ⟨T,0,tM⟩),Z U f,tU A n1 c1,tU E n2 c2,tW (tG ⟨TT,0,tM⟩)] 129)).alloc (uc #[Z U op,Z U d,Z U a,Z U G,Z U g,Z U J,tS K,tU t args.length gc,tU u y z,Z U R,Z U ue,Z U ln,Z U cl] 42));rw[vy] at vr;have zc:=E8 vy;have zj:cj (aS T Bb MB lv P N F at_ B tg w0 TT RB c b hi D #[tW (tG ⟨T,0,tM⟩),Z U f,tU A n1 c1,tU E n2 c2,tW (tG ⟨TT,0,tM⟩)] #[Z U op,Z U d,Z U a,Z U G,Z U g,Z U J,tS K,tU t args.length gc,tU u y z,Z U R,Z U ue,Z U ln,Z U cl] W1 C Y W1):=aS.start vr;have vp:cj (∀C2 Y2 w2,aS T Bb MB lv P N F at_ B tg w0 TT RB c b hi D #[tW (tG ⟨T,0,tM⟩),Z U f,tU A n1 c1,tU E n2 c2,tW (tG ⟨TT,0,tM⟩)] #[Z U op,Z U d,Z U a,Z U G,Z U g,Z U J,tS K,tU t args.length gc,tU u y z,Z U R,Z U ue,Z U ln,Z U cl] W1 C2 Y2 w2->kE D T TT f op d a G g J K t u args.length gc y z R ue ln cl A E n1 n2 c1 c2 w2/\w2.cell? ⟨T,2,tM⟩=tG (.map (tG MB))/\T<w2.heap.size):=λC2 Y2 w2 h2=>by
  obtain⟨r0,r1,r2,r3⟩:=h2.rows;exact⟨uf r0 r1,r2,r3⟩
 have A3:=zH vy;have zp:=zH zc;clear vy zc h vr;obtain⟨r,hr⟩:=zE (F (g,-1));obtain⟨x,hx⟩:=zE (F (f,d));have zs:=hF (g,-1);have we:=hF (f,d);rw[hr] at zs;rw[hx] at we;obtain⟨Cd,Cl⟩:=zs;obtain⟨Cp,CA⟩:=we;have A4:cj (∀C2 Y2 w2,aS T Bb MB lv P N F at_ B tg w0 TT RB c b hi D #[tW (tG ⟨T,0,tM⟩),Z U f,tU A n1 c1,tU E n2 c2,tW (tG ⟨TT,0,tM⟩)] #[Z U op,Z U d,Z U a,Z U G,Z U g,Z U J,tS K,tU t args.length gc,tU u y z,Z U R,Z U ue,Z U ln,Z U cl] W1 C2 Y2 w2->zP 107 #[ub #[tW (tG ⟨T,0,tM⟩),Z U f,tU A n1 c1,tU E n2 c2,tW (tG ⟨TT,0,tM⟩)],Z U d] w2 (Z U x)):=λC2 Y2 w2 h2=>by rw[<-hx];exact h2.o f d hf yy A E n1 n2 c1 c2 _
 have A5:cj (∀C2 Y2 w2,aS T Bb MB lv P N F at_ B tg w0 TT RB c b hi D #[tW (tG ⟨T,0,tM⟩),Z U f,tU A n1 c1,tU E n2 c2,tW (tG ⟨TT,0,tM⟩)] #[Z U op,Z U d,Z U a,Z U G,Z U g,Z U J,tS K,tU t args.length gc,tU u y z,Z U R,Z U ue,Z U ln,Z U cl] W1 C2 Y2 w2->(nr 118 (.map (tG MB)) (ub #[Z U g,Z U (-1)]) tR).run am w2= .ok (Z U r) w2):=λC2 Y2 w2 h2=>by rw[<-hr];exact h2.look xj (by unfold bN;omega)
 obtain⟨AG,vt⟩:=zE ((iV F (λv=>F (f,v)) (bg b k) (⟨op,d,a,G,g,J,K,tU t args.length gc,tU u y z,R,ue,ln,cl,args⟩:Ins) 0):bj aw->bj (bj aw));have zv:cj (fI F f (bg b k) (⟨op,d,a,G,g,J,K,tU t args.length gc,tU u y z,R,ue,ln,cl,args⟩:Ins)=AG args++(if 0<x then[[-x,r],[x,-r],[-(x+1),r+1],[x+1,-(r+1)]] else[])):=by unfold cj fI;simp only[hr,hx];rw[<-vt]
 have An:cj (∀l:bj aw,(AG l).length<=3*l.length):=λl=>by rw[<-vt];exact mI l 0
 have A6:cj (AG []=[]):=by unfold cj;rw[<-vt];rfl
 have Bk:cj (∀(j:bh)(v:aw)(wr:World),args[j]?=tG v->aS T Bb MB lv P N F at_ B tg w0 TT RB c b hi D #[tW (tG ⟨T,0,tM⟩),Z U f,tU A n1 c1,tU E n2 c2,tW (tG ⟨TT,0,tM⟩)] #[Z U op,Z U d,Z U a,Z U G,Z U g,Z U J,tS K,tU t args.length gc,tU u y z,Z U R,Z U ue,Z U ln,Z U cl] W1 (C++AG (args.take j)) (Y++(AG (args.take j)).map λ_=>at_) wr->ge am 149 #[ub #[tW (tG ⟨T,0,tM⟩),Z U f,tU A n1 c1,tU E n2 c2,tW (tG ⟨TT,0,tM⟩)],ub #[Z U op,Z U d,Z U a,Z U G,Z U g,Z U J,tS K,tU t args.length gc,tU u y z,Z U R,Z U ue,Z U ln,Z U cl],Z U (j:aw),Z U (k:aw)] wr λe w'=>e= ud (.tuple #[])/\aS T Bb MB lv P N F at_ B tg w0 TT RB c b hi D #[tW (tG ⟨T,0,tM⟩),Z U f,tU A n1 c1,tU E n2 c2,tW (tG ⟨TT,0,tM⟩)] #[Z U op,Z U d,Z U a,Z U G,Z U g,Z U J,tS K,tU t args.length gc,tU u y z,Z U R,Z U ue,Z U ln,Z U cl] W1 (C++AG (args.take (j+1))) (Y++(AG (args.take (j+1))).map λ_=>at_) w'):=λj v wr hj hm=>by
  obtain⟨CC,s',hg,l1,l2,l3⟩:=hm;have Bm:(args.take j).length=j:=by rw[ee];have:=(bl.1 hj).1;omega
  have xo:=(bl.1 hj).1;have CD:=An.out (args.take j);have:=EJ wr hg.as_ hN hF f hf A E n1 n2 c1 c2 (⟨op,d,a,G,g,J,K,tU t args.length gc,tU u y z,R,ue,ln,cl,args⟩:Ins) t gc rfl ⟨u,y,z,rfl⟩ xf yv xj j v hj k hk (hv v (cd hj)) A1 A2 (by rw[bo];omega) (by rw[bo,dy];omega) (λq hq=>vx q (by
   unfold fI;exact cX.2 (.inl (xe args 0 j hj (by rw[cL];exact hq)))))
  simp only[Ins.cells] at this;refine this.mono ?_;rintro e w2 ⟨rfl,Bs⟩;refine⟨rfl, ?_⟩;have hs:AG (args.take (j+1))=AG (args.take j)++l8 (λv=>F (f,v)) (F (g,(j:aw))) (dE (bg b k) d args j v) v:=by
   rw[aH hj,<-vt,nX,cL,Bm]
  rw[hs,dp,<-eq,<-eq];exact aS.of hg l1 l2 l3 Bs
 have wg:=zH vx;have w1:dT.wrap (-r)= -r:=by simp[eK,eL,ep];omega
 have w2:dT.wrap (-x)= -x:=by simp[eK,eL,ep];omega
 have w3:dT.wrap (r+1)=r+1:=by simp[eK,eL,ep];omega
 have w4:dT.wrap (-(r+1))= -(r+1):=by simp[eK,eL,ep];omega
 have w5:dT.wrap (x+1)=x+1:=by simp[eK,eL,ep];omega
 have w6:dT.wrap (-(x+1))= -(x+1):=by simp[eK,eL,ep];omega
 clear vx hr hx vt xf hv hk;have By:cj (aS T Bb MB lv P N F at_ B tg w0 TT RB c b hi D #[tW (tG ⟨T,0,tM⟩),Z U f,tU A n1 c1,tU E n2 c2,tW (tG ⟨TT,0,tM⟩)] #[Z U op,Z U d,Z U a,Z U G,Z U g,Z U J,tS K,tU t args.length gc,tU u y z,Z U R,Z U ue,Z U ln,Z U cl] W1 (C++AG (args.take 0)) (Y++(AG (args.take 0)).map λ_=>at_) W1):=by
  unfold cj;rw[lz,A6.out,pm,ej,ej];exact zj.out
 obtain⟨⟨x0,x1,x2,x3,x4⟩,⟨z0,z1,z2,z3,z4,z5,z6,z7,z8,z9,uv,ux,vc⟩,y2⟩:=(vp.out _ _ _ zj.out).1;go_enter func109,ntmps109
 go_upto_region 1 with(fail)
 rw[A3.out]
 go_upto_region 2 with(fail)
 clear x0 x1 x2 x3 x4 z0 z1 z2 z3 z4 z5 z6 z7 z8 z9 uv ux vc y2
 go_loopw [12] (λkk wr=>∃j:bh,j<=args.length/\kk= Z U (j:aw)/\aS T Bb MB lv P N F at_ B tg w0 TT RB c b hi D #[tW (tG ⟨T,0,tM⟩),Z U f,tU A n1 c1,tU E n2 c2,tW (tG ⟨TT,0,tM⟩)] #[Z U op,Z U d,Z U a,Z U G,Z U g,Z U J,tS K,tU t args.length gc,tU u y z,Z U R,Z U ue,Z U ln,Z U cl] W1 (C++AG (args.take j)) (Y++(AG (args.take j)).map λ_=>at_) wr) (λkk _=>args.length-(de kk).toNat)
 case atStart=>exact⟨0,cN _,rfl,By.out⟩
 case round=>
  obtain⟨j,hj,rfl,hm⟩:=hrel;obtain⟨⟨x0,x1,x2,x3,x4⟩,⟨z0,z1,z2,z3,z4,z5,z6,z7,z8,z9,uv,ux,vc⟩,y2⟩:=(vp.out _ _ _ hm).1;have HM:=zH hm
  by_cases xo:j<args.length
  ·obtain⟨v,hv⟩:∃v,args[j]?=tG v:=⟨_,ap xo⟩
   have CH:(j:aw)<(args.length:aw):=by omega
   have BE:=zH (Bk.out j v wr hv hm);clear hm hv
   go_wp2_with (go_at_call 149;refine BE.out.mono ?_;rintro e CM ⟨rfl,At⟩;have wj:=zH At;clear At)
   go_roundw
   case rel=>exact⟨j+1,xo,by go_num,wj.out⟩
   case measure=>simp[de];omega
  ·have Ax:j=args.length:=by omega
   have AD:aS T Bb MB lv P N F at_ B tg w0 TT RB c b hi D #[tW (tG ⟨T,0,tM⟩),Z U f,tU A n1 c1,tU E n2 c2,tW (tG ⟨TT,0,tM⟩)] #[Z U op,Z U d,Z U a,Z U G,Z U g,Z U J,tS K,tU t args.length gc,tU u y z,Z U R,Z U ue,Z U ln,Z U cl] W1 (C++AG args) (Y++(AG args).map λ_=>at_) wr:=by rw[Ax,cR] at hm;exact hm
   have vu:=zH AD;have vm:cj ((AG args).length<=120):=by have:=An.out args;unfold cj;omega
   clear hm HM Ax AD;obtain⟨wo,AE⟩:=zE wr;rw[AE] at vu x0 x1 x2 x3 x4 z0 z1 z2 z3 z4 z5 z6 z7 z8 z9 uv ux vc y2⊢;clear AE wr
   go_upto_region 6 with(fail)
   obtain⟨S1,wk⟩:=zE ((λw'=>aE wo.heap.size wo w'):World->Prop);have BT:S1 wo.drew:=by rw[<-wk];exact(aq _ _).drew
   have AF:cj (∀W,aE wo.heap.size wo W->S1 W):=λW hW=>by rw[<-wk];exact hW
   have xp:cj (∀W,S1 W->aE wo.heap.size wo W):=λW hW=>by rw[<-wk] at hW;exact hW
   have ur:cj (∀w,S1 w->(kE D T TT f op d a G g J K t u args.length gc y z R ue ln cl A E n1 n2 c1 c2 w/\w.cell? ⟨T,2,tM⟩=tG (.map (tG MB))/\T<w.heap.size)/\(nr 118 (.map (tG MB)) (ub #[Z U g,Z U (-1)]) tR).run am w= .ok (Z U r) w):=λw hw=>⟨vp.out _ _ _ (vu.out.grow (xp.out w hw)),A5.out _ _ _ (vu.out.grow (xp.out w hw))⟩
   clear wk x0 x1 x2 x3 x4 z0 z1 z2 z3 z4 z5 z6 z7 z8 z9 uv ux vc y2;refine aj 14 S1 (by kernel_rfl) ?_;refine zT 0 rfl ur.out ?_;(try go_simp);refine zT 1 rfl ur.out ?_;(try go_simp);refine zT 2 rfl ur.out ?_;(try go_simp);refine zT 4 rfl ur.out ?_;(try go_simp);refine zT 5 rfl ur.out ?_;(try go_simp);refine zT 6 rfl ur.out ?_;(try go_simp);refine zT 7 rfl ur.out ?_;(try go_simp);refine zT 8 rfl ur.out ?_;(try go_simp);refine zT 9 rfl ur.out ?_;(try go_simp);refine zT 10 rfl ur.out ?_;(try go_simp);refine zT 11 rfl ur.out ?_;(try go_simp);refine zT 12 rfl ur.out ?_;(try go_simp);refine zO 3 rfl λK' hK=> ?_;go_simp;go_at_call 107;refine(A4.out _ _ _ (vu.out.grow (aq _ _).drew)).mono ?_;rintro e wl ⟨rfl,AH⟩;have xt:aE wo.heap.size wo wl:=(aq _ _).drew.trans AH;have AI:S1 wl:=AF.out _ xt;refine hK _ _ AI ?_;clear hK;(try go_simp);refine zT 13 rfl ur.out ?_;(try go_simp);refine zK rfl λK' hK=> ?_;go_simp;refine hK _ _ ?_;clear hK;refine⟨by kernel_rfl, ?_⟩;have AK:=vu.out.grow xt;have xF:=zH AK;clear AI BT ur xp AF AH xt AK
   by_cases ws:0<x
   ·have we:decide (0<x)=tP:=cV ws
    have vq:cj (fI F f (bg b k) (⟨op,d,a,G,g,J,K,tU t args.length gc,tU u y z,R,ue,ln,cl,args⟩:Ins)=AG args++[[-x,r],[x,-r],[-(x+1),r+1],[x+1,-(r+1)]]):=by unfold cj;rw[zv.out,cI ws]
    have BY:cj ([-x,r].all (bL N)=tP):=wg.out _ (by rw[vq.out];simp);have B5:cj ([x,-r].all (bL N)=tP):=wg.out _ (by rw[vq.out];simp);have B6:cj ([-(x+1),r+1].all (bL N)=tP):=wg.out _ (by rw[vq.out];simp);have B7:cj ([x+1,-(r+1)].all (bL N)=tP):=wg.out _ (by rw[vq.out];simp);obtain⟨⟨x0,x1,x2,x3,x4⟩,⟨z0,z1,z2,z3,z4,z5,z6,z7,z8,z9,uv,ux,vc⟩,y2⟩:=(vp.out _ _ _ xF.out).1;obtain⟨G0,xT⟩:=zE wl.heap.size;obtain⟨V0,yb⟩:=zE (wl.alloc (uc #[Z U (-x),Z U (r)] 3));have up:=aS.put2 xF.out hN (-x) (r) BY.out (by have:=vm.out;(try simp only[bo,cr,dy]);omega) (by have:=vm.out;(try simp only[bo,cr,dy]);omega);rw[xT,yb] at up;have vd:=zH up;have HV:=zH yb;have vf:=zH xT;clear up yb xT
    go_upto_region 9 with(go_at_call 56;(try rw[vf.out]);(try simp only[w1,w2,w3,w4,w5,w6]);(try rw[HV.out]);refine vd.out.mono ?_;rintro e AM ⟨rfl,vh⟩;have AN:=zH vh;clear vh)
    clear x0 x1 x2 x3 x4 z0 z1 z2 z3 z4 z5 z6 z7 z8 z9 uv ux vc y2 vd HV vf;obtain⟨⟨x0,x1,x2,x3,x4⟩,⟨z0,z1,z2,z3,z4,z5,z6,z7,z8,z9,uv,ux,vc⟩,y2⟩:=(vp.out _ _ _ AN.out).1;obtain⟨G1,yd⟩:=zE AM.heap.size;obtain⟨V1,ye⟩:=zE (AM.alloc (uc #[Z U (x),Z U (-r)] 3));have up:=aS.put2 AN.out hN (x) (-r) B5.out (by have:=vm.out;(try simp only[bo,cr,dy]);omega) (by have:=vm.out;(try simp only[bo,cr,dy]);omega);rw[yd,ye] at up;have vd:=zH up;have HV:=zH ye;have vf:=zH yd;clear up ye yd
    go_upto_region 10 with(go_at_call 56;(try rw[vf.out]);(try simp only[w1,w2,w3,w4,w5,w6]);(try rw[HV.out]);refine vd.out.mono ?_;rintro e AS ⟨rfl,vh⟩;have AT:=zH vh;clear vh)
    clear x0 x1 x2 x3 x4 z0 z1 z2 z3 z4 z5 z6 z7 z8 z9 uv ux vc y2 vd HV vf;obtain⟨⟨x0,x1,x2,x3,x4⟩,⟨z0,z1,z2,z3,z4,z5,z6,z7,z8,z9,uv,ux,vc⟩,y2⟩:=(vp.out _ _ _ AT.out).1;obtain⟨G2,yi⟩:=zE AS.heap.size;obtain⟨V2,yk⟩:=zE (AS.alloc (uc #[Z U (-(x+1)),Z U (r+1)] 3));have up:=aS.put2 AT.out hN (-(x+1)) (r+1) B6.out (by have:=vm.out;(try simp only[bo,cr,dy]);omega) (by have:=vm.out;(try simp only[bo,cr,dy]);omega);rw[yi,yk] at up;have vd:=zH up;have HV:=zH yk;have vf:=zH yi;clear up yk yi
    go_upto_region 11 with(go_at_call 56;(try rw[vf.out]);(try simp only[w1,w2,w3,w4,w5,w6]);(try rw[HV.out]);refine vd.out.mono ?_;rintro e AW ⟨rfl,vh⟩;have wj:=zH vh;clear vh)
    clear x0 x1 x2 x3 x4 z0 z1 z2 z3 z4 z5 z6 z7 z8 z9 uv ux vc y2 vd HV vf;obtain⟨⟨x0,x1,x2,x3,x4⟩,⟨z0,z1,z2,z3,z4,z5,z6,z7,z8,z9,uv,ux,vc⟩,y2⟩:=(vp.out _ _ _ wj.out).1;obtain⟨G3,yp⟩:=zE AW.heap.size;obtain⟨V3,yq⟩:=zE (AW.alloc (uc #[Z U (x+1),Z U (-(r+1))] 3));have up:=aS.put2 wj.out hN (x+1) (-(r+1)) B7.out (by have:=vm.out;(try simp only[bo,cr,dy]);omega) (by have:=vm.out;(try simp only[bo,cr,dy]);omega);rw[yp,yq] at up;have vd:=zH up;have HV:=zH yq;have vf:=zH yp;clear up yq yp
    go_wp2_with (go_at_call 56;(try rw[vf.out]);(try simp only[w1,w2,w3,w4,w5,w6]);(try rw[HV.out]);refine vd.out.mono ?_;rintro e CN ⟨rfl,vh⟩;have B8:=zH vh;clear vh)
    clear x0 x1 x2 x3 x4 z0 z1 z2 z3 z4 z5 z6 z7 z8 z9 uv ux vc y2 vd HV vf
    go_end0
    refine⟨rfl, ?_⟩;have:=B8.out.wn;rw[vq.out];refine aZ.below zp.out ?_;simpa using this
   ·have we:decide (0<x)=tR:=cv ws
    have vq:cj (fI F f (bg b k) (⟨op,d,a,G,g,J,K,tU t args.length gc,tU u y z,R,ue,ln,cl,args⟩:Ins)=AG args):=by unfold cj;rw[zv.out,bx ws,ej]
    go_wp2
    go_end0
    refine⟨rfl, ?_⟩;have:=xF.out.wn;rw[vq.out];exact aZ.below zp.out this
end
def aA (F:aw×aw->aw)(f:aw)(beh:aw->mm)(i:Ins):bj (bj aw):=
 if i.op=12 then[[F (f,i.d)]]
 else if i.op=13 then[[F (f,i.a)]]
 else if i.op=9 then[[-(F (f,i.d)),F (f,i.a)]]++(if i.a≠i.d/\beh i.a=tP then[[-(F (f,i.d))]] else[])++[[-(F (f,i.d)+1),F (f,i.a),F (f,i.a)+1]]
 else if i.op=10 then[[-(F (f,i.d)),F (f,i.a),F (f,i.a)+1],[-(F (f,i.d)+1),F (f,i.a),F (f,i.a)+1]]
 else if i.op=8 then[[F (f,i.a),F (f,i.a)+1]]
 else if i.op=11 then[[F (f,i.b)],[F (f,i.a),F (f,i.a)+1]]++(if beh i.b=tP then[[-(F (f,i.b))]] else[])
 else if i.op=15 then fI F f beh i
 else if i.op=18 then qj (λv=>F (f,v)) i.a
 else[]
theorem ug {P:bj (aw×aw)}{f:aw}{beh:aw->mm}{i:Ins}:aA (aG 0 P) f beh i=fT P f beh i:=by
 unfold aA fT fI qj;simp only[ql]
section
variable {T Bb MB:bh}{lv:cG fS×bh}{P:bj (aw×aw)}{N:aw}{F:aw×aw->aw}{C C2:bj (bj aw)}{Y Y2:bj (aw×aw)}{at_ at2:aw×aw}{B:bh}{tg:bh->bh}{s:ow}{w0:World}{TT RB hi:bh}{c:dx}{b:bh->bh->bh}
theorem aS.change1 {D:bh}{ac ic:eA cA}{W1 w:World}(h:aS T Bb MB lv P N F at_ B tg w0 TT RB c b hi D ac ic W1 C Y w)(q:0<=N/\N<=9000000)(hF:∀x,0<=F x/\F x<=9000000)(f v:aw)(t:bN f)(u:bN v)(d g:cG fS)(n1 n2 c1 c2:bh)(x:aw)(y:[x,F (f,v),F (f,v)+1].all (bL N)=tP)(z:C.length+1<=1000000)(A:Y.length+1<=1000000):
  ge am 106 #[ub #[tW (tG ⟨T,0,tM⟩),Z U f,tU d n1 c1,tU g n2 c2,tW (tG ⟨TT,0,tM⟩)],Z U v,tU (tG ⟨w.heap.size,0,tM⟩) 1 1] (w.alloc (uc #[Z U x] 3)) λe w'=>e= ud (.tuple #[])/\aS T Bb MB lv P N F at_ B tg w0 TT RB c b hi D ac ic W1 (C++[[x,F (f,v),F (f,v)+1]]) (Y++[at_]) w':=by
 have j:aE w.heap.size w (w.alloc (uc #[Z U x] 3)):=(aq _ _).alloc (cg _) _;obtain⟨R,s',o,E,G,J⟩:=h;refine(kR _ (o.grow j).as_.wn q f v t u (hF _) d g n1 n2 c1 c2 (tG ⟨TT,0,tM⟩) (tG ⟨w.heap.size,0,tM⟩) [x] 1 (ak.lit1 _ x (alloc_at _ _)) (λh=>by cases h) (by simp) y (by simp) z A).mono ?_;rintro e w2 ⟨rfl,K⟩;exact⟨rfl,aS.then_ o E G J j K⟩
theorem aS.change0 {D:bh}{ac ic:eA cA}{W1 w:World}(h:aS T Bb MB lv P N F at_ B tg w0 TT RB c b hi D ac ic W1 C Y w)(o:0<=N/\N<=9000000)(hF:∀x,0<=F x/\F x<=9000000)(f v:aw)(q:bN f)(t:bN v)(d g:cG fS)(n1 n2 c1 c2:bh)(u:[F (f,v),F (f,v)+1].all (bL N)=tP)(y:C.length+1<=1000000)(z:Y.length+1<=1000000):
  ge am 106 #[ub #[tW (tG ⟨T,0,tM⟩),Z U f,tU d n1 c1,tU g n2 c2,tW (tG ⟨TT,0,tM⟩)],Z U v,tU tM 0 0] w λe w'=>e= ud (.tuple #[])/\aS T Bb MB lv P N F at_ B tg w0 TT RB c b hi D ac ic W1 (C++[[F (f,v),F (f,v)+1]]) (Y++[at_]) w':=by
 obtain⟨K,R,j,A,E,G⟩:=h;refine(kR _ j.as_.wn o f v q t (hF _) d g n1 n2 c1 c2 (tG ⟨TT,0,tM⟩) tM [] 0 (λh=>fL rfl h) (λ_=>rfl) (by simp) u (by simp) y z).mono ?_;rintro e w2 ⟨rfl,J⟩;exact⟨rfl,aS.of j A E G J⟩
theorem jf {w:World}(h:As T Bb MB lv P N F C Y at_ B tg s w0 TT RB c b hi w)(f:aw)(hf:bN f)(e g:cG fS)(n1 n2 c1 c2:bh)(op d a j q t:aw)(u:bm)(x:cG fS)(y gc:bh)(z:cG fS)(A E:bh)(G J K R:aw):∃D W1,w.heap.size=D/\
  cj ((w.alloc (uc #[tW (tG ⟨T,0,tM⟩),Z U f,tU e n1 c1,tU g n2 c2,tW (tG ⟨TT,0,tM⟩)] 129)).alloc (uc #[Z U op,Z U d,Z U a,Z U j,Z U q,Z U t,tS u,tU x y gc,tU z A E,Z U G,Z U J,Z U K,Z U R] 42)=W1)/\cj (aE w.heap.size w W1)/\cj (aS T Bb MB lv P N F at_ B tg w0 TT RB c b hi D #[tW (tG ⟨T,0,tM⟩),Z U f,tU e n1 c1,tU g n2 c2,tW (tG ⟨TT,0,tM⟩)] #[Z U op,Z U d,Z U a,Z U j,Z U q,Z U t,tS u,tU x y gc,tU z A E,Z U G,Z U J,Z U K,Z U R] W1 C Y W1)/\
  cj (∀C2 Y2 w2,aS T Bb MB lv P N F at_ B tg w0 TT RB c b hi D #[tW (tG ⟨T,0,tM⟩),Z U f,tU e n1 c1,tU g n2 c2,tW (tG ⟨TT,0,tM⟩)] #[Z U op,Z U d,Z U a,Z U j,Z U q,Z U t,tS u,tU x y gc,tU z A E,Z U G,Z U J,Z U K,Z U R] W1 C2 Y2 w2->kE D T TT f op d a j q t u x z y gc A E G J K R e g n1 n2 c1 c2 w2/\w2.cell? ⟨T,2,tM⟩=tG (.map (tG MB))/\T<w2.heap.size)/\
  cj (∀C2 Y2 w2 v,bN v->aS T Bb MB lv P N F at_ B tg w0 TT RB c b hi D #[tW (tG ⟨T,0,tM⟩),Z U f,tU e n1 c1,tU g n2 c2,tW (tG ⟨TT,0,tM⟩)] #[Z U op,Z U d,Z U a,Z U j,Z U q,Z U t,tS u,tU x y gc,tU z A E,Z U G,Z U J,Z U K,Z U R] W1 C2 Y2 w2->zP 107 #[ub #[tW (tG ⟨T,0,tM⟩),Z U f,tU e n1 c1,tU g n2 c2,tW (tG ⟨TT,0,tM⟩)],Z U v] w2 (Z U (F (f,v)))):=by
 obtain⟨D,hD⟩:=zE w.heap.size;have ue:=Ag.box h #[tW (tG ⟨T,0,tM⟩),Z U f,tU e n1 c1,tU g n2 c2,tW (tG ⟨TT,0,tM⟩)] #[Z U op,Z U d,Z U a,Z U j,Z U q,Z U t,tS u,tU x y gc,tU z A E,Z U G,Z U J,Z U K,Z U R];rw[hD] at ue;obtain⟨W1,up⟩:=zE ((w.alloc (uc #[tW (tG ⟨T,0,tM⟩),Z U f,tU e n1 c1,tU g n2 c2,tW (tG ⟨TT,0,tM⟩)] 129)).alloc (uc #[Z U op,Z U d,Z U a,Z U j,Z U q,Z U t,tS u,tU x y gc,tU z A E,Z U G,Z U J,Z U K,Z U R] 42));rw[up] at ue;refine⟨D,W1,hD,up,E8 up,aS.start ue,λC2 Y2 w2 h2=> ?_,λC2 Y2 w2 v hv h2=>h2.o f v hf hv e g n1 n2 c1 c2 _⟩;obtain⟨r0,r1,r2,r3⟩:=h2.rows;exact⟨uf r0 r1,r2,r3⟩
theorem pO (hF:∀x,0<=F x/\F x<=9000000)(p q r:aw×aw):∃d e f,(0<=d/\d<=9000000)/\(0<=e/\e<=9000000)/\(0<=f/\f<=9000000)/\F p=d/\F q=e/\F r=f/\dT.wrap (-d)= -d/\dT.wrap (-e)= -e/\dT.wrap (d+1)=d+1/\
  dT.wrap (-(d+1))= -(d+1)/\dT.wrap (e+1)=e+1/\dT.wrap (-f)= -f/\dT.wrap (f+1)=f+1:=by
 have g:=hF p;have h:=hF q;have j:=hF r;refine⟨F p,F q,F r,g,h,j,rfl,rfl,rfl, ?_, ?_, ?_, ?_, ?_, ?_, ?_⟩<;>(simp[eK,eL,ep];omega)
theorem vH (w:World)(h:As T Bb MB lv P N F C Y at_ B tg s w0 TT RB c b hi w)(hN:0<=N/\N<=9000000)(hF:∀x,0<=F x/\F x<=9000000)(f:aw)(hf:bN f)(a1 a2:cG fS)(n1 n2 c1 c2:bh)(i:Ins)(ga:cG fS)(gc:bh)(vq:i.argsV= tU ga i.args.length gc)(xF:∃ao n cap,i.modeV= tU ao n cap)(vr:bN i.d)(xT:bN i.a)(yb:bN i.b)(k:bh)(hk:k<c.ins.length)(yq:c.ins.length<=90000)(yr:c.nvars<=90000)(hl:C.length+130<=1000000)(yv:Y.length+130<=1000000)(vt:i.op=12)(vu:∀x∈aA F f (bg b k) i,x.all (bL N)=tP):
  ge am 58 #[ub #[tW (tG ⟨T,0,tM⟩),Z U f,tU a1 n1 c1,tU a2 n2 c2,tW (tG ⟨TT,0,tM⟩)],ub i.cells,Z U (k:aw)] w λe w'=>e= ud (.tuple #[])/\aZ T Bb MB lv P N F (C++aA F f (bg b k) i) (Y++(aA F f (bg b k) i).map λ_=>at_) at_ B tg w w':=by
 obtain⟨mo,mn,mc,vx⟩:=xF;obtain⟨op,d,a,bb,ff,nn,vy,argsV,modeV,we,wg,ln,cl,args⟩:=i;simp only at vq vx vr xT yb vt vu⊢;subst vt;subst vq vx;simp only[Ins.cells];obtain⟨D,W1,hD,yd,ye,wj,uv,HO⟩:=jf h f hf a1 a2 n1 n2 c1 c2 12 d a bb ff nn vy ga args.length gc mo mn mc we wg ln cl;clear h;obtain⟨g,xa,xb,yy,yW,zc,ux,vc,vd,w1,w2,w3,w4,w5,w6,w7⟩:=pO hF (f,d) (f,a) (f,bb);have yi:=zH ux;have zj:=zH vc;have zp:=zH vd;have wk:cj (aA F f (bg b k) (⟨12,d,a,bb,ff,nn,vy,tU ga args.length gc,tU mo mn mc,we,wg,ln,cl,args⟩:Ins)=[[g]]):=by unfold cj aA;simp only[lj,ux,vc,vd]
 have yk:cj (([g]:bj aw).all (bL N)=tP):=vu _ (by rw[wk.out];simp);clear ux vc vd;go_enter lE,kt
 go_upto_region 1 with(fail)
 rw[yd.out];obtain⟨⟨j,o,q,t,u⟩,⟨v,y,z,A,E,G,J,K,R,z9,ue,up,ur⟩,y2⟩:=(uv.out _ _ _ wj.out).1
 go_region
 clear j o q t u v y z A E G J K R z9 ue up ur y2;have vf:=zH (wj.out.grow (aq _ _).drew);obtain⟨⟨j,o,q,t,u⟩,⟨v,y,z,A,E,G,J,K,R,z9,ue,up,ur⟩,y2⟩:=(uv.out _ _ _ vf.out).1;have wl:=zH (HO.out _ _ _ (d) vr vf.out);rw[show F (f,d)=g from yi.out] at wl
 go_upto_region 3 with(go_at_call 107;refine wl.out.mono ?_;rintro e ws ⟨rfl,xf⟩;have xj:=zH (vf.out.grow xf);clear xf)
 clear j o q t u v y z A E G J K R z9 ue up ur y2;obtain⟨⟨j,o,q,t,u⟩,⟨v,y,z,A,E,G,J,K,R,z9,ue,up,ur⟩,y2⟩:=(uv.out _ _ _ xj.out).1;obtain⟨G2,vh⟩:=zE ws.heap.size;obtain⟨V2,vm⟩:=zE (ws.alloc (uc #[Z U (g)] 3));have vp:=aS.put1 xj.out hN (g) yk.out (by(try simp only[bo,cr]);omega) (by(try simp only[bo,cr]);omega);rw[vh,vm] at vp;have xo:=zH vp;have HV:=zH vm;have xp:=zH vh;clear vp vm vh
 go_wp2_with (go_at_call 56;(try rw[xp.out]);(try simp only[w1,w2,w3,w4,w5,w6,w7]);(try rw[HV.out]);refine xo.out.mono ?_;rintro e zs ⟨rfl,xt⟩;have yp:=zH xt;clear xt)
 clear j o q t u v y z A E G J K R z9 ue up ur y2 xo HV xp
 go_end0
 refine⟨rfl, ?_⟩;have:=yp.out.wn;rw[wk.out];refine aZ.below ye.out ?_;simpa using this
theorem vI (w:World)(h:As T Bb MB lv P N F C Y at_ B tg s w0 TT RB c b hi w)(hN:0<=N/\N<=9000000)(hF:∀x,0<=F x/\F x<=9000000)(f:aw)(hf:bN f)(a1 a2:cG fS)(n1 n2 c1 c2:bh)(i:Ins)(ga:cG fS)(gc:bh)(vp:i.argsV= tU ga i.args.length gc)(xt:∃ao n cap,i.modeV= tU ao n cap)(vq:bN i.d)(vr:bN i.a)(xF:bN i.b)(k:bh)(hk:k<c.ins.length)(yp:c.ins.length<=90000)(yq:c.nvars<=90000)(hl:C.length+130<=1000000)(yr:Y.length+130<=1000000)(vt:i.op=13)(vu:∀x∈aA F f (bg b k) i,x.all (bL N)=tP):
  ge am 58 #[ub #[tW (tG ⟨T,0,tM⟩),Z U f,tU a1 n1 c1,tU a2 n2 c2,tW (tG ⟨TT,0,tM⟩)],ub i.cells,Z U (k:aw)] w λe w'=>e= ud (.tuple #[])/\aZ T Bb MB lv P N F (C++aA F f (bg b k) i) (Y++(aA F f (bg b k) i).map λ_=>at_) at_ B tg w w':=by
 obtain⟨mo,mn,mc,vx⟩:=xt;obtain⟨op,d,a,bb,ff,nn,vy,argsV,modeV,we,wg,ln,cl,args⟩:=i;simp only at vp vx vq vr xF vt vu⊢;subst vt;subst vp vx;simp only[Ins.cells];obtain⟨D,W1,hD,xT,yb,wj,ux,HO⟩:=jf h f hf a1 a2 n1 n2 c1 c2 13 d a bb ff nn vy ga args.length gc mo mn mc we wg ln cl;clear h;obtain⟨xd,g,xb,yv,yy,yW,vc,vd,vf,w1,w2,w3,w4,w5,w6,w7⟩:=pO hF (f,d) (f,a) (f,bb);have yd:=zH vc;have ye:=zH vd;have zc:=zH vf;have wk:cj (aA F f (bg b k) (⟨13,d,a,bb,ff,nn,vy,tU ga args.length gc,tU mo mn mc,we,wg,ln,cl,args⟩:Ins)=[[g]]):=by unfold cj aA;simp only[bx (by decide:¬((13:aw)=12)),lj,vc,vd,vf]
 have yi:cj (([g]:bj aw).all (bL N)=tP):=vu _ (by rw[wk.out];simp);clear vc vd vf;go_enter lE,kt
 go_upto_region 1 with(fail)
 rw[xT.out];obtain⟨⟨j,o,q,t,u⟩,⟨v,y,z,A,E,G,J,K,R,z9,ue,up,ur⟩,y2⟩:=(ux.out _ _ _ wj.out).1
 go_region
 clear j o q t u v y z A E G J K R z9 ue up ur y2;have vh:=zH (wj.out.grow (aq _ _).drew);obtain⟨⟨j,o,q,t,u⟩,⟨v,y,z,A,E,G,J,K,R,z9,ue,up,ur⟩,y2⟩:=(ux.out _ _ _ vh.out).1;have wl:=zH (HO.out _ _ _ (d) vq vh.out);rw[show F (f,d)=xd from yd.out] at wl
 go_upto_region 3 with(go_at_call 107;refine wl.out.mono ?_;rintro e ws ⟨rfl,uv⟩;have vm:=zH (vh.out.grow uv);clear uv)
 clear j o q t u v y z A E G J K R z9 ue up ur y2;obtain⟨⟨j,o,q,t,u⟩,⟨v,y,z,A,E,G,J,K,R,z9,ue,up,ur⟩,y2⟩:=(ux.out _ _ _ vm.out).1;have xf:=zH (HO.out _ _ _ (a) vr vm.out);rw[show F (f,a)=g from ye.out] at xf;have xj:cj (∀wx,aE ws.heap.size ws wx->ge am 56 #[tW (tG ⟨T,0,tM⟩),tU (tG ⟨wx.heap.size,0,tM⟩) 1 1] (wx.alloc (uc #[Z U (g)] 3)) _):=λwx hx=>aS.put1 (vm.out.grow hx) hN (g) yi.out (by(try simp only[bo,cr]);omega) (by(try simp only[bo,cr]);omega)
 go_wp2_with (first|(go_at_call 107;refine xf.out.mono ?_;rintro e zj ⟨rfl,uv⟩;have xo:=zH (xj.out _ uv);clear uv)|(go_at_call 56;(try simp only[w1,w2,w3,w4,w5,w6,w7]);refine xo.out.mono ?_;rintro e zp ⟨rfl,xp⟩;have yk:=zH xp;clear xp xo))
 clear j o q t u v y z A E G J K R z9 ue up ur y2 xj
 go_end0
 refine⟨rfl, ?_⟩;have:=yk.out.wn;rw[wk.out];refine aZ.below yb.out ?_;simpa using this
theorem vJ (w:World)(h:As T Bb MB lv P N F C Y at_ B tg s w0 TT RB c b hi w)(hN:0<=N/\N<=9000000)(hF:∀x,0<=F x/\F x<=9000000)(f:aw)(hf:bN f)(a1 a2:cG fS)(n1 n2 c1 c2:bh)(i:Ins)(ga:cG fS)(gc:bh)(wk:i.argsV= tU ga i.args.length gc)(yk:∃ao n cap,i.modeV= tU ao n cap)(wl:bN i.d)(vm:bN i.a)(yp:bN i.b)(k:bh)(hk:k<c.ins.length)(zj:c.ins.length<=90000)(zp:c.nvars<=90000)(hl:C.length+130<=1000000)(zs:Y.length+130<=1000000)(ws:i.op=10)(vp:∀x∈aA F f (bg b k) i,x.all (bL N)=tP):
  ge am 58 #[ub #[tW (tG ⟨T,0,tM⟩),Z U f,tU a1 n1 c1,tU a2 n2 c2,tW (tG ⟨TT,0,tM⟩)],ub i.cells,Z U (k:aw)] w λe w'=>e= ud (.tuple #[])/\aZ T Bb MB lv P N F (C++aA F f (bg b k) i) (Y++(aA F f (bg b k) i).map λ_=>at_) at_ B tg w w':=by
 obtain⟨mo,mn,mc,xf⟩:=yk;obtain⟨op,d,a,bb,ff,nn,xj,argsV,modeV,xo,xp,ln,cl,args⟩:=i;simp only at wk xf wl vm yp ws vp⊢;subst ws;subst wk xf;simp only[Ins.cells];obtain⟨D,W1,hD,yq,yr,xt,vf,HO⟩:=jf h f hf a1 a2 n1 n2 c1 c2 10 d a bb ff nn xj ga args.length gc mo mn mc xo xp ln cl;clear h;obtain⟨j,g,xb,zv,An,At,vq,vr,vt,w1,w2,w3,w4,w5,w6,w7⟩:=pO hF (f,d) (f,a) (f,bb);have yv:=zH vq;have vh:=zH vr;have Ax:=zH vt;have vu:cj (aA F f (bg b k) (⟨10,d,a,bb,ff,nn,xj,tU ga args.length gc,tU mo mn mc,xo,xp,ln,cl,args⟩:Ins)=[[-j,g,g+1],[-(j+1),g,g+1]]):=by unfold cj aA;simp only[bx (by decide:¬((10:aw)=12)),bx (by decide:¬((10:aw)=13)),bx (by decide:¬((10:aw)=9)),lj,vq,vr,vt]
 have yy:cj (([-j,g,g+1]:bj aw).all (bL N)=tP):=vp _ (by rw[vu.out];simp);have yW:cj (([-(j+1),g,g+1]:bj aw).all (bL N)=tP):=vp _ (by rw[vu.out];simp);clear vq vr vt;go_enter lE,kt
 go_upto_region 1 with(fail)
 rw[yq.out];obtain⟨⟨o,q,t,u,v⟩,⟨y,z,A,E,G,J,K,R,z8,z9,ue,up,ur⟩,y2⟩:=(vf.out _ _ _ xt.out).1
 go_region
 clear o q t u v y z A E G J K R z8 z9 ue up ur y2;have vx:=zH (xt.out.grow (aq _ _).drew);obtain⟨⟨o,q,t,u,v⟩,⟨y,z,A,E,G,J,K,R,z8,z9,ue,up,ur⟩,y2⟩:=(vf.out _ _ _ vx.out).1;have xF:=zH (HO.out _ _ _ (d) wl vx.out);rw[show F (f,d)=j from yv.out] at xF
 go_upto_region 3 with(go_at_call 107;refine xF.out.mono ?_;rintro e xT ⟨rfl,yb⟩;have yd:=zH (vx.out.grow yb);clear yb)
 clear o q t u v y z A E G J K R z8 z9 ue up ur y2;obtain⟨⟨o,q,t,u,v⟩,⟨y,z,A,E,G,J,K,R,z8,z9,ue,up,ur⟩,y2⟩:=(vf.out _ _ _ yd.out).1;obtain⟨G2,vy⟩:=zE xT.heap.size;obtain⟨V2,we⟩:=zE (xT.alloc (uc #[Z U (-j)] 3));have uv:=aS.change1 yd.out hN hF f a hf vm a1 a2 n1 n2 c1 c2 (-j) (by rw[vh.out];exact yy.out) (by(try simp only[bo,cr]);omega) (by(try simp only[bo,cr]);omega);rw[vy,we,show F (f,a)=g from vh.out] at uv;have ux:=zH uv;have HV:=zH we;have vc:=zH vy;clear uv we vy
 go_upto_region 15 with(go_at_call 106;(try rw[vc.out]);(try simp only[w1,w2,w3,w4,w5,w6,w7]);(try rw[HV.out]);refine ux.out.mono ?_;rintro e ye ⟨rfl,vd⟩;have yi:=zH vd;clear vd)
 clear o q t u v y z A E G J K R z8 z9 ue up ur y2 ux HV vc;obtain⟨⟨o,q,t,u,v⟩,⟨y,z,A,E,G,J,K,R,z8,z9,ue,up,ur⟩,y2⟩:=(vf.out _ _ _ yi.out).1;obtain⟨G3,wg⟩:=zE ye.heap.size;obtain⟨V3,wj⟩:=zE (ye.alloc (uc #[Z U (-(j+1))] 3));have uv:=aS.change1 yi.out hN hF f a hf vm a1 a2 n1 n2 c1 c2 (-(j+1)) (by rw[vh.out];exact yW.out) (by(try simp only[bo,cr]);omega) (by(try simp only[bo,cr]);omega);rw[wg,wj,show F (f,a)=g from vh.out] at uv;have ux:=zH uv;have HV:=zH wj;have vc:=zH wg;clear uv wj wg
 go_wp2_with (go_at_call 106;(try rw[vc.out]);(try simp only[w1,w2,w3,w4,w5,w6,w7]);(try rw[HV.out]);refine ux.out.mono ?_;rintro e AD ⟨rfl,vd⟩;have zc:=zH vd;clear vd)
 clear o q t u v y z A E G J K R z8 z9 ue up ur y2 ux HV vc
 go_end0
 refine⟨rfl, ?_⟩;have:=zc.out.wn;rw[vu.out];refine aZ.below yr.out ?_;simpa using this
theorem yR (w:World)(h:As T Bb MB lv P N F C Y at_ B tg s w0 TT RB c b hi w)(hN:0<=N/\N<=9000000)(hF:∀x,0<=F x/\F x<=9000000)(f:aw)(hf:bN f)(a1 a2:cG fS)(n1 n2 c1 c2:bh)(i:Ins)(ga:cG fS)(gc:bh)(vm:i.argsV= tU ga i.args.length gc)(xp:∃ao n cap,i.modeV= tU ao n cap)(vp:bN i.d)(vq:bN i.a)(xt:bN i.b)(k:bh)(hk:k<c.ins.length)(yi:c.ins.length<=90000)(yk:c.nvars<=90000)(hl:C.length+130<=1000000)(yp:Y.length+130<=1000000)(vr:i.op=8)(vt:∀x∈aA F f (bg b k) i,x.all (bL N)=tP):
  ge am 58 #[ub #[tW (tG ⟨T,0,tM⟩),Z U f,tU a1 n1 c1,tU a2 n2 c2,tW (tG ⟨TT,0,tM⟩)],ub i.cells,Z U (k:aw)] w λe w'=>e= ud (.tuple #[])/\aZ T Bb MB lv P N F (C++aA F f (bg b k) i) (Y++(aA F f (bg b k) i).map λ_=>at_) at_ B tg w w':=by
 obtain⟨mo,mn,mc,vu⟩:=xp;obtain⟨op,d,a,bb,ff,nn,vx,argsV,modeV,vy,we,ln,cl,args⟩:=i;simp only at vm vu vp vq xt vr vt⊢;subst vr;subst vm vu;simp only[Ins.cells];obtain⟨D,W1,hD,xF,xT,wg,uv,HO⟩:=jf h f hf a1 a2 n1 n2 c1 c2 8 d a bb ff nn vx ga args.length gc mo mn mc vy we ln cl;clear h;obtain⟨xd,g,xb,yq,yr,yv,ux,vc,vd,w1,w2,w3,w4,w5,w6,w7⟩:=pO hF (f,d) (f,a) (f,bb);have yb:=zH ux;have wj:=zH vc;have yy:=zH vd;have wk:cj (aA F f (bg b k) (⟨8,d,a,bb,ff,nn,vx,tU ga args.length gc,tU mo mn mc,vy,we,ln,cl,args⟩:Ins)=[[g,g+1]]):=by unfold cj aA;simp only[bx (by decide:¬((8:aw)=12)),bx (by decide:¬((8:aw)=13)),bx (by decide:¬((8:aw)=9)),bx (by decide:¬((8:aw)=10)),lj,ux,vc,vd]
 have yd:cj (([g,g+1]:bj aw).all (bL N)=tP):=vt _ (by rw[wk.out];simp);clear ux vc vd;go_enter lE,kt
 go_upto_region 1 with(fail)
 rw[xF.out];obtain⟨⟨j,o,q,t,u⟩,⟨v,y,z,A,E,G,J,K,R,z9,ue,up,ur⟩,y2⟩:=(uv.out _ _ _ wg.out).1
 go_region
 clear j o q t u v y z A E G J K R z9 ue up ur y2;have vf:=zH (wg.out.grow (aq _ _).drew);obtain⟨⟨j,o,q,t,u⟩,⟨v,y,z,A,E,G,J,K,R,z9,ue,up,ur⟩,y2⟩:=(uv.out _ _ _ vf.out).1;have wl:=zH (HO.out _ _ _ (d) vp vf.out);rw[show F (f,d)=xd from yb.out] at wl
 go_upto_region 3 with(go_at_call 107;refine wl.out.mono ?_;rintro e yW ⟨rfl,ws⟩;have xf:=zH (vf.out.grow ws);clear ws)
 clear j o q t u v y z A E G J K R z9 ue up ur y2;obtain⟨⟨j,o,q,t,u⟩,⟨v,y,z,A,E,G,J,K,R,z9,ue,up,ur⟩,y2⟩:=(uv.out _ _ _ xf.out).1;have vh:=aS.change0 xf.out hN hF f a hf vq a1 a2 n1 n2 c1 c2 (by rw[wj.out];exact yd.out) (by(try simp only[bo,cr]);omega) (by(try simp only[bo,cr]);omega);rw[show F (f,a)=g from wj.out] at vh;have xj:=zH vh;clear vh
 go_wp2_with (go_at_call 106;refine xj.out.mono ?_;rintro e zc ⟨rfl,xo⟩;have ye:=zH xo;clear xo)
 clear j o q t u v y z A E G J K R z9 ue up ur y2 xj
 go_end0
 refine⟨rfl, ?_⟩;have:=ye.out.wn;rw[wk.out];refine aZ.below xT.out ?_;simpa using this
end
end Go.Proofs.YtjomgckjhcfbgaaGreat
