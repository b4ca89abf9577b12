/- Walks. -/
import Derived.Test.YtjomgckjhcfbgaaGreatP16
set_option maxRecDepth 100000
set_option maxHeartbeats 64000000
set_option linter.all false
namespace Go.Proofs.YtjomgckjhcfbgaaGreat
open Go.RowKit
open Go.Proofs.Tryz renaming prog→am,ntmps58→jn,func58→ke
open _root_.List renaming getElem?_eq_getElem→ap,length_append→bm,getElem?_eq_some_iff→bo,mem_of_getElem?→ci,length_singleton→cj,take_length→cL,mem_append→dg,length_take→ee,length_cons→eh,append_assoc→ei,length_map→eq,map_append→et,append_nil→eA,cons_append→gh,take_zero→oS,map_nil→oT
open Go.RowKit.Below renaming refl→aq
open _root_ renaming Int→aw,Nat→bj,ByteArray→bl,List→bp,if_neg→bw,decide_eq_false→cm,Option→cC,if_pos→cH,decide_eq_true→cR,Array→dl,beq_false_of_ne→eR,absurd→fz,False→lj,if_true→lk,Bool→ml
open Go.RowKit renaming Below→aE,Hid→cg,intOf→dp
open _root_.Nat renaming le_refl→cd,zero_add→cI,zero_le→cM,le_trans→eN
open Go renaming Value→cw,bodyPost_ret→dk,Addr→fg,Calls→fj,results_none→ge,heap_alloc2_new→im,heap_alloc2_old→i8
open _root_.Option.some renaming injEq→dj
open Go.IntKind renaming i64→dt,signed→ef,wrap→eC,bits→eE,i64→U
open Go.Addr.mk renaming injEq→eV
open Go.Instr renaming lookup→mx
open _root_.Option renaming some→tf,none→th
open _root_.Bool renaming true→ti,false→tj
open Go.Value renaming string→tm,slice→tn,pointer→tr,bool→tt,agg→tv,int→Z
open Go.Obj renaming cells→tA
open Go.Ending renaming returned→tB
open Tryz
structure Ag (T Bb MB:bj)(lv:cC fg×bj)(P:bp (aw×aw))(N:aw)(F:aw×aw->aw)(C:bp (bp aw))(Y:bp (aw×aw))(at_:aw×aw)(B:bj)(tg:bj->bj)(s:nz)(w0:World)(TT RB:bj)(c:dP)(b:bj->bj->bj)(hi:bj)(D:bj)(ac ic:dl cw)(w:World):Prop where
 as_:As T Bb MB lv P N F C Y at_ B tg s w0 TT RB c b hi w
 r0:w.heap[D]?=tf (tA ac 129 (0,0))
 r1:w.heap[D+1]?=tf (tA ic 42 (0,0))
 z0:tg D=0
 z1:tg (D+1)=0
section
variable {T Bb MB:bj}{lv:cC fg×bj}{P:bp (aw×aw)}{N:aw}{F:aw×aw->aw}{C C2:bp (bp aw)}{Y Y2:bp (aw×aw)}{at_ at2:aw×aw}{B:bj}{tg:bj->bj}{s:nz}{w0:World}{TT RB hi:bj}{c:dP}{b:bj->bj->bj}{D:bj}{ac ic:dl cw}{w w':World}
theorem Ag.grow (h:Ag T Bb MB lv P N F C Y at_ B tg s w0 TT RB c b hi D ac ic w)(hb:aE w.heap.size w w'):Ag T Bb MB lv P N F C Y at_ B tg s w0 TT RB c b hi D ac ic w':=
 ⟨h.as_.grow hb,(hb.block D (ae h.r0)).trans h.r0,(hb.block (D+1) (ae h.r1)).trans h.r1,h.z0,h.z1⟩
theorem Ag.mv (h:Ag T Bb MB lv P N F C Y at_ B tg s w0 TT RB c b hi D ac ic w)(t:aV T Bb MB lv P N F C2 Y2 at2 B tg w w'):∃d f,Ag T Bb MB lv P N F C2 Y2 at2 B d f w0 TT RB c b hi D ac ic w'/\Ext (λq=>tg q≠0) w w'/\(∀k,d k≠0->tg k≠0\/w.heap.size<=k)/\∀k,tg k≠0->d k=tg k:=by
 obtain⟨d,f,u,g,o,v⟩:=h.as_.mv t;have j:∀k,tg k=0->k<w.heap.size->d k=0:=λk x y=>by
  cases j:d k with
  |zero=>rfl
  |succ q=>
   rcases o k (by omega) with e|e
   ·exact fz x e
   ·omega
 exact⟨d,f,⟨u,g.heap h.r0 (λe=>e h.z0),g.heap h.r1 (λe=>e h.z1),j D h.z0 (ae h.r0),j (D+1) h.z1 (ae h.r1)⟩,g,o,v⟩
theorem Ag.box (h:As T Bb MB lv P N F C Y at_ B tg s w0 TT RB c b hi w)(ac ic:dl cw):Ag T Bb MB lv P N F C Y at_ B tg s w0 TT RB c b hi w.heap.size ac ic ((w.alloc (tA ac 129)).alloc (tA ic 42)):=by
 have d:∀k,w.heap.size<=k->tg k=0:=λk e=>by
  cases d:tg k with
  |zero=>rfl
  |succ q=>have:=(h.wn.lo k (by omega)).2;omega
 exact⟨h.grow (((aq _ _).alloc (cd _) _).alloc (by simp) _),i8 _ _ _,im _ _ _,d _ (cd _),d _ (by omega)⟩
end
section
variable {T Bb MB:bj}{lv:cC fg×bj}{P:bp (aw×aw)}{N:aw}{F:aw×aw->aw}{C C2:bp (bp aw)}{Y Y2:bp (aw×aw)}{at_ at2:aw×aw}{B:bj}{tg:bj->bj}{s:nz}{w0:World}{TT RB hi:bj}{c:dP}{b:bj->bj->bj}
theorem ak.lit1 (w:World)(z:aw){G:bj}(h:w.heap[G]?=tf (tA #[Z U z] 3 (0,0))):ak w (tf ⟨G,0,th⟩) [z]:=λ_=>⟨G,0,rfl,ae h,λi x d=>by
 cases i with
 |succ i=>simp at d
 |zero=>
  obtain rfl:z=x:=by simpa using d
  exact(rowAt h 0 rfl).1⟩
theorem ak.lit2 (w:World)(z y:aw){G:bj}(h:w.heap[G]?=tf (tA #[Z U z,Z U y] 3 (0,0))):ak w (tf ⟨G,0,th⟩) [z,y]:=λ_=>⟨G,0,rfl,ae h,λi x d=>by
 match i with
 |0=>
  obtain rfl:z=x:=by simpa using d
  exact(rowAt h 0 rfl).1
 |1=>
  obtain rfl:y=x:=by simpa using d
  exact(rowAt h 1 rfl).1
 |i+2=>simp at d⟩
abbrev lu (D T MB TT:bj)(f e v:aw)(h j:cC fg)(n1 n2 c1 c2 g d o gc n:bj)(w:World):Prop:=(w.cell? ⟨D,0,th⟩=tf (tr (tf ⟨T,0,th⟩))/\w.cell? ⟨D,1,th⟩=tf (Z U f)/\w.cell? ⟨D,2,th⟩=tf (tn h n1 c1)/\w.cell? ⟨D,3,th⟩=tf (tn j n2 c2)/\w.cell? ⟨D,4,th⟩=tf (tr (tf ⟨TT,0,th⟩)))/\(w.cell? ⟨D+1,7,th⟩=tf (tn (tf ⟨g,d,th⟩) o gc)/\w.cell? ⟨D+1,4,th⟩=tf (Z U e))/\w.cell? ⟨g,d+n,th⟩=tf (Z U v)/\D+1<w.heap.size/\w.cell? ⟨T,2,th⟩=tf (.map (tf MB))/\T<w.heap.size
theorem Dt (w:World)(h:As T Bb MB lv P N F C Y at_ B tg s w0 TT RB c b hi w)(hN:0<=N/\N<=9000000)(hF:∀x,0<=F x/\F x<=9000000)(f:aw)(hf:bu f)(t u:cC fg)(n1 n2 c1 c2:bj)(i:Ins)(ga:cC fg)(gc:bj)(xr:i.argsV= tn ga i.args.length gc)(yy:∃ao n cap,i.modeV= tn ao n cap)(ur:ak w0 ga i.args)(yW:i.args.length<=40)(zc:bu i.f)
  (n:bj)(v:aw)(hn:i.args[n]?=tf v)(k:bj)(hk:k<c.ins.length)(hv:isVar c.nvars v=ti)(Cd:c.ins.length<=90000)(Cl:c.nvars<=90000)(hl:C.length+3<=1000000)(D0:Y.length+3<=1000000)
  (uv:∀x∈l9 (λv=>F (f,v)) (F (i.f,(n:aw))) (eG (aX b k) i.d i.args n v) v,x.all (bH N)=ti):
  fj am 149 #[tv #[tr (tf ⟨T,0,th⟩),Z U f,tn t n1 c1,tn u n2 c2,tr (tf ⟨TT,0,th⟩)],tv i.cells,Z U (n:aw),Z U (k:aw)] w λe w'=>e= tB (.tuple #[])/\aV T Bb MB lv P N F (C++l9 (λv=>F (f,v)) (F (i.f,(n:aw))) (eG (aX b k) i.d i.args n v) v) (Y++(l9 (λv=>F (f,v)) (F (i.f,(n:aw))) (eG (aX b k) i.d i.args n v) v).map λ_=>at_) at_ B tg w w':=by
 obtain⟨D,hD⟩:=zE w.heap.size;have ux:∀w C Y tg s,Ag T Bb MB lv P N F C Y at_ B tg s w0 TT RB c b hi D #[tr (tf ⟨T,0,th⟩),Z U f,tn t n1 c1,tn u n2 c2,tr (tf ⟨TT,0,th⟩)] i.cells w->∀W,aE w.heap.size w W->zP 195 #[tv #[tr (tf ⟨T,0,th⟩),Z U f,tn t n1 c1,tn u n2 c2,tr (tf ⟨TT,0,th⟩)],tv i.cells,Z U (n:aw),Z U (k:aw)] W (tt (eG (aX b k) i.d i.args n v)):=λw C Y tg s y W hW=>
  Ac W (y.grow hW).as_ f t u n1 n2 c1 c2 i ga gc xr yy ur yW n v hn k hk hv Cd Cl
 have tS:=Ag.box h #[tr (tf ⟨T,0,th⟩),Z U f,tn t n1 c1,tn u n2 c2,tr (tf ⟨TT,0,th⟩)] i.cells;rw[hD] at tS;obtain⟨mo,mn,mc,zd⟩:=yy;obtain⟨ag,zj⟩:=zE (eG (aX b k) i.d i.args n v);rw[zj] at uv ux⊢;clear zj;obtain⟨op,d,a,bb,A,nn,ub,argsV,modeV,uc,ud,ln,cl,args⟩:=i;simp only at xr zd hn yW zc ur uv ux tS⊢;subst xr zd;simp only[Ins.cells] at tS ux⊢;obtain⟨W1,vu⟩:=zE ((w.alloc (tA #[tr (tf ⟨T,0,th⟩),Z U f,tn t n1 c1,tn u n2 c2,tr (tf ⟨TT,0,th⟩)] 129)).alloc (tA #[Z U op,Z U d,Z U a,Z U bb,Z U A,Z U nn,tm ub,tn ga args.length gc,tn mo mn mc,Z U uc,Z U ud,Z U ln,Z U cl] 42));rw[vu] at tS;have zp:=EX vu;have D1:n<args.length:=(bo.1 hn).1;have D3:(n:aw)<(args.length:aw):=by omega
 have zr:args≠[]:=by intro e;rw[e] at hn;simp at hn
 obtain⟨g,tE,rfl,_,_⟩:=ur zr;obtain⟨z,hz⟩:=zE (F (A,(n:aw)));obtain⟨J,vx⟩:=zE (F (f,v));have vy:=hF (A,(n:aw));have zs:=hF (f,v);rw[hz] at vy uv⊢;rw[vx] at zs;obtain⟨D4,Ek⟩:=vy;obtain⟨EV,E0⟩:=zs;have zv:bu v:=by have:=bJ.1 hv;unfold bu;omega
 have Cp:bu (n:aw):=by unfold bu;omega
 have An:∀w C Y tg s,Ag T Bb MB lv P N F C Y at_ B tg s w0 TT RB c b hi D #[tr (tf ⟨T,0,th⟩),Z U f,tn t n1 c1,tn u n2 c2,tr (tf ⟨TT,0,th⟩)] #[Z U op,Z U d,Z U a,Z U bb,Z U A,Z U nn,tm ub,tn (tf ⟨g,tE,th⟩) args.length gc,tn mo mn mc,Z U uc,Z U ud,Z U ln,Z U cl] w->lu D T MB TT f A v t u n1 n2 c1 c2 g tE args.length gc n w:=λw C Y tg s y=>by
  obtain⟨g',E1,e1,_,e3⟩:=y.as_.ints ur zr;simp only[dj,eV,and_true] at e1;obtain⟨rfl,rfl⟩:=e1;exact⟨⟨(rowAt y.r0 0 rfl).1,(rowAt y.r0 1 rfl).1,(rowAt y.r0 2 rfl).1,(rowAt y.r0 3 rfl).1,(rowAt y.r0 4 rfl).1⟩,⟨(rowAt y.r1 7 rfl).1,(rowAt y.r1 4 rfl).1⟩,e3 n v hn,ae y.r1,(rowAt y.as_.wn.row 2 rfl).1,ae y.as_.wn.row⟩
 have ue:=zH An;have CA:cg (∀w C Y tg s,Ag T Bb MB lv P N F C Y at_ B tg s w0 TT RB c b hi D #[tr (tf ⟨T,0,th⟩),Z U f,tn t n1 c1,tn u n2 c2,tr (tf ⟨TT,0,th⟩)] #[Z U op,Z U d,Z U a,Z U bb,Z U A,Z U nn,tm ub,tn (tf ⟨g,tE,th⟩) args.length gc,tn mo mn mc,Z U uc,Z U ud,Z U ln,Z U cl] w->zP 107 #[tv #[tr (tf ⟨T,0,th⟩),Z U f,tn t n1 c1,tn u n2 c2,tr (tf ⟨TT,0,th⟩)],Z U v] w (Z U J)):=λw C Y tg s y=>by rw[<-vx];exact xS w y.as_.wn f v hf zv t u n1 n2 c1 c2 _
 have At:cg (∀w C Y tg s,Ag T Bb MB lv P N F C Y at_ B tg s w0 TT RB c b hi D #[tr (tf ⟨T,0,th⟩),Z U f,tn t n1 c1,tn u n2 c2,tr (tf ⟨TT,0,th⟩)] #[Z U op,Z U d,Z U a,Z U bb,Z U A,Z U nn,tm ub,tn (tf ⟨g,tE,th⟩) args.length gc,tn mo mn mc,Z U uc,Z U ud,Z U ln,Z U cl] w->(mx 118 (.map (tf MB)) (tv #[Z U A,Z U (n:aw)]) tj).run am w= .ok (Z U z) w):=λw C Y tg s y=>by rw[<-hz];exact y.as_.wn.map.look zc Cp
 have CC:=zH ux;have Ax:=zH zp;have CD:=zH vu;have CH:=zH tS;have xt:=zH uv;have we:=zH vx;have AD:dt.wrap (-z)= -z:=by simp[eC,eE,ef];omega
 have E2:dt.wrap (z+1)=z+1:=by simp[eC,eE,ef];omega
 have AE:dt.wrap (-(z+1))= -(z+1):=by simp[eC,eE,ef];omega
 have CM:D+1<W1.heap.size:=ae tS.r1;clear h ur hn tS uv ux vu zp An hz vx;go_enter func149,ntmps149
 go_upto_region 1 with(fail)
 rw[CD.out];obtain⟨S0,xF⟩:=zE ((λw'=>w'=W1.drew):World->Prop);have CN:S0 W1.drew:=by rw[<-xF]
 have wg:Ag T Bb MB lv P N F C Y at_ B tg s w0 TT RB c b hi D #[tr (tf ⟨T,0,th⟩),Z U f,tn t n1 c1,tn u n2 c2,tr (tf ⟨TT,0,th⟩)] #[Z U op,Z U d,Z U a,Z U bb,Z U A,Z U nn,tm ub,tn (tf ⟨g,tE,th⟩) args.length gc,tn mo mn mc,Z U uc,Z U ud,Z U ln,Z U cl] W1.drew:=CH.out.grow (aq _ _).drew;have R:cg (∀w,S0 w->lu D T MB TT f A v t u n1 n2 c1 c2 g tE args.length gc n w/\(mx 118 (.map (tf MB)) (tv #[Z U A,Z U (n:aw)]) tj).run am w= .ok (Z U z) w):=λw hw=>by rw[<-xF] at hw;rw[hw];exact And.intro (ue.out _ _ _ _ _ wg) (At.out _ _ _ _ _ wg)
 have up:=zH wg;clear xF wg;refine aj 10 S0 (by kernel_rfl) ?_;refine zT 0 rfl R.out ?_;(try go_simp);refine zT 1 rfl R.out ?_;(try go_simp);refine zT 2 rfl R.out ?_;(try go_simp);refine zT 3 rfl R.out ?_;(try go_simp);refine zT 4 rfl R.out ?_;(try go_simp);refine zT 5 rfl R.out ?_;(try go_simp);refine zT 6 rfl R.out ?_;(try go_simp);refine zT 7 rfl R.out ?_;(try go_simp);refine zT 8 rfl R.out ?_;(try go_simp);refine zT 9 rfl R.out ?_;(try go_simp);refine zK rfl λK' j=> ?_;go_simp;refine j _ _ ?_;clear j;refine⟨by kernel_rfl, ?_⟩;clear R CN
 by_cases tU:z=0
 ·have vy:(z==0)=ti:=by rw[tU];rfl
  have E3:=zH tU;have tW:cg (l9 (λv=>F (f,v)) z ag v=[]):=by unfold cg l9;rw[cH tU]
  clear tU;go_wp2;refine dk (ge rfl _ _ _) rfl ?_;rw[tW.out,oT,eA,eA];exact⟨rfl,(up.out.as_.wn.same (aq _ _)).below (Ax.out.drew)⟩
 ·have vy:(z==0)=tj:=eR tU
  have tW:cg (l9 (λv=>F (f,v)) z ag v=[[-z,J]]++(if ag=ti then[[-z]] else[])++[[-(z+1),J,J+1]]):=by unfold cg l9;rw[bw tU];simp only[we.out]
  have AF:[-z,J].all (bH N)=ti:=xt.out _ (by rw[tW.out];simp);have AH:[-(z+1),J,J+1].all (bH N)=ti:=xt.out _ (by rw[tW.out];simp);have AI:ag=ti->[-z].all (bH N)=ti:=λe=>xt.out _ (by rw[tW.out,cH e];simp);have CT:=zH AF;have C4:=zH AI;have C5:=zH AH;clear tU AF AI AH At
  go_upto_region 3 with(fail)
  obtain⟨Wd,wj⟩:=zE W1.drew;rw[wj] at up;(try rw[wj]);have AK:aE w.heap.size w Wd:=by rw[<-wj];exact Ax.out.drew
  have AM:=zH AK;clear wj AK CM;obtain⟨S1,wk⟩:=zE ((λw'=>aE Wd.heap.size Wd w'):World->Prop);have C6:S1 Wd.drew:=by rw[<-wk];exact(aq _ _).drew
  have xT:cg (∀W,aE Wd.heap.size Wd W->S1 W):=λW hW=>by rw[<-wk];exact hW
  have tD:cg (∀w,S1 w->lu D T MB TT f A v t u n1 n2 c1 c2 g tE args.length gc n w):=λw hw=>by rw[<-wk] at hw;exact ue.out _ _ _ _ _ (up.out.grow hw)
  clear wk;refine aj 12 S1 (by kernel_rfl) ?_;refine zT 0 rfl tD.out ?_;(try go_simp);refine zT 1 rfl tD.out ?_;(try go_simp);refine zT 2 rfl tD.out ?_;(try go_simp);refine zT 3 rfl tD.out ?_;(try go_simp);refine zT 4 rfl tD.out ?_;(try go_simp);refine zT 5 rfl tD.out ?_;(try go_simp);refine zT 6 rfl tD.out ?_;(try go_simp);refine zT 7 rfl tD.out ?_;(try go_simp);refine zT 8 rfl tD.out ?_;(try go_simp);refine zT 9 rfl tD.out ?_;(try go_simp);refine zO 10 rfl λK' j=> ?_;go_simp;go_at_call 107;refine(CA.out _ _ _ _ _ (up.out.grow (aq _ _).drew)).mono ?_;rintro e w5 ⟨rfl,AN⟩;have wl:aE Wd.heap.size Wd w5:=(aq _ _).drew.trans AN;have AS:S1 w5:=xT.out _ wl;refine j _ _ AS ?_;clear j;(try go_simp);refine zO 11 rfl λK' j=> ?_;go_simp;(try rw[AD]);obtain⟨G,hG⟩:=zE w5.heap.size;obtain⟨W8,ws⟩:=zE (w5.alloc (tA #[Z U (-z),Z U J] 3));(try rw[hG]);(try rw[ws]);have AT:=gy ws;have vc:aE Wd.heap.size Wd W8:=wl.trans (AT.mono wl.size);have AW:W8.heap[G]?=tf (tA #[Z U (-z),Z U J] 3 (0,0)):=by rw[<-ws,<-hG];exact alloc_at _ _
  have A1:S1 W8:=xT.out _ vc;refine j _ _ A1 ?_;clear j;(try go_simp);refine zK rfl λK' j=> ?_;go_simp;have A2:=zH (iP W8 (up.out.grow vc).as_.wn hN (tf ⟨G,0,th⟩) [-z,J] 2 (ak.lit2 W8 (-z) J AW) CT.out (by simp) (by omega) (by omega));go_at_call 56;refine A2.out.mono ?_;rintro e w9 ⟨rfl,A3⟩;refine j _ _ ?_;clear j;refine⟨by kernel_rfl, ?_⟩;obtain⟨C7,s9,vd,A4,A5,A6⟩:=(up.out.grow vc).mv A3;have ya:=zH vd;have Bk:=zH A4;have Bm:=zH A5;have Bs:=zH A6;have By:aE w.heap.size w W8:=AM.out.trans (vc.mono AM.out.size);have BE:=zH By;obtain⟨⟨x0,x1,x2,x3,x4⟩,⟨x7,x8⟩,y1,y2,y3,y4⟩:=ue.out _ _ _ _ _ vd;have E4:=zH vd.r1;have K:=vd.r1;clear A3 vd A4 A5 A6 By vc AT AW ws hG A1 AS wl AN C6 A2 tD xT;have E:=(rowAt K 0 rfl).1;have z1:=(rowAt K 1 rfl).1;have z2:=(rowAt K 2 rfl).1;have z3:=(rowAt K 3 rfl).1;have z5:=(rowAt K 5 rfl).1;have z6:=(rowAt K 6 rfl).1;have z8:=(rowAt K 8 rfl).1;have z9:=(rowAt K 9 rfl).1;have xf:=(rowAt K 10 rfl).1;have xj:=(rowAt K 11 rfl).1;have xl:=(rowAt K 12 rfl).1;clear K;have BT:=zH (CC.out w9 _ _ _ _ ya.out w9 (aq _ _));have BY:cg (∀(C1:bp (bp aw))(Y1:bp (aw×aw)) yb s1 (w1 W:World)(G:bj),Ag T Bb MB lv P N F C1 Y1 at_ B yb s1 w0 TT RB c b hi D #[tr (tf ⟨T,0,th⟩),Z U f,tn t n1 c1,tn u n2 c2,tr (tf ⟨TT,0,th⟩)] #[Z U op,Z U d,Z U a,Z U bb,Z U A,Z U nn,tm ub,tn (tf ⟨g,tE,th⟩) args.length gc,tn mo mn mc,Z U uc,Z U ud,Z U ln,Z U cl] w1->C1.length+1<=1000000->Y1.length+1<=1000000->aE w1.heap.size w1 W->W.heap[G]?=tf (tA #[Z U (-(z+1))] 3 (0,0))->fj am 106 #[tv #[tr (tf ⟨T,0,th⟩),Z U f,tn t n1 c1,tn u n2 c2,tr (tf ⟨TT,0,th⟩)],Z U v,tn (tf ⟨G,0,th⟩) 1 1] W λe w'=>e= tB (.tuple #[])/\aV T Bb MB lv P N F (C1++[[-(z+1),J,J+1]]) (Y1++[at_]) at_ B yb W w'):=λC1 Y1 yb s1 w1 W G y Dd Dg hW hr=>by
   have:=kF W (y.grow hW).as_.wn hN f v hf zv (by rw[we.out];omega) t u n1 n2 c1 c2 (tf ⟨TT,0,th⟩) (tf ⟨G,0,th⟩) [-(z+1)] 1 (ak.lit1 W _ hr) (λh=>by cases h) (by simp) (by rw[we.out];exact C5.out) (by simp) Dd Dg;rw[we.out] at this;exact this
  cases ag with
  |false=>
   go_upto_region 6 with(go_at_call 195;refine BT.out.mono ?_;rintro e o ⟨rfl,yd⟩;have vf:=zH (ya.out.grow yd);have Do:=zH yd;clear yd)
   have ye:cg (∀{C3 Y3 w3},aV T Bb MB lv P N F C3 Y3 at_ B C7 o w3->aV T Bb MB lv P N F C3 Y3 at_ B tg w w3):=λh3=>aV.below BE.out (o7 Bk.out Bm.out Bs.out (aV.below Do.out h3));clear x0 x1 x2 x3 x4 x7 x8 y1 y2 y3 y4 E z1 z2 z3 z5 z6 z8 z9 xf xj xl;obtain⟨S2,tG⟩:=zE ((λw'=>aE o.heap.size o w'):World->Prop);have yi:S2 o.drew:=by rw[<-tG];exact(aq _ _).drew
   have vh:cg (∀W,aE o.heap.size o W->S2 W):=λW hW=>by rw[<-tG];exact hW
   have q:cg (∀w,S2 w->lu D T MB TT f A v t u n1 n2 c1 c2 g tE args.length gc n w):=λw hw=>by rw[<-tG] at hw;exact ue.out _ _ _ _ _ (vf.out.grow hw)
   clear tG;refine aj 10 S2 (by kernel_rfl) ?_;refine zT 0 rfl q.out ?_;(try go_simp);refine zT 1 rfl q.out ?_;(try go_simp);refine zT 2 rfl q.out ?_;(try go_simp);refine zT 3 rfl q.out ?_;(try go_simp);refine zT 4 rfl q.out ?_;(try go_simp);refine zT 5 rfl q.out ?_;(try go_simp);refine zT 6 rfl q.out ?_;(try go_simp);refine zT 7 rfl q.out ?_;(try go_simp);refine zT 8 rfl q.out ?_;(try go_simp);refine zO 9 rfl λK' j=> ?_;go_simp;(try rw[AE]);obtain⟨G2,ua⟩:=zE o.heap.size;obtain⟨tM,tP⟩:=zE ((o.alloc (tA #[Z U (-(z+1))] 3)).drew);(try rw[ua]);(try rw[tP]);have tR:aE o.heap.size o tM:=by rw[<-tP];exact((aq _ _).alloc (cd _) _).drew
   have vm:tM.heap[G2]?=tf (tA #[Z U (-(z+1))] 3 (0,0)):=by rw[<-tP,<-ua];exact alloc_at _ _
   have vp:S2 tM:=vh.out _ tR;refine j _ _ vp ?_;clear j;(try go_simp);refine zK rfl λK' j=> ?_;go_simp;have vq:=zH (BY.out _ _ _ _ o tM G2 vf.out (by simp only[bm,cj];omega) (by simp only[bm,cj];omega) tR vm);go_at_call 106;refine vq.out.mono ?_;rintro e Ds ⟨rfl,vr⟩;refine j _ _ ?_;clear j;refine⟨by kernel_rfl, ?_⟩;have vt:=(ye.out (aV.below tR vr))
   have yk:=zH vt;clear vt vr tR vm tP ua vp yi vq q vh;go_wp2
   go_end0
   refine⟨rfl, ?_⟩;rw[tW.out];simpa using yk.out
  |true=>
   go_upto_region 5 with(go_at_call 195;refine BT.out.mono ?_;rintro e wy ⟨rfl,yp⟩;have yq:=zH (ya.out.grow yp);have DA:=zH yp;clear yp)
   clear x0 x1 x2 x3 x4 x7 x8 y1 y2 y3 y4 E z1 z2 z3 z5 z6 z8 z9 xf xj xl;obtain⟨⟨x0,x1,x2,x3,x4⟩,⟨x7,x8⟩,y1,y2,y3,y4⟩:=ue.out _ _ _ _ _ yq.out;obtain⟨G1,yr⟩:=zE wy.heap.size;obtain⟨yv,xo⟩:=zE (wy.alloc (tA #[Z U (-z)] 3));have xp:=gy xo;have B4:yv.heap[G1]?=tf (tA #[Z U (-z)] 3 (0,0)):=by rw[<-xo,<-yr];exact alloc_at _ _
   have DB:=zH (iP yv (yq.out.grow xp).as_.wn hN (tf ⟨G1,0,th⟩) [-z] 1 (ak.lit1 yv (-z) B4) (C4.out (by first|rfl|trivial)) (by simp) (by simp only[bm,cj];omega) (by simp only[bm,cj];omega));have DE:=zH (yq.out.grow xp);have DG:=zH xp;have DH:=zH xo;have DM:=zH yr;clear xp B4 xo yr
   go_upto_region 6 with(go_at_call 56;(try rw[AD]);(try rw[DM.out]);(try rw[DH.out]);refine DB.out.mono ?_;rintro e o ⟨rfl,B5⟩;obtain⟨DO,sz,B6,B7,B8,B9⟩:=DE.out.mv B5;have vf:=zH B6;have DP:=zH B7;have DQ:=zH B8;have DS:=zH B9;clear B5 B6 B7 B8 B9)
   have ye:cg (∀{C3 Y3 w3},aV T Bb MB lv P N F C3 Y3 at_ B DO o w3->aV T Bb MB lv P N F C3 Y3 at_ B tg w w3):=λh3=>aV.below BE.out (o7 Bk.out Bm.out Bs.out (aV.below DA.out (aV.below DG.out (o7 DP.out DQ.out DS.out h3))));have E:True:=trivial;have z1:=E;have z2:=E;have z3:=E;have z5:=E;have z6:=E;have z8:=E;have z9:=E;have xf:=E;have xj:=E;have xl:=E;clear x0 x1 x2 x3 x4 x7 x8 y1 y2 y3 y4 E z1 z2 z3 z5 z6 z8 z9 xf xj xl;obtain⟨S2,tG⟩:=zE ((λw'=>aE o.heap.size o w'):World->Prop);have yi:S2 o.drew:=by rw[<-tG];exact(aq _ _).drew
   have vh:cg (∀W,aE o.heap.size o W->S2 W):=λW hW=>by rw[<-tG];exact hW
   have q:cg (∀w,S2 w->lu D T MB TT f A v t u n1 n2 c1 c2 g tE args.length gc n w):=λw hw=>by rw[<-tG] at hw;exact ue.out _ _ _ _ _ (vf.out.grow hw)
   clear tG;refine aj 10 S2 (by kernel_rfl) ?_;refine zT 0 rfl q.out ?_;(try go_simp);refine zT 1 rfl q.out ?_;(try go_simp);refine zT 2 rfl q.out ?_;(try go_simp);refine zT 3 rfl q.out ?_;(try go_simp);refine zT 4 rfl q.out ?_;(try go_simp);refine zT 5 rfl q.out ?_;(try go_simp);refine zT 6 rfl q.out ?_;(try go_simp);refine zT 7 rfl q.out ?_;(try go_simp);refine zT 8 rfl q.out ?_;(try go_simp);refine zO 9 rfl λK' j=> ?_;go_simp;(try rw[AE]);obtain⟨G2,ua⟩:=zE o.heap.size;obtain⟨tM,tP⟩:=zE ((o.alloc (tA #[Z U (-(z+1))] 3)).drew);(try rw[ua]);(try rw[tP]);have tR:aE o.heap.size o tM:=by rw[<-tP];exact((aq _ _).alloc (cd _) _).drew
   have vm:tM.heap[G2]?=tf (tA #[Z U (-(z+1))] 3 (0,0)):=by rw[<-tP,<-ua];exact alloc_at _ _
   have vp:S2 tM:=vh.out _ tR;refine j _ _ vp ?_;clear j;(try go_simp);refine zK rfl λK' j=> ?_;go_simp;have vq:=zH (BY.out _ _ _ _ o tM G2 vf.out (by simp only[bm,cj];omega) (by simp only[bm,cj];omega) tR vm);go_at_call 106;refine vq.out.mono ?_;rintro e Ds ⟨rfl,vr⟩;refine j _ _ ?_;clear j;refine⟨by kernel_rfl, ?_⟩;have vt:=(ye.out (aV.below tR vr))
   have yk:=zH vt;clear vt vr tR vm tP ua vp yi vq q vh;go_wp2
   go_end0
   refine⟨rfl, ?_⟩;rw[tW.out];simpa using yk.out
end
def aN (T Bb MB:bj)(lv:cC fg×bj)(P:bp (aw×aw))(N:aw)(F:aw×aw->aw)(at_:aw×aw)(B:bj)(tg:bj->bj)(w0:World)(TT RB:bj)(c:dP)(b:bj->bj->bj)(hi:bj)(D:bj)(ac ic:dl cw)(W1:World)(C:bp (bp aw))(Y:bp (aw×aw))(w:World):Prop:=
 ∃d e,Ag T Bb MB lv P N F C Y at_ B d e w0 TT RB c b hi D ac ic w/\Ext (λq=>tg q≠0) W1 w/\(∀k,d k≠0->tg k≠0\/W1.heap.size<=k)/\∀k,tg k≠0->d k=tg k
section
variable {T Bb MB:bj}{lv:cC fg×bj}{P:bp (aw×aw)}{N:aw}{F:aw×aw->aw}{C C2:bp (bp aw)}{Y Y2:bp (aw×aw)}{at_ at2:aw×aw}{B:bj}{tg:bj->bj}{s:nz}{w0:World}{TT RB hi:bj}{c:dP}{b:bj->bj->bj}{D:bj}{ac ic:dl cw}{W1 w w' w2:World}
theorem aN.wn (h:aN T Bb MB lv P N F at_ B tg w0 TT RB c b hi D ac ic W1 C Y w):aV T Bb MB lv P N F C Y at_ B tg W1 w:=by
 obtain⟨d,e,f,g,j,o⟩:=h;exact⟨d,e,f.as_.wn,g,j,o⟩
theorem aN.start (h:Ag T Bb MB lv P N F C Y at_ B tg s w0 TT RB c b hi D ac ic W1):aN T Bb MB lv P N F at_ B tg w0 TT RB c b hi D ac ic W1 C Y W1:=⟨tg,s,h,Ext.refl _ _,λ_ d=> .inl d,λ_ _=>rfl⟩
theorem aN.grow (h:aN T Bb MB lv P N F at_ B tg w0 TT RB c b hi D ac ic W1 C Y w)(hb:aE w.heap.size w w'):aN T Bb MB lv P N F at_ B tg w0 TT RB c b hi D ac ic W1 C Y w':=by
 obtain⟨d,e,f,g,j,o⟩:=h;exact⟨d,e,f.grow hb,g.trans (Ext.of_below_size (M:=λ_=>lj) hb) (λq h=>h.elim),j,o⟩
theorem aN.of {d:bj->bj}{j:nz}(o:Ag T Bb MB lv P N F C Y at_ B d j w0 TT RB c b hi D ac ic w)(g:Ext (λq=>tg q≠0) W1 w)(h:∀k,d k≠0->tg k≠0\/W1.heap.size<=k)(t:∀k,tg k≠0->d k=tg k)(u:aV T Bb MB lv P N F C2 Y2 at_ B d w w'):aN T Bb MB lv P N F at_ B tg w0 TT RB c b hi D ac ic W1 C2 Y2 w':=by
 obtain⟨v,x,y,z,A,E⟩:=o.mv u;refine⟨v,x,y,g.trans z (λq G=>h q G),λk f=> ?_,λk f=> ?_⟩
 ·rcases A k f with e|e
  ·exact h k e
  ·exact .inr (eN g.size e)
 ·have:=t k f
  rw[E k (by omega),this]
theorem aN.then_ {d:bj->bj}{e:nz}(f:Ag T Bb MB lv P N F C Y at_ B d e w0 TT RB c b hi D ac ic w)(g:Ext (λq=>tg q≠0) W1 w)(h:∀k,d k≠0->tg k≠0\/W1.heap.size<=k)(j:∀k,tg k≠0->d k=tg k)(hb:aE w.heap.size w w2)(o:aV T Bb MB lv P N F C2 Y2 at_ B d w2 w'):aN T Bb MB lv P N F at_ B tg w0 TT RB c b hi D ac ic W1 C2 Y2 w':=
 aN.of f g h j (aV.below hb o)
theorem aN.put2 (h:aN T Bb MB lv P N F at_ B tg w0 TT RB c b hi D ac ic W1 C Y w)(f:0<=N/\N<=9000000)(x y:aw)(g:[x,y].all (bH N)=ti)(j:C.length+1<=1000000)(o:Y.length+1<=1000000):
  fj am 56 #[tr (tf ⟨T,0,th⟩),tn (tf ⟨w.heap.size,0,th⟩) 2 2] (w.alloc (tA #[Z U x,Z U y] 3)) λe w'=>e= tB (.tuple #[])/\aN T Bb MB lv P N F at_ B tg w0 TT RB c b hi D ac ic W1 (C++[[x,y]]) (Y++[at_]) w':=by
 have hb:aE w.heap.size w (w.alloc (tA #[Z U x,Z U y] 3)):=(aq _ _).alloc (cd _) _;obtain⟨z,A,d,q,t,u⟩:=h;refine(iP _ (d.grow hb).as_.wn f (tf ⟨w.heap.size,0,th⟩) [x,y] 2 (ak.lit2 _ x y (alloc_at _ _)) g (by simp) j o).mono ?_;rintro e w2 ⟨rfl,v⟩;exact⟨rfl,aN.then_ d q t u hb v⟩
theorem aN.put1 (h:aN T Bb MB lv P N F at_ B tg w0 TT RB c b hi D ac ic W1 C Y w)(f:0<=N/\N<=9000000)(x:aw)(g:[x].all (bH N)=ti)(j:C.length+1<=1000000)(o:Y.length+1<=1000000):
  fj am 56 #[tr (tf ⟨T,0,th⟩),tn (tf ⟨w.heap.size,0,th⟩) 1 1] (w.alloc (tA #[Z U x] 3)) λe w'=>e= tB (.tuple #[])/\aN T Bb MB lv P N F at_ B tg w0 TT RB c b hi D ac ic W1 (C++[[x]]) (Y++[at_]) w':=by
 have hb:aE w.heap.size w (w.alloc (tA #[Z U x] 3)):=(aq _ _).alloc (cd _) _;obtain⟨y,z,d,q,t,u⟩:=h;refine(iP _ (d.grow hb).as_.wn f (tf ⟨w.heap.size,0,th⟩) [x] 1 (ak.lit1 _ x (alloc_at _ _)) g (by simp) j o).mono ?_;rintro e w2 ⟨rfl,v⟩;exact⟨rfl,aN.then_ d q t u hb v⟩
theorem aN.o (h:aN T Bb MB lv P N F at_ B tg w0 TT RB c b hi D ac ic W1 C Y w)(f v:aw)(hf:bu f)(j:bu v)(d e:cC fg)(n1 n2 c1 c2:bj)(g:cC fg):
  zP 107 #[tv #[tr (tf ⟨T,0,th⟩),Z U f,tn d n1 c1,tn e n2 c2,.pointer g],Z U v] w (Z U (F (f,v))):=by
 obtain⟨t,u,q,x,y,z⟩:=h;exact xS w q.as_.wn f v hf j d e n1 n2 c1 c2 g
theorem aN.look (h:aN T Bb MB lv P N F at_ B tg w0 TT RB c b hi D ac ic W1 C Y w){f v:aw}(hf:bu f)(d:bu v):(mx 118 (.map (tf MB)) (tv #[Z U f,Z U v]) tj).run am w= .ok (Z U (F (f,v))) w:=by
 obtain⟨g,j,e,o,q,t⟩:=h;exact e.as_.wn.map.look hf d
theorem aN.rows (h:aN T Bb MB lv P N F at_ B tg w0 TT RB c b hi D ac ic W1 C Y w):w.heap[D]?=tf (tA ac 129 (0,0))/\w.heap[D+1]?=tf (tA ic 42 (0,0))/\w.cell? ⟨T,2,th⟩=tf (.map (tf MB))/\T<w.heap.size:=by
 obtain⟨e,f,d,g,j,o⟩:=h;exact⟨d.r0,d.r1,(rowAt d.as_.wn.row 2 rfl).1,ae d.as_.wn.row⟩
end
abbrev jV (D T TT:bj)(f op d a e g h:aw)(j:bl)(o q:cC fg)(t gc u v:bj)(x y z A:aw)(E G:cC fg)(n1 n2 c1 c2:bj)(w:World):Prop:=
 (w.cell? ⟨D,0,th⟩=tf (tr (tf ⟨T,0,th⟩))/\w.cell? ⟨D,1,th⟩=tf (Z U f)/\w.cell? ⟨D,2,th⟩=tf (tn E n1 c1)/\w.cell? ⟨D,3,th⟩=tf (tn G n2 c2)/\w.cell? ⟨D,4,th⟩=tf (tr (tf ⟨TT,0,th⟩)))/\
 (w.cell? ⟨D+1,0,th⟩=tf (Z U op)/\w.cell? ⟨D+1,1,th⟩=tf (Z U d)/\w.cell? ⟨D+1,2,th⟩=tf (Z U a)/\w.cell? ⟨D+1,3,th⟩=tf (Z U e)/\w.cell? ⟨D+1,4,th⟩=tf (Z U g)/\w.cell? ⟨D+1,5,th⟩=tf (Z U h)/\w.cell? ⟨D+1,6,th⟩=tf (tm j)/\w.cell? ⟨D+1,7,th⟩=tf (tn o t gc)/\w.cell? ⟨D+1,8,th⟩=tf (tn q u v)/\w.cell? ⟨D+1,9,th⟩=tf (Z U x)/\w.cell? ⟨D+1,10,th⟩=tf (Z U y)/\w.cell? ⟨D+1,11,th⟩=tf (Z U z)/\w.cell? ⟨D+1,12,th⟩=tf (Z U A))/\D+1<w.heap.size
theorem sU {D T TT:bj}{f op d a g h j:aw}{o:bl}{q t:cC fg}{u gc v x:bj}{y z A E:aw}{G J:cC fg}{n1 n2 c1 c2:bj}{w:World}(h0:w.heap[D]?=tf (tA #[tr (tf ⟨T,0,th⟩),Z U f,tn G n1 c1,tn J n2 c2,tr (tf ⟨TT,0,th⟩)] 129 (0,0)))(e:w.heap[D+1]?=tf (tA #[Z U op,Z U d,Z U a,Z U g,Z U h,Z U j,tm o,tn q u gc,tn t v x,Z U y,Z U z,Z U A,Z U E] 42 (0,0))):jV D T TT f op d a g h j o q t u gc v x y z A E G J n1 n2 c1 c2 w:=
 ⟨⟨(rowAt h0 0 rfl).1,(rowAt h0 1 rfl).1,(rowAt h0 2 rfl).1,(rowAt h0 3 rfl).1,(rowAt h0 4 rfl).1⟩,⟨(rowAt e 0 rfl).1,(rowAt e 1 rfl).1,(rowAt e 2 rfl).1,(rowAt e 3 rfl).1,(rowAt e 4 rfl).1,(rowAt e 5 rfl).1,(rowAt e 6 rfl).1,(rowAt e 7 rfl).1,(rowAt e 8 rfl).1,(rowAt e 9 rfl).1,(rowAt e 10 rfl).1,(rowAt e 11 rfl).1,(rowAt e 12 rfl).1⟩,ae e⟩
def qN (o:aw->aw)(a:aw):bp (bp aw):=if o (-1)=0 then[] else[[-(o (-1)),o a],[o (-1),-(o a)],[-(o (-1)+1),o a+1]]
def jf (F:aw×aw->aw)(o:aw->aw)(beh:aw->ml)(i:Ins):bj->bp aw->bp (bp aw)
 |_,[]=>[]
 |n,a::r=>l9 o (F (i.f,(n:aw))) (eG beh i.d i.args n a) a++jf F o beh i (n+1) r
theorem o8 {P:bp (aw×aw)}{o:aw->aw}{beh:aw->ml}{i:Ins}:∀(l:bp aw)(n:bj),jf (aJ 0 P) o beh i n l=mI P o beh i n l
 |[],_=>rfl
 |a::r,n=>by unfold jf mI;rw[o8 r (n+1)]
theorem sV {F:aw×aw->aw}{o:aw->aw}{beh:aw->ml}{i:Ins}{a:aw}:∀(l:bp aw)(n:bj),jf F o beh i n (l++[a])=jf F o beh i n l++l9 o (F (i.f,((n+l.length:bj):aw))) (eG beh i.d i.args (n+l.length) a) a
 |[],n=>by simp[jf]
 |x::r,n=>by
  rw[gh];unfold jf;rw[sV r (n+1),ei,eh,show n+1+r.length=n+(r.length+1) by omega]
theorem EH {o:aw->aw}{p a:aw}{ag:ml}:(l9 o p ag a).length<=3:=by
 unfold l9
 by_cases h:p=0
 ·rw[cH h];simp
 ·rw[bw h];cases ag<;>simp
theorem o9 {F:aw×aw->aw}{o:aw->aw}{beh:aw->ml}{i:Ins}:∀(l:bp aw)(n:bj),(jf F o beh i n l).length<=3*l.length
 |[],_=>by simp[jf]
 |x::r,n=>by
  unfold jf;rw[bm,eh];have e:=o9 (F:=F) (o:=o) (beh:=beh) (i:=i) r (n+1);have g:=EH (o:=o) (p:=F (i.f,(n:aw))) (a:=x) (ag:=eG beh i.d i.args n x);omega
theorem vV {F:aw×aw->aw}{o:aw->aw}{beh:aw->ml}{i:Ins}{a:aw}{x:bp aw}:∀(l:bp aw)(n j:bj),l[j]?=tf a->x∈l9 o (F (i.f,((n+j:bj):aw))) (eG beh i.d i.args (n+j) a) a->x∈jf F o beh i n l
 |[],_,_,h,_=>by simp at h
 |y::r,n,0,h,e=>by
  obtain rfl:y=a:=by simpa using h
  unfold jf;exact dg.2 (.inl e)
 |y::r,n,j+1,h,e=>by
  unfold jf;refine dg.2 (.inr (vV r (n+1) j (by simpa using h) ?_));rw[show n+1+j=n+(j+1) by omega];exact e
def jW (F:aw×aw->aw)(f:aw)(beh:aw->ml)(i:Ins):bp (bp aw):=
 jf F (λv=>F (f,v)) beh i 0 i.args++(if 0<F (f,i.d) then[[-(F (f,i.d)),F (i.f,-1)],[F (f,i.d),-(F (i.f,-1))],[-(F (f,i.d)+1),F (i.f,-1)+1],[F (f,i.d)+1,-(F (i.f,-1)+1)]] else[])
section
variable {T Bb MB:bj}{lv:cC fg×bj}{P:bp (aw×aw)}{N:aw}{F:aw×aw->aw}{C C2:bp (bp aw)}{Y Y2:bp (aw×aw)}{at_ at2:aw×aw}{B:bj}{tg:bj->bj}{s:nz}{w0:World}{TT RB hi:bj}{c:dP}{b:bj->bj->bj}
theorem Du (w:World)(h:As T Bb MB lv P N F C Y at_ B tg s w0 TT RB c b hi w)(hN:0<=N/\N<=9000000)(hF:∀x,0<=F x/\F x<=9000000)(f:aw)(hf:bu f)(g j:cC fg)(n1 n2 c1 c2:bj)(i:Ins)(t:cC fg)(gc:bj)(vx:i.argsV= tn t i.args.length gc)(xT:∃ao n cap,i.modeV= tn ao n cap)(vy:bu i.a)
  (hl:C.length+3<=1000000)(yr:Y.length+3<=1000000)(uv:∀x∈qN (λv=>F (f,v)) i.a,x.all (bH N)=ti):
  fj am 110 #[tv #[tr (tf ⟨T,0,th⟩),Z U f,tn g n1 c1,tn j n2 c2,tr (tf ⟨TT,0,th⟩)],tv i.cells] w λe w'=>e= tB (.tuple #[])/\aV T Bb MB lv P N F (C++qN (λv=>F (f,v)) i.a) (Y++(qN (λv=>F (f,v)) i.a).map λ_=>at_) at_ B tg w w':=by
 obtain⟨D,hD⟩:=zE w.heap.size;have tS:=Ag.box h #[tr (tf ⟨T,0,th⟩),Z U f,tn g n1 c1,tn j n2 c2,tr (tf ⟨TT,0,th⟩)] i.cells;rw[hD] at tS;obtain⟨G,J,K,we⟩:=xT;obtain⟨op,d,a,R,ff,nn,tD,argsV,modeV,tE,tG,ln,cl,args⟩:=i;simp only at vx we vy uv⊢;subst vx we;simp only[Ins.cells] at tS⊢;obtain⟨W1,ud⟩:=zE ((w.alloc (tA #[tr (tf ⟨T,0,th⟩),Z U f,tn g n1 c1,tn j n2 c2,tr (tf ⟨TT,0,th⟩)] 129)).alloc (tA #[Z U op,Z U d,Z U a,Z U R,Z U ff,Z U nn,tm tD,tn t args.length gc,tn G J K,Z U tE,Z U tG,Z U ln,Z U cl] 42));rw[ud] at tS;have wg:=EX ud;have tU:cg (aN T Bb MB lv P N F at_ B tg w0 TT RB c b hi D #[tr (tf ⟨T,0,th⟩),Z U f,tn g n1 c1,tn j n2 c2,tr (tf ⟨TT,0,th⟩)] #[Z U op,Z U d,Z U a,Z U R,Z U ff,Z U nn,tm tD,tn t args.length gc,tn G J K,Z U tE,Z U tG,Z U ln,Z U cl] W1 C Y W1):=aN.start tS;have ue:cg (∀C2 Y2 w2,aN T Bb MB lv P N F at_ B tg w0 TT RB c b hi D #[tr (tf ⟨T,0,th⟩),Z U f,tn g n1 c1,tn j n2 c2,tr (tf ⟨TT,0,th⟩)] #[Z U op,Z U d,Z U a,Z U R,Z U ff,Z U nn,tm tD,tn t args.length gc,tn G J K,Z U tE,Z U tG,Z U ln,Z U cl] W1 C2 Y2 w2->jV D T TT f op d a R ff nn tD t G args.length gc J K tE tG ln cl g j n1 n2 c1 c2 w2/\w2.cell? ⟨T,2,th⟩=tf (.map (tf MB))/\T<w2.heap.size):=λC2 Y2 w2 h2=>by
  obtain⟨r0,r1,r2,r3⟩:=h2.rows;exact⟨sU r0 r1,r2,r3⟩
 have ya:=zH ud;have wj:=zH wg;clear ud wg h tS;obtain⟨r,hr⟩:=zE (F (f,-1));obtain⟨x,hx⟩:=zE (F (f,a));have up:=hF (f,-1);have wk:=hF (f,a);rw[hr] at up;rw[hx] at wk;obtain⟨yv,yy⟩:=up;obtain⟨yW,zc⟩:=wk;have yb:cg (∀C2 Y2 w2,aN T Bb MB lv P N F at_ B tg w0 TT RB c b hi D #[tr (tf ⟨T,0,th⟩),Z U f,tn g n1 c1,tn j n2 c2,tr (tf ⟨TT,0,th⟩)] #[Z U op,Z U d,Z U a,Z U R,Z U ff,Z U nn,tm tD,tn t args.length gc,tn G J K,Z U tE,Z U tG,Z U ln,Z U cl] W1 C2 Y2 w2->zP 107 #[tv #[tr (tf ⟨T,0,th⟩),Z U f,tn g n1 c1,tn j n2 c2,tr (tf ⟨TT,0,th⟩)],Z U (-1)] w2 (Z U r)):=λC2 Y2 w2 h2=>by rw[<-hr];exact h2.o f (-1) hf (by unfold bu;omega) g j n1 n2 c1 c2 _
 have yd:cg (∀C2 Y2 w2,aN T Bb MB lv P N F at_ B tg w0 TT RB c b hi D #[tr (tf ⟨T,0,th⟩),Z U f,tn g n1 c1,tn j n2 c2,tr (tf ⟨TT,0,th⟩)] #[Z U op,Z U d,Z U a,Z U R,Z U ff,Z U nn,tm tD,tn t args.length gc,tn G J K,Z U tE,Z U tG,Z U ln,Z U cl] W1 C2 Y2 w2->zP 107 #[tv #[tr (tf ⟨T,0,th⟩),Z U f,tn g n1 c1,tn j n2 c2,tr (tf ⟨TT,0,th⟩)],Z U a] w2 (Z U x)):=λC2 Y2 w2 h2=>by rw[<-hx];exact h2.o f a hf vy g j n1 n2 c1 c2 _
 have HR:cg (qN (λv=>F (f,v)) a=if r=0 then[] else[[-r,x],[r,-x],[-(r+1),x+1]]):=by unfold cg qN;simp only[hr,hx]
 have ux:=zH uv;have w1:dt.wrap (-r)= -r:=by simp[eC,eE,ef];omega
 have w2:dt.wrap (-x)= -x:=by simp[eC,eE,ef];omega
 have w3:dt.wrap (r+1)=r+1:=by simp[eC,eE,ef];omega
 have w4:dt.wrap (-(r+1))= -(r+1):=by simp[eC,eE,ef];omega
 have w5:dt.wrap (x+1)=x+1:=by simp[eC,eE,ef];omega
 clear uv hr hx;go_enter func110,ntmps110
 go_upto_region 1 with(fail)
 rw[ya.out];obtain⟨S1,ur⟩:=zE ((λw'=>aE W1.heap.size W1 w'):World->Prop);have ye:S1 W1.drew:=by rw[<-ur];exact(aq _ _).drew
 have vc:cg (∀W,aE W1.heap.size W1 W->S1 W):=λW hW=>by rw[<-ur];exact hW
 have wl:cg (∀W,S1 W->aE W1.heap.size W1 W):=λW hW=>by rw[<-ur] at hW;exact hW
 have tM:cg (∀w,S1 w->jV D T TT f op d a R ff nn tD t G args.length gc J K tE tG ln cl g j n1 n2 c1 c2 w):=λw hw=>(ue.out _ _ _ (tU.out.grow (wl.out w hw))).1;clear ur;refine aj 7 S1 (by kernel_rfl) ?_;refine zT 0 rfl tM.out ?_;(try go_simp);refine zT 2 rfl tM.out ?_;(try go_simp);refine zT 3 rfl tM.out ?_;(try go_simp);refine zT 4 rfl tM.out ?_;(try go_simp);refine zO 1 rfl λK' u=> ?_;go_simp;go_at_call 107;refine(yb.out _ _ _ (tU.out.grow (aq _ _).drew)).mono ?_;rintro e ws ⟨rfl,xf⟩;have tW:aE W1.heap.size W1 ws:=(aq _ _).drew.trans xf;have xj:S1 ws:=vc.out _ tW;refine u _ _ xj ?_;clear u;(try go_simp);refine zO 5 rfl λK' u=> ?_;go_simp;go_at_call 107;refine(yd.out _ _ _ (tU.out.grow tW)).mono ?_;rintro e w6 ⟨rfl,xl⟩;have vd:aE W1.heap.size W1 w6:=tW.trans (xl.mono tW.size);have xo:S1 w6:=vc.out _ vd;refine u _ _ xo ?_;clear u;(try go_simp);refine zT 6 rfl tM.out ?_;(try go_simp);refine zK rfl λK' u=> ?_;go_simp;refine u _ _ ?_;clear u;refine⟨by kernel_rfl, ?_⟩;have vf:=tU.out.grow vd;have vh:=zH vf;clear xo xj ye tM wl vc xl xf tW vd tU
 by_cases tP:r=0
 ·have up:(r==0)=ti:=by rw[tP];rfl
  have tR:cg (qN (λv=>F (f,v)) a=[]):=by unfold cg;rw[HR.out,cH tP]
  clear tP vf;go_wp2;refine dk (ge rfl _ _ _) rfl ?_;rw[tR.out,oT,eA,eA];have:=vh.out.wn;exact⟨rfl,aV.below wj.out this⟩
 ·have up:(r==0)=tj:=eR tP
  have tR:cg (qN (λv=>F (f,v)) a=[[-r,x],[r,-x],[-(r+1),x+1]]):=by unfold cg;rw[HR.out,bw tP]
  have yi:cg ([-r,x].all (bH N)=ti):=ux.out _ (by rw[tR.out];simp);have yk:cg ([r,-x].all (bH N)=ti):=ux.out _ (by rw[tR.out];simp);have yp:cg ([-(r+1),x+1].all (bH N)=ti):=ux.out _ (by rw[tR.out];simp);clear tP;clear vf;obtain⟨⟨x0,x1,x2,x3,x4⟩,⟨z0,z1,z2,z3,z4,z5,z6,z7,z8,z9,ua,ub,uc⟩,y2⟩:=(ue.out _ _ _ vh.out).1;obtain⟨G0,vm⟩:=zE w6.heap.size;obtain⟨V0,vp⟩:=zE (w6.alloc (tA #[Z U (-r),Z U (x)] 3));have q:=aN.put2 vh.out hN (-r) (x) yi.out (by(try simp only[bm,cj]);omega) (by(try simp only[bm,cj]);omega);rw[vm,vp] at q;have y:=zH q;have z:=zH vp;have A:=zH vm;clear q vp vm
  go_upto_region 4 with(go_at_call 56;(try rw[A.out]);(try simp only[w1,w2,w3,w4,w5]);(try rw[z.out]);refine y.out.mono ?_;rintro e xp ⟨rfl,E⟩;have xr:=zH E;clear E)
  clear x0 x1 x2 x3 x4 z0 z1 z2 z3 z4 z5 z6 z7 z8 z9 ua ub uc y2 y z A;obtain⟨⟨x0,x1,x2,x3,x4⟩,⟨z0,z1,z2,z3,z4,z5,z6,z7,z8,z9,ua,ub,uc⟩,y2⟩:=(ue.out _ _ _ xr.out).1;obtain⟨G1,vq⟩:=zE xp.heap.size;obtain⟨V1,vr⟩:=zE (xp.alloc (tA #[Z U (r),Z U (-x)] 3));have q:=aN.put2 xr.out hN (r) (-x) yk.out (by(try simp only[bm,cj]);omega) (by(try simp only[bm,cj]);omega);rw[vq,vr] at q;have y:=zH q;have z:=zH vr;have A:=zH vq;clear q vr vq
  go_upto_region 5 with(go_at_call 56;(try rw[A.out]);(try simp only[w1,w2,w3,w4,w5]);(try rw[z.out]);refine y.out.mono ?_;rintro e xt ⟨rfl,E⟩;have xF:=zH E;clear E)
  clear x0 x1 x2 x3 x4 z0 z1 z2 z3 z4 z5 z6 z7 z8 z9 ua ub uc y2 y z A;obtain⟨⟨x0,x1,x2,x3,x4⟩,⟨z0,z1,z2,z3,z4,z5,z6,z7,z8,z9,ua,ub,uc⟩,y2⟩:=(ue.out _ _ _ xF.out).1;obtain⟨G2,vt⟩:=zE xt.heap.size;obtain⟨V2,vu⟩:=zE (xt.alloc (tA #[Z U (-(r+1)),Z U (x+1)] 3));have q:=aN.put2 xF.out hN (-(r+1)) (x+1) yp.out (by(try simp only[bm,cj]);omega) (by(try simp only[bm,cj]);omega);rw[vt,vu] at q;have y:=zH q;have z:=zH vu;have A:=zH vt;clear q vu vt
  go_wp2_with (go_at_call 56;(try rw[A.out]);(try simp only[w1,w2,w3,w4,w5]);(try rw[z.out]);refine y.out.mono ?_;rintro e zd ⟨rfl,E⟩;have yq:=zH E;clear E)
  clear x0 x1 x2 x3 x4 z0 z1 z2 z3 z4 z5 z6 z7 z8 z9 ua ub uc y2 y z A
  go_end0
  refine⟨rfl, ?_⟩;have:=yq.out.wn;rw[tR.out];refine aV.below wj.out ?_;simpa using this
end
section
variable {T Bb MB:bj}{lv:cC fg×bj}{P:bp (aw×aw)}{N:aw}{F:aw×aw->aw}{C C2:bp (bp aw)}{Y Y2:bp (aw×aw)}{at_ at2:aw×aw}{B:bj}{tg:bj->bj}{s:nz}{w0:World}{TT RB hi:bj}{c:dP}{b:bj->bj->bj}
theorem Ad (w:World)(h:As T Bb MB lv P N F C Y at_ B tg s w0 TT RB c b hi w)(hN:0<=N/\N<=9000000)(hF:∀x,0<=F x/\F x<=9000000)(f:aw)(hf:bu f)(A E:cC fg)(n1 n2 c1 c2:bj)(i:Ins)(t:cC fg)(gc:bj)(xj:i.argsV= tn t i.args.length gc)(zp:∃ao n cap,i.modeV= tn ao n cap)(vp:ak w0 t i.args)(xl:i.args.length<=40)(vq:bu i.f)(xo:bu i.d)
  (k:bj)(hk:k<c.ins.length)(hv:∀v∈i.args,isVar c.nvars v=ti)(zr:c.ins.length<=90000)(zs:c.nvars<=90000)(hl:C.length+130<=1000000)(A1:Y.length+130<=1000000)
  (ur:∀x∈jW F f (aX b k) i,x.all (bH N)=ti):
  fj am 109 #[tv #[tr (tf ⟨T,0,th⟩),Z U f,tn A n1 c1,tn E n2 c2,tr (tf ⟨TT,0,th⟩)],tv i.cells,Z U (k:aw)] w λe w'=>e= tB (.tuple #[])/\aV T Bb MB lv P N F (C++jW F f (aX b k) i) (Y++(jW F f (aX b k) i).map λ_=>at_) at_ B tg w w':=by
 obtain⟨D,hD⟩:=zE w.heap.size;have ud:=Ag.box h #[tr (tf ⟨T,0,th⟩),Z U f,tn A n1 c1,tn E n2 c2,tr (tf ⟨TT,0,th⟩)] i.cells;rw[hD] at ud;obtain⟨u,y,z,xp⟩:=zp;obtain⟨op,d,a,G,g,J,K,argsV,modeV,R,tD,ln,cl,args⟩:=i;simp only at xj xp xo vq hv xl vp ur⊢;subst xj xp;simp only[Ins.cells] at ud⊢;obtain⟨W1,uv⟩:=zE ((w.alloc (tA #[tr (tf ⟨T,0,th⟩),Z U f,tn A n1 c1,tn E n2 c2,tr (tf ⟨TT,0,th⟩)] 129)).alloc (tA #[Z U op,Z U d,Z U a,Z U G,Z U g,Z U J,tm K,tn t args.length gc,tn u y z,Z U R,Z U tD,Z U ln,Z U cl] 42));rw[uv] at ud;have xr:=EX uv;have xt:cg (aN T Bb MB lv P N F at_ B tg w0 TT RB c b hi D #[tr (tf ⟨T,0,th⟩),Z U f,tn A n1 c1,tn E n2 c2,tr (tf ⟨TT,0,th⟩)] #[Z U op,Z U d,Z U a,Z U G,Z U g,Z U J,tm K,tn t args.length gc,tn u y z,Z U R,Z U tD,Z U ln,Z U cl] W1 C Y W1):=aN.start ud;have ub:cg (∀C2 Y2 w2,aN T Bb MB lv P N F at_ B tg w0 TT RB c b hi D #[tr (tf ⟨T,0,th⟩),Z U f,tn A n1 c1,tn E n2 c2,tr (tf ⟨TT,0,th⟩)] #[Z U op,Z U d,Z U a,Z U G,Z U g,Z U J,tm K,tn t args.length gc,tn u y z,Z U R,Z U tD,Z U ln,Z U cl] W1 C2 Y2 w2->jV D T TT f op d a G g J K t u args.length gc y z R tD ln cl A E n1 n2 c1 c2 w2/\w2.cell? ⟨T,2,th⟩=tf (.map (tf MB))/\T<w2.heap.size):=λC2 Y2 w2 h2=>by
  obtain⟨r0,r1,r2,r3⟩:=h2.rows;exact⟨sU r0 r1,r2,r3⟩
 have zv:=zH uv;have xF:=zH xr;clear uv xr h ud;obtain⟨r,hr⟩:=zE (F (g,-1));obtain⟨x,hx⟩:=zE (F (f,d));have xT:=hF (g,-1);have ux:=hF (f,d);rw[hr] at xT;rw[hx] at ux;obtain⟨A2,A3⟩:=xT;obtain⟨A4,A5⟩:=ux;have An:cg (∀C2 Y2 w2,aN T Bb MB lv P N F at_ B tg w0 TT RB c b hi D #[tr (tf ⟨T,0,th⟩),Z U f,tn A n1 c1,tn E n2 c2,tr (tf ⟨TT,0,th⟩)] #[Z U op,Z U d,Z U a,Z U G,Z U g,Z U J,tm K,tn t args.length gc,tn u y z,Z U R,Z U tD,Z U ln,Z U cl] W1 C2 Y2 w2->zP 107 #[tv #[tr (tf ⟨T,0,th⟩),Z U f,tn A n1 c1,tn E n2 c2,tr (tf ⟨TT,0,th⟩)],Z U d] w2 (Z U x)):=λC2 Y2 w2 h2=>by rw[<-hx];exact h2.o f d hf xo A E n1 n2 c1 c2 _
 have At:cg (∀C2 Y2 w2,aN T Bb MB lv P N F at_ B tg w0 TT RB c b hi D #[tr (tf ⟨T,0,th⟩),Z U f,tn A n1 c1,tn E n2 c2,tr (tf ⟨TT,0,th⟩)] #[Z U op,Z U d,Z U a,Z U G,Z U g,Z U J,tm K,tn t args.length gc,tn u y z,Z U R,Z U tD,Z U ln,Z U cl] W1 C2 Y2 w2->(mx 118 (.map (tf MB)) (tv #[Z U g,Z U (-1)]) tj).run am w2= .ok (Z U r) w2):=λC2 Y2 w2 h2=>by rw[<-hr];exact h2.look vq (by unfold bu;omega)
 obtain⟨AG,ue⟩:=zE ((jf F (λv=>F (f,v)) (aX b k) (⟨op,d,a,G,g,J,K,tn t args.length gc,tn u y z,R,tD,ln,cl,args⟩:Ins) 0):bp aw->bp (bp aw));have ya:cg (jW F f (aX b k) (⟨op,d,a,G,g,J,K,tn t args.length gc,tn u y z,R,tD,ln,cl,args⟩:Ins)=AG args++(if 0<x then[[-x,r],[x,-r],[-(x+1),r+1],[x+1,-(r+1)]] else[])):=by unfold cg jW;simp only[hr,hx];rw[<-ue]
 have yb:cg (∀l:bp aw,(AG l).length<=3*l.length):=λl=>by rw[<-ue];exact o9 l 0
 have Ax:cg (AG []=[]):=by unfold cg;rw[<-ue];rfl
 have AD:cg (∀(j:bj)(v:aw)(wr:World),args[j]?=tf v->aN T Bb MB lv P N F at_ B tg w0 TT RB c b hi D #[tr (tf ⟨T,0,th⟩),Z U f,tn A n1 c1,tn E n2 c2,tr (tf ⟨TT,0,th⟩)] #[Z U op,Z U d,Z U a,Z U G,Z U g,Z U J,tm K,tn t args.length gc,tn u y z,Z U R,Z U tD,Z U ln,Z U cl] W1 (C++AG (args.take j)) (Y++(AG (args.take j)).map λ_=>at_) wr->fj am 149 #[tv #[tr (tf ⟨T,0,th⟩),Z U f,tn A n1 c1,tn E n2 c2,tr (tf ⟨TT,0,th⟩)],tv #[Z U op,Z U d,Z U a,Z U G,Z U g,Z U J,tm K,tn t args.length gc,tn u y z,Z U R,Z U tD,Z U ln,Z U cl],Z U (j:aw),Z U (k:aw)] wr λe w'=>e= tB (.tuple #[])/\aN T Bb MB lv P N F at_ B tg w0 TT RB c b hi D #[tr (tf ⟨T,0,th⟩),Z U f,tn A n1 c1,tn E n2 c2,tr (tf ⟨TT,0,th⟩)] #[Z U op,Z U d,Z U a,Z U G,Z U g,Z U J,tm K,tn t args.length gc,tn u y z,Z U R,Z U tD,Z U ln,Z U cl] W1 (C++AG (args.take (j+1))) (Y++(AG (args.take (j+1))).map λ_=>at_) w'):=λj v wr hj hm=>by
  obtain⟨A6,s',hg,l1,l2,l3⟩:=hm;have AE:(args.take j).length=j:=by rw[ee];have:=(bo.1 hj).1;omega
  have vr:=(bo.1 hj).1;have Bk:=yb.out (args.take j);have:=Dt wr hg.as_ hN hF f hf A E n1 n2 c1 c2 (⟨op,d,a,G,g,J,K,tn t args.length gc,tn u y z,R,tD,ln,cl,args⟩:Ins) t gc rfl ⟨u,y,z,rfl⟩ vp xl vq j v hj k hk (hv v (ci hj)) zr zs (by rw[bm];omega) (by rw[bm,eq];omega) (λq hq=>ur q (by
   unfold jW;exact dg.2 (.inl (vV args 0 j hj (by rw[cI];exact hq)))))
  simp only[Ins.cells] at this;refine this.mono ?_;rintro e w2 ⟨rfl,AF⟩;refine⟨rfl, ?_⟩;have hs:AG (args.take (j+1))=AG (args.take j)++l9 (λv=>F (f,v)) (F (g,(j:aw))) (eG (aX b k) d args j v) v:=by
   rw[aS hj,<-ue,sV,cI,AE]
  rw[hs,et,<-ei,<-ei];exact aN.of hg l1 l2 l3 AF
 have vc:=zH ur;have w1:dt.wrap (-r)= -r:=by simp[eC,eE,ef];omega
 have w2:dt.wrap (-x)= -x:=by simp[eC,eE,ef];omega
 have w3:dt.wrap (r+1)=r+1:=by simp[eC,eE,ef];omega
 have w4:dt.wrap (-(r+1))= -(r+1):=by simp[eC,eE,ef];omega
 have w5:dt.wrap (x+1)=x+1:=by simp[eC,eE,ef];omega
 have w6:dt.wrap (-(x+1))= -(x+1):=by simp[eC,eE,ef];omega
 clear ur hr hx ue vp hv hk;have AH:cg (aN T Bb MB lv P N F at_ B tg w0 TT RB c b hi D #[tr (tf ⟨T,0,th⟩),Z U f,tn A n1 c1,tn E n2 c2,tr (tf ⟨TT,0,th⟩)] #[Z U op,Z U d,Z U a,Z U G,Z U g,Z U J,tm K,tn t args.length gc,tn u y z,Z U R,Z U tD,Z U ln,Z U cl] W1 (C++AG (args.take 0)) (Y++(AG (args.take 0)).map λ_=>at_) W1):=by
  unfold cg;rw[oS,Ax.out,oT,eA,eA];exact xt.out
 obtain⟨⟨x0,x1,x2,x3,x4⟩,⟨z0,z1,z2,z3,z4,z5,z6,z7,z8,z9,tM,tP,tR⟩,y2⟩:=(ub.out _ _ _ xt.out).1;go_enter func109,ntmps109
 go_upto_region 1 with(fail)
 rw[zv.out]
 go_upto_region 2 with(fail)
 clear x0 x1 x2 x3 x4 z0 z1 z2 z3 z4 z5 z6 z7 z8 z9 tM tP tR y2
 go_loopw [12] (λkk wr=>∃j:bj,j<=args.length/\kk= Z U (j:aw)/\aN T Bb MB lv P N F at_ B tg w0 TT RB c b hi D #[tr (tf ⟨T,0,th⟩),Z U f,tn A n1 c1,tn E n2 c2,tr (tf ⟨TT,0,th⟩)] #[Z U op,Z U d,Z U a,Z U G,Z U g,Z U J,tm K,tn t args.length gc,tn u y z,Z U R,Z U tD,Z U ln,Z U cl] W1 (C++AG (args.take j)) (Y++(AG (args.take j)).map λ_=>at_) wr) (λkk _=>args.length-(dp kk).toNat)
 case atStart=>exact⟨0,cM _,rfl,AH.out⟩
 case round=>
  obtain⟨j,hj,rfl,hm⟩:=hrel;obtain⟨⟨x0,x1,x2,x3,x4⟩,⟨z0,z1,z2,z3,z4,z5,z6,z7,z8,z9,tM,tP,tR⟩,y2⟩:=(ub.out _ _ _ hm).1;have HM:=zH hm
  by_cases vr:j<args.length
  ·obtain⟨v,hv⟩:∃v,args[j]?=tf v:=⟨_,ap vr⟩
   have Bm:(j:aw)<(args.length:aw):=by omega
   have AI:=zH (AD.out j v wr hv hm);clear hm hv
   go_wp2_with (go_at_call 149;refine AI.out.mono ?_;rintro e Bs ⟨rfl,yd⟩;have vd:=zH yd;clear yd)
   go_roundw
   case rel=>exact⟨j+1,vr,by go_num,vd.out⟩
   case measure=>simp[dp];omega
  ·have ye:j=args.length:=by omega
   have yi:aN T Bb MB lv P N F at_ B tg w0 TT RB c b hi D #[tr (tf ⟨T,0,th⟩),Z U f,tn A n1 c1,tn E n2 c2,tr (tf ⟨TT,0,th⟩)] #[Z U op,Z U d,Z U a,Z U G,Z U g,Z U J,tm K,tn t args.length gc,tn u y z,Z U R,Z U tD,Z U ln,Z U cl] W1 (C++AG args) (Y++(AG args).map λ_=>at_) wr:=by rw[ye,cL] at hm;exact hm
   have up:=zH yi;have ua:cg ((AG args).length<=120):=by have:=yb.out args;unfold cg;omega
   clear hm HM ye yi;obtain⟨wo,yk⟩:=zE wr;rw[yk] at up x0 x1 x2 x3 x4 z0 z1 z2 z3 z4 z5 z6 z7 z8 z9 tM tP tR y2⊢;clear yk wr
   go_upto_region 6 with(fail)
   obtain⟨S1,vf⟩:=zE ((λw'=>aE wo.heap.size wo w'):World->Prop);have AK:S1 wo.drew:=by rw[<-vf];exact(aq _ _).drew
   have yp:cg (∀W,aE wo.heap.size wo W->S1 W):=λW hW=>by rw[<-vf];exact hW
   have vt:cg (∀W,S1 W->aE wo.heap.size wo W):=λW hW=>by rw[<-vf] at hW;exact hW
   have tG:cg (∀w,S1 w->(jV D T TT f op d a G g J K t u args.length gc y z R tD ln cl A E n1 n2 c1 c2 w/\w.cell? ⟨T,2,th⟩=tf (.map (tf MB))/\T<w.heap.size)/\(mx 118 (.map (tf MB)) (tv #[Z U g,Z U (-1)]) tj).run am w= .ok (Z U r) w):=λw hw=>⟨ub.out _ _ _ (up.out.grow (vt.out w hw)),At.out _ _ _ (up.out.grow (vt.out w hw))⟩
   clear vf x0 x1 x2 x3 x4 z0 z1 z2 z3 z4 z5 z6 z7 z8 z9 tM tP tR y2;refine aj 14 S1 (by kernel_rfl) ?_;refine zT 0 rfl tG.out ?_;(try go_simp);refine zT 1 rfl tG.out ?_;(try go_simp);refine zT 2 rfl tG.out ?_;(try go_simp);refine zT 4 rfl tG.out ?_;(try go_simp);refine zT 5 rfl tG.out ?_;(try go_simp);refine zT 6 rfl tG.out ?_;(try go_simp);refine zT 7 rfl tG.out ?_;(try go_simp);refine zT 8 rfl tG.out ?_;(try go_simp);refine zT 9 rfl tG.out ?_;(try go_simp);refine zT 10 rfl tG.out ?_;(try go_simp);refine zT 11 rfl tG.out ?_;(try go_simp);refine zT 12 rfl tG.out ?_;(try go_simp);refine zO 3 rfl λK' hK=> ?_;go_simp;go_at_call 107;refine(An.out _ _ _ (up.out.grow (aq _ _).drew)).mono ?_;rintro e vh ⟨rfl,yq⟩;have vu:aE wo.heap.size wo vh:=(aq _ _).drew.trans yq;have yr:S1 vh:=yp.out _ vu;refine hK _ _ yr ?_;clear hK;(try go_simp);refine zT 13 rfl tG.out ?_;(try go_simp);refine zK rfl λK' hK=> ?_;go_simp;refine hK _ _ ?_;clear hK;refine⟨by kernel_rfl, ?_⟩;have yv:=up.out.grow vu;have vx:=zH yv;clear yr AK tG vt yp yq vu yv
   by_cases vm:0<x
   ·have ux:decide (0<x)=ti:=cR vm
    have uc:cg (jW F f (aX b k) (⟨op,d,a,G,g,J,K,tn t args.length gc,tn u y z,R,tD,ln,cl,args⟩:Ins)=AG args++[[-x,r],[x,-r],[-(x+1),r+1],[x+1,-(r+1)]]):=by unfold cg;rw[ya.out,cH vm]
    have AM:cg ([-x,r].all (bH N)=ti):=vc.out _ (by rw[uc.out];simp);have AN:cg ([x,-r].all (bH N)=ti):=vc.out _ (by rw[uc.out];simp);have AS:cg ([-(x+1),r+1].all (bH N)=ti):=vc.out _ (by rw[uc.out];simp);have AT:cg ([x+1,-(r+1)].all (bH N)=ti):=vc.out _ (by rw[uc.out];simp);obtain⟨⟨x0,x1,x2,x3,x4⟩,⟨z0,z1,z2,z3,z4,z5,z6,z7,z8,z9,tM,tP,tR⟩,y2⟩:=(ub.out _ _ _ vx.out).1;obtain⟨G0,vy⟩:=zE vh.heap.size;obtain⟨V0,we⟩:=zE (vh.alloc (tA #[Z U (-x),Z U (r)] 3));have tE:=aN.put2 vx.out hN (-x) (r) AM.out (by have:=ua.out;(try simp only[bm,cj,eq]);omega) (by have:=ua.out;(try simp only[bm,cj,eq]);omega);rw[vy,we] at tE;have tS:=zH tE;have HV:=zH we;have tU:=zH vy;clear tE we vy
    go_upto_region 9 with(go_at_call 56;(try rw[tU.out]);(try simp only[w1,w2,w3,w4,w5,w6]);(try rw[HV.out]);refine tS.out.mono ?_;rintro e yy ⟨rfl,tW⟩;have yW:=zH tW;clear tW)
    clear x0 x1 x2 x3 x4 z0 z1 z2 z3 z4 z5 z6 z7 z8 z9 tM tP tR y2 tS HV tU;obtain⟨⟨x0,x1,x2,x3,x4⟩,⟨z0,z1,z2,z3,z4,z5,z6,z7,z8,z9,tM,tP,tR⟩,y2⟩:=(ub.out _ _ _ yW.out).1;obtain⟨G1,wg⟩:=zE yy.heap.size;obtain⟨V1,wj⟩:=zE (yy.alloc (tA #[Z U (x),Z U (-r)] 3));have tE:=aN.put2 yW.out hN (x) (-r) AN.out (by have:=ua.out;(try simp only[bm,cj,eq]);omega) (by have:=ua.out;(try simp only[bm,cj,eq]);omega);rw[wg,wj] at tE;have tS:=zH tE;have HV:=zH wj;have tU:=zH wg;clear tE wj wg
    go_upto_region 10 with(go_at_call 56;(try rw[tU.out]);(try simp only[w1,w2,w3,w4,w5,w6]);(try rw[HV.out]);refine tS.out.mono ?_;rintro e zc ⟨rfl,tW⟩;have zd:=zH tW;clear tW)
    clear x0 x1 x2 x3 x4 z0 z1 z2 z3 z4 z5 z6 z7 z8 z9 tM tP tR y2 tS HV tU;obtain⟨⟨x0,x1,x2,x3,x4⟩,⟨z0,z1,z2,z3,z4,z5,z6,z7,z8,z9,tM,tP,tR⟩,y2⟩:=(ub.out _ _ _ zd.out).1;obtain⟨G2,wk⟩:=zE zc.heap.size;obtain⟨V2,wl⟩:=zE (zc.alloc (tA #[Z U (-(x+1)),Z U (r+1)] 3));have tE:=aN.put2 zd.out hN (-(x+1)) (r+1) AS.out (by have:=ua.out;(try simp only[bm,cj,eq]);omega) (by have:=ua.out;(try simp only[bm,cj,eq]);omega);rw[wk,wl] at tE;have tS:=zH tE;have HV:=zH wl;have tU:=zH wk;clear tE wl wk
    go_upto_region 11 with(go_at_call 56;(try rw[tU.out]);(try simp only[w1,w2,w3,w4,w5,w6]);(try rw[HV.out]);refine tS.out.mono ?_;rintro e zj ⟨rfl,tW⟩;have vd:=zH tW;clear tW)
    clear x0 x1 x2 x3 x4 z0 z1 z2 z3 z4 z5 z6 z7 z8 z9 tM tP tR y2 tS HV tU;obtain⟨⟨x0,x1,x2,x3,x4⟩,⟨z0,z1,z2,z3,z4,z5,z6,z7,z8,z9,tM,tP,tR⟩,y2⟩:=(ub.out _ _ _ vd.out).1;obtain⟨G3,ws⟩:=zE zj.heap.size;obtain⟨V3,xf⟩:=zE (zj.alloc (tA #[Z U (x+1),Z U (-(r+1))] 3));have tE:=aN.put2 vd.out hN (x+1) (-(r+1)) AT.out (by have:=ua.out;(try simp only[bm,cj,eq]);omega) (by have:=ua.out;(try simp only[bm,cj,eq]);omega);rw[ws,xf] at tE;have tS:=zH tE;have HV:=zH xf;have tU:=zH ws;clear tE xf ws
    go_wp2_with (go_at_call 56;(try rw[tU.out]);(try simp only[w1,w2,w3,w4,w5,w6]);(try rw[HV.out]);refine tS.out.mono ?_;rintro e By ⟨rfl,tW⟩;have AW:=zH tW;clear tW)
    clear x0 x1 x2 x3 x4 z0 z1 z2 z3 z4 z5 z6 z7 z8 z9 tM tP tR y2 tS HV tU
    go_end0
    refine⟨rfl, ?_⟩;have:=AW.out.wn;rw[uc.out];refine aV.below xF.out ?_;simpa using this
   ·have ux:decide (0<x)=tj:=cm vm
    have uc:cg (jW F f (aX b k) (⟨op,d,a,G,g,J,K,tn t args.length gc,tn u y z,R,tD,ln,cl,args⟩:Ins)=AG args):=by unfold cg;rw[ya.out,bw vm,eA]
    go_wp2
    go_end0
    refine⟨rfl, ?_⟩;have:=vx.out.wn;rw[uc.out];exact aV.below xF.out this
end
def aA (F:aw×aw->aw)(f:aw)(beh:aw->ml)(i:Ins):bp (bp aw):=
 if i.op=12 then[[F (f,i.d)]]
 else if i.op=13 then[[F (f,i.a)]]
 else if i.op=9 then[[-(F (f,i.d)),F (f,i.a)]]++(if i.a≠i.d/\beh i.a=ti then[[-(F (f,i.d))]] else[])++[[-(F (f,i.d)+1),F (f,i.a),F (f,i.a)+1]]
 else if i.op=10 then[[-(F (f,i.d)),F (f,i.a),F (f,i.a)+1],[-(F (f,i.d)+1),F (f,i.a),F (f,i.a)+1]]
 else if i.op=8 then[[F (f,i.a),F (f,i.a)+1]]
 else if i.op=11 then[[F (f,i.b)],[F (f,i.a),F (f,i.a)+1]]++(if beh i.b=ti then[[-(F (f,i.b))]] else[])
 else if i.op=15 then jW F f beh i
 else if i.op=18 then qN (λv=>F (f,v)) i.a
 else[]
theorem BK {P:bp (aw×aw)}{f:aw}{beh:aw->ml}{i:Ins}:aA (aJ 0 P) f beh i=gJ P f beh i:=by
 unfold aA gJ jW qN;simp only[o8]
section
variable {T Bb MB:bj}{lv:cC fg×bj}{P:bp (aw×aw)}{N:aw}{F:aw×aw->aw}{C C2:bp (bp aw)}{Y Y2:bp (aw×aw)}{at_ at2:aw×aw}{B:bj}{tg:bj->bj}{s:nz}{w0:World}{TT RB hi:bj}{c:dP}{b:bj->bj->bj}
theorem aN.change1 {D:bj}{ac ic:dl cw}{W1 w:World}(h:aN T Bb MB lv P N F at_ B tg w0 TT RB c b hi D ac ic W1 C Y w)(o:0<=N/\N<=9000000)(hF:∀x,0<=F x/\F x<=9000000)(f v:aw)(hf:bu f)(q:bu v)(d g:cC fg)(n1 n2 c1 c2:bj)(x:aw)(t:[x,F (f,v),F (f,v)+1].all (bH N)=ti)(u:C.length+1<=1000000)(y:Y.length+1<=1000000):
  fj am 106 #[tv #[tr (tf ⟨T,0,th⟩),Z U f,tn d n1 c1,tn g n2 c2,tr (tf ⟨TT,0,th⟩)],Z U v,tn (tf ⟨w.heap.size,0,th⟩) 1 1] (w.alloc (tA #[Z U x] 3)) λe w'=>e= tB (.tuple #[])/\aN T Bb MB lv P N F at_ B tg w0 TT RB c b hi D ac ic W1 (C++[[x,F (f,v),F (f,v)+1]]) (Y++[at_]) w':=by
 have hb:aE w.heap.size w (w.alloc (tA #[Z U x] 3)):=(aq _ _).alloc (cd _) _;obtain⟨J,K,j,z,A,E⟩:=h;refine(kF _ (j.grow hb).as_.wn o f v hf q (hF _) d g n1 n2 c1 c2 (tf ⟨TT,0,th⟩) (tf ⟨w.heap.size,0,th⟩) [x] 1 (ak.lit1 _ x (alloc_at _ _)) (λh=>by cases h) (by simp) t (by simp) u y).mono ?_;rintro e w2 ⟨rfl,G⟩;exact⟨rfl,aN.then_ j z A E hb G⟩
theorem aN.change0 {D:bj}{ac ic:dl cw}{W1 w:World}(h:aN T Bb MB lv P N F at_ B tg w0 TT RB c b hi D ac ic W1 C Y w)(o:0<=N/\N<=9000000)(hF:∀x,0<=F x/\F x<=9000000)(f v:aw)(hf:bu f)(q:bu v)(d g:cC fg)(n1 n2 c1 c2:bj)(t:[F (f,v),F (f,v)+1].all (bH N)=ti)(u:C.length+1<=1000000)(y:Y.length+1<=1000000):
  fj am 106 #[tv #[tr (tf ⟨T,0,th⟩),Z U f,tn d n1 c1,tn g n2 c2,tr (tf ⟨TT,0,th⟩)],Z U v,tn th 0 0] w λe w'=>e= tB (.tuple #[])/\aN T Bb MB lv P N F at_ B tg w0 TT RB c b hi D ac ic W1 (C++[[F (f,v),F (f,v)+1]]) (Y++[at_]) w':=by
 obtain⟨J,K,j,z,A,E⟩:=h;refine(kF _ j.as_.wn o f v hf q (hF _) d g n1 n2 c1 c2 (tf ⟨TT,0,th⟩) th [] 0 (λh=>fz rfl h) (λ_=>rfl) (by simp) t (by simp) u y).mono ?_;rintro e w2 ⟨rfl,G⟩;exact⟨rfl,aN.of j z A E G⟩
theorem iL {w:World}(h:As T Bb MB lv P N F C Y at_ B tg s w0 TT RB c b hi w)(f:aw)(hf:bu f)(e g:cC fg)(n1 n2 c1 c2:bj)(op d a j q t:aw)(u:bl)(x:cC fg)(y gc:bj)(z:cC fg)(A E:bj)(G J K R:aw):∃D W1,w.heap.size=D/\
  cg ((w.alloc (tA #[tr (tf ⟨T,0,th⟩),Z U f,tn e n1 c1,tn g n2 c2,tr (tf ⟨TT,0,th⟩)] 129)).alloc (tA #[Z U op,Z U d,Z U a,Z U j,Z U q,Z U t,tm u,tn x y gc,tn z A E,Z U G,Z U J,Z U K,Z U R] 42)=W1)/\cg (aE w.heap.size w W1)/\cg (aN T Bb MB lv P N F at_ B tg w0 TT RB c b hi D #[tr (tf ⟨T,0,th⟩),Z U f,tn e n1 c1,tn g n2 c2,tr (tf ⟨TT,0,th⟩)] #[Z U op,Z U d,Z U a,Z U j,Z U q,Z U t,tm u,tn x y gc,tn z A E,Z U G,Z U J,Z U K,Z U R] W1 C Y W1)/\
  cg (∀C2 Y2 w2,aN T Bb MB lv P N F at_ B tg w0 TT RB c b hi D #[tr (tf ⟨T,0,th⟩),Z U f,tn e n1 c1,tn g n2 c2,tr (tf ⟨TT,0,th⟩)] #[Z U op,Z U d,Z U a,Z U j,Z U q,Z U t,tm u,tn x y gc,tn z A E,Z U G,Z U J,Z U K,Z U R] W1 C2 Y2 w2->jV D T TT f op d a j q t u x z y gc A E G J K R e g n1 n2 c1 c2 w2/\w2.cell? ⟨T,2,th⟩=tf (.map (tf MB))/\T<w2.heap.size)/\
  cg (∀C2 Y2 w2 v,bu v->aN T Bb MB lv P N F at_ B tg w0 TT RB c b hi D #[tr (tf ⟨T,0,th⟩),Z U f,tn e n1 c1,tn g n2 c2,tr (tf ⟨TT,0,th⟩)] #[Z U op,Z U d,Z U a,Z U j,Z U q,Z U t,tm u,tn x y gc,tn z A E,Z U G,Z U J,Z U K,Z U R] W1 C2 Y2 w2->zP 107 #[tv #[tr (tf ⟨T,0,th⟩),Z U f,tn e n1 c1,tn g n2 c2,tr (tf ⟨TT,0,th⟩)],Z U v] w2 (Z U (F (f,v)))):=by
 obtain⟨D,hD⟩:=zE w.heap.size;have W:=Ag.box h #[tr (tf ⟨T,0,th⟩),Z U f,tn e n1 c1,tn g n2 c2,tr (tf ⟨TT,0,th⟩)] #[Z U op,Z U d,Z U a,Z U j,Z U q,Z U t,tm u,tn x y gc,tn z A E,Z U G,Z U J,Z U K,Z U R];rw[hD] at W;obtain⟨W1,tD⟩:=zE ((w.alloc (tA #[tr (tf ⟨T,0,th⟩),Z U f,tn e n1 c1,tn g n2 c2,tr (tf ⟨TT,0,th⟩)] 129)).alloc (tA #[Z U op,Z U d,Z U a,Z U j,Z U q,Z U t,tm u,tn x y gc,tn z A E,Z U G,Z U J,Z U K,Z U R] 42));rw[tD] at W;refine⟨D,W1,hD,tD,EX tD,aN.start W,λC2 Y2 w2 h2=> ?_,λC2 Y2 w2 v hv h2=>h2.o f v hf hv e g n1 n2 c1 c2 _⟩;obtain⟨r0,r1,r2,r3⟩:=h2.rows;exact⟨sU r0 r1,r2,r3⟩
theorem oG (hF:∀x,0<=F x/\F x<=9000000)(p q r:aw×aw):∃d e f,(0<=d/\d<=9000000)/\(0<=e/\e<=9000000)/\(0<=f/\f<=9000000)/\F p=d/\F q=e/\F r=f/\dt.wrap (-d)= -d/\dt.wrap (-e)= -e/\dt.wrap (d+1)=d+1/\
  dt.wrap (-(d+1))= -(d+1)/\dt.wrap (e+1)=e+1/\dt.wrap (-f)= -f/\dt.wrap (f+1)=f+1:=by
 have g:=hF p;have h:=hF q;have j:=hF r;refine⟨F p,F q,F r,g,h,j,rfl,rfl,rfl, ?_, ?_, ?_, ?_, ?_, ?_, ?_⟩<;>(simp[eC,eE,ef];omega)
theorem uQ (w:World)(h:As T Bb MB lv P N F C Y at_ B tg s w0 TT RB c b hi w)(hN:0<=N/\N<=9000000)(hF:∀x,0<=F x/\F x<=9000000)(f:aw)(hf:bu f)(a1 a2:cC fg)(n1 n2 c1 c2:bj)(i:Ins)(ga:cC fg)(gc:bj)(uc:i.argsV= tn ga i.args.length gc)(vx:∃ao n cap,i.modeV= tn ao n cap)(ud:bu i.d)(vy:bu i.a)(we:bu i.b)(k:bj)(hk:k<c.ins.length)(xf:c.ins.length<=90000)(xj:c.nvars<=90000)(hl:C.length+130<=1000000)(xl:Y.length+130<=1000000)(ue:i.op=12)(up:∀x∈aA F f (aX b k) i,x.all (bH N)=ti):
  fj am 58 #[tv #[tr (tf ⟨T,0,th⟩),Z U f,tn a1 n1 c1,tn a2 n2 c2,tr (tf ⟨TT,0,th⟩)],tv i.cells,Z U (k:aw)] w λe w'=>e= tB (.tuple #[])/\aV T Bb MB lv P N F (C++aA F f (aX b k) i) (Y++(aA F f (aX b k) i).map λ_=>at_) at_ B tg w w':=by
 obtain⟨mo,mn,mc,ur⟩:=vx;obtain⟨op,d,a,bb,ff,nn,uv,argsV,modeV,ux,vc,ln,cl,args⟩:=i;simp only at uc ur ud vy we ue up⊢;subst ue;subst uc ur;simp only[Ins.cells];obtain⟨D,W1,hD,wg,wj,vd,tM,HO⟩:=iL h f hf a1 a2 n1 n2 c1 c2 12 d a bb ff nn uv ga args.length gc mo mn mc ux vc ln cl;clear h;obtain⟨g,xa,xb,xo,xp,xr,tP,tR,tS,w1,w2,w3,w4,w5,w6,w7⟩:=oG hF (f,d) (f,a) (f,bb);have wk:=zH tP;have xt:=zH tR;have xF:=zH tS;have vf:cg (aA F f (aX b k) (⟨12,d,a,bb,ff,nn,uv,tn ga args.length gc,tn mo mn mc,ux,vc,ln,cl,args⟩:Ins)=[[g]]):=by unfold cg aA;simp only[lk,tP,tR,tS]
 have wl:cg (([g]:bp aw).all (bH N)=ti):=up _ (by rw[vf.out];simp);clear tP tR tS;go_enter ke,jn
 go_upto_region 1 with(fail)
 rw[wg.out];obtain⟨⟨j,o,q,t,u⟩,⟨v,y,z,A,E,G,J,K,R,W,tD,tE,tG⟩,y2⟩:=(tM.out _ _ _ vd.out).1
 go_region
 clear j o q t u v y z A E G J K R W tD tE tG y2;have tU:=zH (vd.out.grow (aq _ _).drew);obtain⟨⟨j,o,q,t,u⟩,⟨v,y,z,A,E,G,J,K,R,W,tD,tE,tG⟩,y2⟩:=(tM.out _ _ _ tU.out).1;have vh:=zH (HO.out _ _ _ (d) ud tU.out);rw[show F (f,d)=g from wk.out] at vh
 go_upto_region 3 with(go_at_call 107;refine vh.out.mono ?_;rintro e vm ⟨rfl,vp⟩;have vq:=zH (tU.out.grow vp);clear vp)
 clear j o q t u v y z A E G J K R W tD tE tG y2;obtain⟨⟨j,o,q,t,u⟩,⟨v,y,z,A,E,G,J,K,R,W,tD,tE,tG⟩,y2⟩:=(tM.out _ _ _ vq.out).1;obtain⟨G2,tW⟩:=zE vm.heap.size;obtain⟨V2,ua⟩:=zE (vm.alloc (tA #[Z U (g)] 3));have ub:=aN.put1 vq.out hN (g) wl.out (by(try simp only[bm,cj]);omega) (by(try simp only[bm,cj]);omega);rw[tW,ua] at ub;have vr:=zH ub;have HV:=zH ua;have vt:=zH tW;clear ub ua tW
 go_wp2_with (go_at_call 56;(try rw[vt.out]);(try simp only[w1,w2,w3,w4,w5,w6,w7]);(try rw[HV.out]);refine vr.out.mono ?_;rintro e xT ⟨rfl,vu⟩;have ws:=zH vu;clear vu)
 clear j o q t u v y z A E G J K R W tD tE tG y2 vr HV vt
 go_end0
 refine⟨rfl, ?_⟩;have:=ws.out.wn;rw[vf.out];refine aV.below wj.out ?_;simpa using this
theorem uR (w:World)(h:As T Bb MB lv P N F C Y at_ B tg s w0 TT RB c b hi w)(hN:0<=N/\N<=9000000)(hF:∀x,0<=F x/\F x<=9000000)(f:aw)(hf:bu f)(a1 a2:cC fg)(n1 n2 c1 c2:bj)(i:Ins)(ga:cC fg)(gc:bj)(ub:i.argsV= tn ga i.args.length gc)(vu:∃ao n cap,i.modeV= tn ao n cap)(uc:bu i.d)(ud:bu i.a)(vx:bu i.b)(k:bj)(hk:k<c.ins.length)(ws:c.ins.length<=90000)(xf:c.nvars<=90000)(hl:C.length+130<=1000000)(xj:Y.length+130<=1000000)(ue:i.op=13)(up:∀x∈aA F f (aX b k) i,x.all (bH N)=ti):
  fj am 58 #[tv #[tr (tf ⟨T,0,th⟩),Z U f,tn a1 n1 c1,tn a2 n2 c2,tr (tf ⟨TT,0,th⟩)],tv i.cells,Z U (k:aw)] w λe w'=>e= tB (.tuple #[])/\aV T Bb MB lv P N F (C++aA F f (aX b k) i) (Y++(aA F f (aX b k) i).map λ_=>at_) at_ B tg w w':=by
 obtain⟨mo,mn,mc,ur⟩:=vu;obtain⟨op,d,a,bb,ff,nn,uv,argsV,modeV,ux,vc,ln,cl,args⟩:=i;simp only at ub ur uc ud vx ue up⊢;subst ue;subst ub ur;simp only[Ins.cells];obtain⟨D,W1,hD,vy,we,vd,tP,HO⟩:=iL h f hf a1 a2 n1 n2 c1 c2 13 d a bb ff nn uv ga args.length gc mo mn mc ux vc ln cl;clear h;obtain⟨xd,g,xb,xl,xo,xp,tR,tS,tU,w1,w2,w3,w4,w5,w6,w7⟩:=oG hF (f,d) (f,a) (f,bb);have wg:=zH tR;have wj:=zH tS;have xr:=zH tU;have vf:cg (aA F f (aX b k) (⟨13,d,a,bb,ff,nn,uv,tn ga args.length gc,tn mo mn mc,ux,vc,ln,cl,args⟩:Ins)=[[g]]):=by unfold cg aA;simp only[bw (by decide:¬((13:aw)=12)),lk,tR,tS,tU]
 have wk:cg (([g]:bp aw).all (bH N)=ti):=up _ (by rw[vf.out];simp);clear tR tS tU;go_enter ke,jn
 go_upto_region 1 with(fail)
 rw[vy.out];obtain⟨⟨j,o,q,t,u⟩,⟨v,y,z,A,E,G,J,K,R,W,tD,tE,tG⟩,y2⟩:=(tP.out _ _ _ vd.out).1
 go_region
 clear j o q t u v y z A E G J K R W tD tE tG y2;have tW:=zH (vd.out.grow (aq _ _).drew);obtain⟨⟨j,o,q,t,u⟩,⟨v,y,z,A,E,G,J,K,R,W,tD,tE,tG⟩,y2⟩:=(tP.out _ _ _ tW.out).1;have vh:=zH (HO.out _ _ _ (d) uc tW.out);rw[show F (f,d)=xd from wg.out] at vh
 go_upto_region 3 with(go_at_call 107;refine vh.out.mono ?_;rintro e vm ⟨rfl,tM⟩;have ua:=zH (tW.out.grow tM);clear tM)
 clear j o q t u v y z A E G J K R W tD tE tG y2;obtain⟨⟨j,o,q,t,u⟩,⟨v,y,z,A,E,G,J,K,R,W,tD,tE,tG⟩,y2⟩:=(tP.out _ _ _ ua.out).1;have vp:=zH (HO.out _ _ _ (a) ud ua.out);rw[show F (f,a)=g from wj.out] at vp;have vq:cg (∀wx,aE vm.heap.size vm wx->fj am 56 #[tr (tf ⟨T,0,th⟩),tn (tf ⟨wx.heap.size,0,th⟩) 1 1] (wx.alloc (tA #[Z U (g)] 3)) _):=λwx hx=>aN.put1 (ua.out.grow hx) hN (g) wk.out (by(try simp only[bm,cj]);omega) (by(try simp only[bm,cj]);omega)
 go_wp2_with (first|(go_at_call 107;refine vp.out.mono ?_;rintro e xt ⟨rfl,tM⟩;have vr:=zH (vq.out _ tM);clear tM)|(go_at_call 56;(try simp only[w1,w2,w3,w4,w5,w6,w7]);refine vr.out.mono ?_;rintro e xF ⟨rfl,vt⟩;have wl:=zH vt;clear vt vr))
 clear j o q t u v y z A E G J K R W tD tE tG y2 vq
 go_end0
 refine⟨rfl, ?_⟩;have:=wl.out.wn;rw[vf.out];refine aV.below we.out ?_;simpa using this
theorem uS (w:World)(h:As T Bb MB lv P N F C Y at_ B tg s w0 TT RB c b hi w)(hN:0<=N/\N<=9000000)(hF:∀x,0<=F x/\F x<=9000000)(f:aw)(hf:bu f)(a1 a2:cC fg)(n1 n2 c1 c2:bj)(i:Ins)(ga:cC fg)(gc:bj)(vf:i.argsV= tn ga i.args.length gc)(wl:∃ao n cap,i.modeV= tn ao n cap)(vh:bu i.d)(ua:bu i.a)(ws:bu i.b)(k:bj)(hk:k<c.ins.length)(xt:c.ins.length<=90000)(xF:c.nvars<=90000)(hl:C.length+130<=1000000)(xT:Y.length+130<=1000000)(vm:i.op=10)(ub:∀x∈aA F f (aX b k) i,x.all (bH N)=ti):
  fj am 58 #[tv #[tr (tf ⟨T,0,th⟩),Z U f,tn a1 n1 c1,tn a2 n2 c2,tr (tf ⟨TT,0,th⟩)],tv i.cells,Z U (k:aw)] w λe w'=>e= tB (.tuple #[])/\aV T Bb MB lv P N F (C++aA F f (aX b k) i) (Y++(aA F f (aX b k) i).map λ_=>at_) at_ B tg w w':=by
 obtain⟨mo,mn,mc,vp⟩:=wl;obtain⟨op,d,a,bb,ff,nn,vq,argsV,modeV,vr,vt,ln,cl,args⟩:=i;simp only at vf vp vh ua ws vm ub⊢;subst vm;subst vf vp;simp only[Ins.cells];obtain⟨D,W1,hD,xf,xj,vu,tU,HO⟩:=iL h f hf a1 a2 n1 n2 c1 c2 10 d a bb ff nn vq ga args.length gc mo mn mc vr vt ln cl;clear h;obtain⟨j,g,xb,ya,yb,yd,uc,ud,ue,w1,w2,w3,w4,w5,w6,w7⟩:=oG hF (f,d) (f,a) (f,bb);have xl:=zH uc;have tW:=zH ud;have ye:=zH ue;have up:cg (aA F f (aX b k) (⟨10,d,a,bb,ff,nn,vq,tn ga args.length gc,tn mo mn mc,vr,vt,ln,cl,args⟩:Ins)=[[-j,g,g+1],[-(j+1),g,g+1]]):=by unfold cg aA;simp only[bw (by decide:¬((10:aw)=12)),bw (by decide:¬((10:aw)=13)),bw (by decide:¬((10:aw)=9)),lk,uc,ud,ue]
 have xo:cg (([-j,g,g+1]:bp aw).all (bH N)=ti):=ub _ (by rw[up.out];simp);have xp:cg (([-(j+1),g,g+1]:bp aw).all (bH N)=ti):=ub _ (by rw[up.out];simp);clear uc ud ue;go_enter ke,jn
 go_upto_region 1 with(fail)
 rw[xf.out];obtain⟨⟨o,q,t,u,v⟩,⟨y,z,A,E,G,J,K,R,W,z9,tD,tE,tG⟩,y2⟩:=(tU.out _ _ _ vu.out).1
 go_region
 clear o q t u v y z A E G J K R W z9 tD tE tG y2;have ur:=zH (vu.out.grow (aq _ _).drew);obtain⟨⟨o,q,t,u,v⟩,⟨y,z,A,E,G,J,K,R,W,z9,tD,tE,tG⟩,y2⟩:=(tU.out _ _ _ ur.out).1;have vx:=zH (HO.out _ _ _ (d) vh ur.out);rw[show F (f,d)=j from xl.out] at vx
 go_upto_region 3 with(go_at_call 107;refine vx.out.mono ?_;rintro e vy ⟨rfl,we⟩;have wg:=zH (ur.out.grow we);clear we)
 clear o q t u v y z A E G J K R W z9 tD tE tG y2;obtain⟨⟨o,q,t,u,v⟩,⟨y,z,A,E,G,J,K,R,W,z9,tD,tE,tG⟩,y2⟩:=(tU.out _ _ _ wg.out).1;obtain⟨G2,uv⟩:=zE vy.heap.size;obtain⟨V2,ux⟩:=zE (vy.alloc (tA #[Z U (-j)] 3));have tM:=aN.change1 wg.out hN hF f a hf ua a1 a2 n1 n2 c1 c2 (-j) (by rw[tW.out];exact xo.out) (by(try simp only[bm,cj]);omega) (by(try simp only[bm,cj]);omega);rw[uv,ux,show F (f,a)=g from tW.out] at tM;have tP:=zH tM;have HV:=zH ux;have tR:=zH uv;clear tM ux uv
 go_upto_region 15 with(go_at_call 106;(try rw[tR.out]);(try simp only[w1,w2,w3,w4,w5,w6,w7]);(try rw[HV.out]);refine tP.out.mono ?_;rintro e wj ⟨rfl,tS⟩;have wk:=zH tS;clear tS)
 clear o q t u v y z A E G J K R W z9 tD tE tG y2 tP HV tR;obtain⟨⟨o,q,t,u,v⟩,⟨y,z,A,E,G,J,K,R,W,z9,tD,tE,tG⟩,y2⟩:=(tU.out _ _ _ wk.out).1;obtain⟨G3,vc⟩:=zE wj.heap.size;obtain⟨V3,vd⟩:=zE (wj.alloc (tA #[Z U (-(j+1))] 3));have tM:=aN.change1 wk.out hN hF f a hf ua a1 a2 n1 n2 c1 c2 (-(j+1)) (by rw[tW.out];exact xp.out) (by(try simp only[bm,cj]);omega) (by(try simp only[bm,cj]);omega);rw[vc,vd,show F (f,a)=g from tW.out] at tM;have tP:=zH tM;have HV:=zH vd;have tR:=zH vc;clear tM vd vc
 go_wp2_with (go_at_call 106;(try rw[tR.out]);(try simp only[w1,w2,w3,w4,w5,w6,w7]);(try rw[HV.out]);refine tP.out.mono ?_;rintro e yi ⟨rfl,tS⟩;have xr:=zH tS;clear tS)
 clear o q t u v y z A E G J K R W z9 tD tE tG y2 tP HV tR
 go_end0
 refine⟨rfl, ?_⟩;have:=xr.out.wn;rw[up.out];refine aV.below xj.out ?_;simpa using this
theorem xU (w:World)(h:As T Bb MB lv P N F C Y at_ B tg s w0 TT RB c b hi w)(hN:0<=N/\N<=9000000)(hF:∀x,0<=F x/\F x<=9000000)(f:aw)(hf:bu f)(a1 a2:cC fg)(n1 n2 c1 c2:bj)(i:Ins)(ga:cC fg)(gc:bj)(ua:i.argsV= tn ga i.args.length gc)(vt:∃ao n cap,i.modeV= tn ao n cap)(ub:bu i.d)(uc:bu i.a)(vu:bu i.b)(k:bj)(hk:k<c.ins.length)(wk:c.ins.length<=90000)(wl:c.nvars<=90000)(hl:C.length+130<=1000000)(ws:Y.length+130<=1000000)(ud:i.op=8)(ue:∀x∈aA F f (aX b k) i,x.all (bH N)=ti):
  fj am 58 #[tv #[tr (tf ⟨T,0,th⟩),Z U f,tn a1 n1 c1,tn a2 n2 c2,tr (tf ⟨TT,0,th⟩)],tv i.cells,Z U (k:aw)] w λe w'=>e= tB (.tuple #[])/\aV T Bb MB lv P N F (C++aA F f (aX b k) i) (Y++(aA F f (aX b k) i).map λ_=>at_) at_ B tg w w':=by
 obtain⟨mo,mn,mc,up⟩:=vt;obtain⟨op,d,a,bb,ff,nn,ur,argsV,modeV,uv,ux,ln,cl,args⟩:=i;simp only at ua up ub uc vu ud ue⊢;subst ud;subst ua up;simp only[Ins.cells];obtain⟨D,W1,hD,vx,vy,vc,tM,HO⟩:=iL h f hf a1 a2 n1 n2 c1 c2 8 d a bb ff nn ur ga args.length gc mo mn mc uv ux ln cl;clear h;obtain⟨xd,g,xb,xf,xj,xl,tP,tR,tS,w1,w2,w3,w4,w5,w6,w7⟩:=oG hF (f,d) (f,a) (f,bb);have we:=zH tP;have vd:=zH tR;have xo:=zH tS;have vf:cg (aA F f (aX b k) (⟨8,d,a,bb,ff,nn,ur,tn ga args.length gc,tn mo mn mc,uv,ux,ln,cl,args⟩:Ins)=[[g,g+1]]):=by unfold cg aA;simp only[bw (by decide:¬((8:aw)=12)),bw (by decide:¬((8:aw)=13)),bw (by decide:¬((8:aw)=9)),bw (by decide:¬((8:aw)=10)),lk,tP,tR,tS]
 have wg:cg (([g,g+1]:bp aw).all (bH N)=ti):=ue _ (by rw[vf.out];simp);clear tP tR tS;go_enter ke,jn
 go_upto_region 1 with(fail)
 rw[vx.out];obtain⟨⟨j,o,q,t,u⟩,⟨v,y,z,A,E,G,J,K,R,W,tD,tE,tG⟩,y2⟩:=(tM.out _ _ _ vc.out).1
 go_region
 clear j o q t u v y z A E G J K R W tD tE tG y2;have tU:=zH (vc.out.grow (aq _ _).drew);obtain⟨⟨j,o,q,t,u⟩,⟨v,y,z,A,E,G,J,K,R,W,tD,tE,tG⟩,y2⟩:=(tM.out _ _ _ tU.out).1;have vh:=zH (HO.out _ _ _ (d) ub tU.out);rw[show F (f,d)=xd from we.out] at vh
 go_upto_region 3 with(go_at_call 107;refine vh.out.mono ?_;rintro e xp ⟨rfl,vm⟩;have vp:=zH (tU.out.grow vm);clear vm)
 clear j o q t u v y z A E G J K R W tD tE tG y2;obtain⟨⟨j,o,q,t,u⟩,⟨v,y,z,A,E,G,J,K,R,W,tD,tE,tG⟩,y2⟩:=(tM.out _ _ _ vp.out).1;have tW:=aN.change0 vp.out hN hF f a hf uc a1 a2 n1 n2 c1 c2 (by rw[vd.out];exact wg.out) (by(try simp only[bm,cj]);omega) (by(try simp only[bm,cj]);omega);rw[show F (f,a)=g from vd.out] at tW;have vq:=zH tW;clear tW
 go_wp2_with (go_at_call 106;refine vq.out.mono ?_;rintro e xr ⟨rfl,vr⟩;have wj:=zH vr;clear vr)
 clear j o q t u v y z A E G J K R W tD tE tG y2 vq
 go_end0
 refine⟨rfl, ?_⟩;have:=wj.out.wn;rw[vf.out];refine aV.below vy.out ?_;simpa using this
end
end Go.Proofs.YtjomgckjhcfbgaaGreat
