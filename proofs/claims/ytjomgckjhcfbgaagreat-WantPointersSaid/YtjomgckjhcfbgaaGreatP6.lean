/- Walks. -/
import Derived.Deep.WholeRow
import Derived.Test.YtjomgckjhcfbgaaGreatP5
set_option maxRecDepth 100000
set_option maxHeartbeats 64000000
set_option linter.all false
namespace Go.Proofs.YtjomgckjhcfbgaaGreat
open Go.RowKit
open Go.Proofs.Tryz renaming prog→am,underlying25→fh,underlying35→gv,underlying113→oy,underlying223→qe
open _root_.List renaming getElem?_eq_getElem→ap,length_append→bm,mem_of_getElem?→ci,length_singleton→cj,mem_singleton→cP,length_map→eq,map_append→et,append_nil→eA,flatMap_cons→fm,mem_map→fL,all_eq_true→gn,drop_eq_getElem_cons→ij,map_cons→li,map_nil→oT,getElem?_drop→pZ,getElem?_map→qs,getElem?_append→sX
open Go.RowKit.Below renaming refl→aq,heap_alloc→cE
open _root_ renaming Int→aw,Nat→bj,ByteArray→bl,List→bp,if_neg→bw,decide_eq_false→cm,Option→cC,if_pos→cH,Array→dl,absurd→fz,False→lj
open Go.RowKit renaming Below→aE,Hid→cg,intOf→dp
open Go renaming heap_setCell_same→bk,cell_of_row→bt,run_storeCells_new→cr,Value→cw,storeCells→dd,bodyPost_ret→dk,maxLen→du,Addr→fg,Calls→fj,TypeId→fX,heap_alloc2_new→im,heap_alloc2_old→i8,info_parts→m6
open _root_.Nat renaming le_refl→cd,lt_of_lt_of_le→cD,zero_add→cI,zero_le→cM,le_trans→eN,add_zero→i7
open Go.Value renaming oneCell'→cn,ownBlock→eL,string→eM,int→eS,string→tm,slice→tn,pointer→tr,bool→tt,agg→tv,int→Z
open _root_.Option.some renaming inj→cy,injEq→dj
open Go.Exit renaming inBlock→cQ
open Go.Addr renaming add_lit→cU
open Go.Addr.mk renaming injEq→eV
open Go.Value.slice renaming injEq→fy
open _root_.Option renaming map_eq_some_iff→gE,some→tf,none→th
open _root_.Prod.mk renaming injEq→pp
open _root_.Bool renaming true→ti,false→tj
open Go.Obj renaming cells→tA
open Go.Ending renaming returned→tB
open Go.IntKind renaming i64→U
open Tryz
theorem CL:(am.info? 9).map (λi=>(i.zero,i.size,i.bytes))=tf (tf (tm ⟨#[]⟩),1,16):=by kernel_rfl
theorem jM {α:Type}(f:α->cw)(S:bp α):(S.map f).length=S.length*1:=by simp
theorem iN {α:Type}{f:α->cw}{w:World}{B:bj}{ao:cC fg}{S:bp α}(h:aH (λx=>#[f x]) 1 w B ao S):∀b,ao=tf b->∀j u,(S.map f)[j]?=tf u->w.cell? (b.add j)=tf u:=by
 intro b hb j u g;rw[qs] at g;obtain⟨x,d,rfl⟩:=gE.1 g;obtain⟨t,v,o,_,q⟩:=h (by intro e;rw[e] at d;simp at d);rw[hb] at o;obtain rfl:=cy o;have:=q j x d 0 _ rfl;rw[i7,Nat.mul_one] at this;rw[cU];exact this
theorem vE {α:Type}{f:α->cw}{w:World}{base n:bj}{e:fX}{v:cw}{S:bp α}(d:w.ownsRow base e 1 v n (S.map f))(g:n=S.length){ao:cC fg}{c:bj}(h:v= tn ao n c):aH (λx=>#[f x]) 1 w w.heap.size ao S:=by
 subst h;refine eO (cells:=λx=>#[f x]) (m:=1) (λ_=>rfl) (base:=base) (e:=e) (n:=n) (c:=c) ?_ g;have:∀S:bp α,(S.flatMap λx=>(#[f x]:dl cw).toList)=S.map f:=λS=>by
  induction S with
  |nil=>rfl
  |cons a S ih=>rw[fm,ih];rfl
 rw[this];exact d
def GY (p:Pg)(X:Fx)(s:Sl)(d e:bj)(f g:cw):dl cw:=
 #[tn (tf ⟨p.pA,0,th⟩) 1 p.pC,tn (tf ⟨p.qA,0,th⟩) 1 p.qC,tt X.rt.1,tm X.rt.2,tm X.nm,X.pr,tn s.vA d s.vC,X.r7,X.r8,X.r9,X.fr,tn s.iA e s.iC,f,g,Z U 0,Z U 0,Z U 0,Z U 0,X.hs,X.os]
theorem nN {m:bj}{p:Pg}{L:bj}{X:Fx}{V2:bp Ty}{I2:bp fU}{S:bp (bl×bj)}{O J:bj->Prop}{j:Sl}{w W1 w5 WF R g:World}{nm:bl}{v:bj}{t o:cC fg}{c9 u:bj}
  (W:aE w.heap.size w W1)(tR:Ext (λq=>q=m\/O q) W1 w5)(tS:∀k,J k->O k\/W1.heap.size<=k)(d:Mk m p L X V2 I2 S J j w5)(tD:Ext (·=m) w5 WF)
  (tE:WF.heap[m]?=tf (tA (GY p X j V2.length I2.length (tn t (S.length+1) c9) (tn j.wA S.length j.wC)) 236 (0,0)))
  (A:WF.ownsRow w5.heap.size 9 1 (tn t (S.length+1) c9) (S.length+1) ((S++[(nm,v)]).map λx:bl×bj=>eM x.1))
  (tG:aE WF.heap.size WF g)(h8:WF.heap.size<=R.heap.size)
  (E:g.ownsRow R.heap.size 3 1 (tn o (S.length+1) u) (S.length+1) ((S++[(nm,v)]).map λx:bl×bj=>eS .i64 (x.2:aw)))(ud:S.length+1<=1000):
  dz m p L X V2 I2 (S++[(nm,v)]) O w (g.setCell ⟨m,13,th⟩ (tn o (S.length+1) u)):=by
 obtain⟨G,K⟩:=zE (g.setCell ⟨m,13,th⟩ (tn o (S.length+1) u));rw[K];have ue:=ae d.row;have tU:=ae tE;have up:=tD.size;have tW:=(tG.block m tU).trans tE;have tM:Ext (·=m) g G:=by rw[<-K];exact Ext.set1 g m 13 _
 have ua:G.heap[m]?=tf (tA (Ff p X {j with sA:=t,sC:=c9,wA:=o,wC:=u} V2.length I2.length (S.length+1)) 236 (0,0)):=by rw[<-K];exact bk g m 13 _ _ _ tW
 have tP:Ext (·=m) WF G:=(Ext.of_below_size (M:=(·=m)) tG).trans tM (λq h=> .inl h);have y:Ext (·=m) w5 G:=tD.trans tP (λq h=> .inl h);have z:(S++[(nm,v)]).length=S.length+1:=by simp
 have ub:=ah A tP (λk f e=>by have:=(ai A f).1;omega);have uc:=ah E tM (λk f e=>by have:=(ai E f).1;omega);refine⟨J,{j with sA:=t,sC:=c9,wA:=o,wC:=u},⟨by rw[z];exact ua,d.pg.ext y (λk f e=>by have:=d.hm;omega),d.hm,ah d.vars y (λk f e=>by have:=(ai d.vars f).1;omega),ah d.ins y (λk f e=>by have:=(ai d.ins f).1;omega),d.dis,d.ov,d.oi,λk f=>⟨(d.ol k f).1,cD (d.ol k f).2 y.size⟩,vE ub z.symm rfl,vE uc z.symm rfl,λa _ e=> ?_,d.lV,d.lI,by rw[z];omega,by rw[z];exact⟨wU A,wU E⟩⟩, ?_,λk f=> ?_⟩
 ·rcases e with e|e
  ·have h1:=(ai A (k:=a.block) (by rw[show t=tf a from e];rfl)).1
   exact⟨by omega,λh=>by have:=(d.ol _ h).2;omega⟩
  ·have h1:=(ai E (k:=a.block) (by rw[show o=tf a from e];rfl)).1
   exact⟨by omega,λh=>by have:=(d.ol _ h).2;omega⟩
 ·exact((Ext.of_below_size (M:=λq=>q=m\/O q) W).trans tR (λq h=> .inl h)).trans y (λq h=> .inl (.inl h))
 ·rcases tS k f with h|h
  ·exact .inl h
  ·have:=W.size;exact .inr (by omega)
theorem yP {m:bj}{p:Pg}{L:bj}{X:Fx}{V:bp Ty}{I:bp fU}{S:bp (bl×bj)}{O:bj->Prop}{s:Sl}(Ax:X.os= tn th 0 0)(y:Ty)(nm:bl)(g cp:bj)(ex:Ex)(hg:g<L/\∀(j:bj)(u:cw),ex.cells.toList[j]?=tf u->∀W,jh p L W->W.cell? ⟨g,j,th⟩=tf u)(d:aw)(V2:bp Ty)(I2:bp fU)(A2:V.length+1<=1000)(ye:S.length+1<=1000)
  (AD:∀W O s,Mk m p L X (V++[y]) I S O s W->fj am 217 #[tr (tf ⟨m,0,th⟩),tv ex.cells,tv #[tt y.1,tm y.2],Z U (V.length:aw)] W λe w'=>e= tB (Z U d)/\dz m p L X V2 I2 S O W w')(ln cl:aw)(w:World)(h:Mk m p L X V I S O s w):
  fj am 180 #[tr (tf ⟨m,0,th⟩),tv #[Z U 1,tt y.1,tm y.2,tm nm,tn (tf ⟨g,0,th⟩) 1 cp,tn th 0 0,tn th 0 0,Z U ln,Z U cl]] w λe w'=>e= tB (.tuple #[])/\dz m p L X V2 I2 (S++[(nm,V.length)]) O w w':=by
 obtain⟨N,hN⟩:=zE w.heap.size;obtain⟨W1,yi⟩:=zE (w.alloc (tA #[Z U 1,tt y.1,tm y.2,tm nm,tn (tf ⟨g,0,th⟩) 1 cp,tn th 0 0,tn th 0 0,Z U ln,Z U cl] 282));have zd:=ik yi hN;have yk:W1.heap[N]?=tf (tA #[Z U 1,tt y.1,tm y.2,tm nm,tn (tf ⟨g,0,th⟩) 1 cp,tn th 0 0,tn th 0 0,Z U ln,Z U cl] 282 (0,0)):=by rw[<-yi,<-hN];exact alloc_at _ _
 have BY:=ae yk;have h1:Mk m p L X V I S O s W1:=h.grow (by rw[hN];exact zd);have AE:aE w.heap.size w W1:=by rw[hN];exact zd
 have B4:=ae h1.row;have B5:m<N:=by have:=ae h.row;omega
 have AF:¬(N=m\/O N):=by rintro(h1|h1);omega;have:=(h.ol N h1).2;omega
 have A3:W1.cell? ⟨m,15,th⟩=tf (Z U 0):=(rowAt h1.row 15 rfl).1;have A4:W1.cell? ⟨m,19,th⟩=tf (tn th 0 0):=by rw[<-Ax];exact(rowAt h1.row 19 rfl).1
 obtain⟨⟨a0,a1,a2,a3,a4,a5,a6,a7,a8⟩,_,_⟩:=fe yk;have A5:=zH yi;have yp:=zH AE;have AH:=zH yk;have AI:=zH AF;have B6:=zH hN;have A6:=zH (mr y W1 h1 A2);have Bk:=zH AD;have HG:=zH hg;clear h h1 yi zd yk AE AF Ax AD hg;go_enter func180,ntmps180
 go_upto_region 1 with(fail)
 rw[A5.out]
 go_upto_region 6 with(go_at_call 131;refine A6.out.mono ?_;rintro e w4 ⟨rfl,yq⟩;have Bm:=zH yq;clear yq)
 obtain⟨O4,s4,k4,x4,o4⟩:=Bm.out;have zj:=x4.heap AH.out AI.out;have AK:=ae zj;have yq:=ae k4.row;clear a0 a1 a2 a3 a4 a5 a6 a7 a8 A3 A4;obtain⟨S1,zp⟩:=zE ((λw'=>aE w4.heap.size w4 w'):World->Prop);have yr:S1 w4.drew:=by rw[<-zp];exact(aq _ _).drew
 have AM:∀W,S1 W->W.cell? ⟨N,1,th⟩=tf (tt y.1)/\W.cell? ⟨N,2,th⟩=tf (tm y.2)/\W.cell? ⟨N,4,th⟩=tf (tn (tf ⟨g,0,th⟩) 1 cp)/\W.cell? ⟨g,0,th⟩=tf (Z U ex.kind)/\W.cell? ⟨g,1,th⟩=tf (Z U ex.n)/\W.cell? ⟨g,2,th⟩=tf (tm ex.nm)/\W.cell? ⟨g,3,th⟩=tf (tm ⟨#[]⟩)/\W.cell? ⟨g,4,th⟩=tf (tn th 0 0)/\W.cell? ⟨g,5,th⟩=tf (Z U ex.ln)/\W.cell? ⟨g,6,th⟩=tf (Z U ex.cl):=λW E=>by
  rw[<-zp] at E;have r1:=(E.block N AK).trans zj;have kk:=(k4.grow E).pg;exact⟨(rowAt r1 1 rfl).1,(rowAt r1 2 rfl).1,(rowAt r1 4 rfl).1,HG.out.2 0 _ rfl W kk,HG.out.2 1 _ rfl W kk,HG.out.2 2 _ rfl W kk,HG.out.2 3 _ rfl W kk,HG.out.2 4 _ rfl W kk,HG.out.2 5 _ rfl W kk,HG.out.2 6 _ rfl W kk⟩
 have vq:=zH AM;have AN:Mk m p L X (V++[y]) I S O4 s4 w4.drew:=k4.grow (aq _ _).drew;have hV:=Bk.out w4.drew O4 s4 AN;unfold Ex.cells at hV;have HV:=zH hV;clear zp AM hV;refine aj 8 S1 (by kernel_rfl) ?_;refine zT 0 rfl vq.out ?_;(try go_simp);refine zT 1 rfl vq.out ?_;(try go_simp);refine zT 2 rfl vq.out ?_;(try go_simp);refine zT 3 rfl vq.out ?_;(try go_simp);refine zT 4 rfl vq.out ?_;(try go_simp);refine zT 5 rfl vq.out ?_;(try go_simp);refine zT 6 rfl vq.out ?_;(try go_simp);refine zT 7 rfl vq.out ?_;(try go_simp);refine zK rfl λK' t=> ?_;go_simp;go_at_call 217;refine HV.out.mono ?_;rintro e w5 ⟨rfl,O5,s5,k5,x5,o5⟩;refine t _ _ ?_;clear t;refine⟨by kernel_rfl, ?_⟩;have zr:Ext (λq=>q=m\/O q) W1 w5:=x4.trans (((Ext.refl _ _).drew).trans x5 (λq h=> .inl h)) (λq hq=>by
  rcases hq with h|h
  ·exact .inl (.inl h)
  ·rcases o4 q h with h|h
   ·exact .inl (.inr h)
   ·exact .inr h)
 have xo:=zr.heap AH.out AI.out;have yv:=ae xo;have AS:=ae k5.row;have AT:∀k,O5 k->O k\/W1.heap.size<=k:=λk hk=>by
  rcases o5 k hk with h|h
  ·exact o4 k h
  ·have:=x4.size;exact .inr (eN this h)
 obtain⟨i0,uv,ux,vc,vd⟩:=m6 CL;have AW:=k5.cS.1;have A1:(S.length:aw)<=(s5.sC:aw):=by omega
 have tR:=zH k5;have B7:=zH xo;have yy:=zH zr;have yW:=zH AT;clear k4 x4 o4 zj AK yq yr AN x5 o5 zr AT
 go_upto_region 7 with(fail)
 obtain⟨S7,xp⟩:=zE ((λw'=>aE w5.heap.size w5 w'):World->Prop);have yr:S7 w5.drew:=by rw[<-xp];exact(aq _ _).drew
 have vr:∀W,S7 W->aE w5.heap.size w5 W:=λW E=>by rw[<-xp] at E;exact E
 have zc:∀W,aE w5.heap.size w5 W->S7 W:=λW E=>by rw[<-xp];exact E
 rcases hA:s5.sA with _|⟨b,zs,fp⟩
 ·have xr:∀W,S7 W->W.cell? ⟨m,12,th⟩=tf (tn th S.length s5.sC)/\W.cell? ⟨N,3,th⟩=tf (tm nm):=λW E=>by
   have r1:=((vr W E).block N yv).trans xo;have r2:=(k5.grow (vr W E)).row;exact⟨by rw[<-hA];exact(rowAt r2 12 rfl).1,(rowAt r1 3 rfl).1⟩
  have v:=zH xr;have Bs:=zH vr;have xt:=zH zc;clear xr vr zc xp xo k5;refine aj 22 S7 (by kernel_rfl) ?_;refine zT 0 rfl v.out ?_;(try go_simp);refine zT 1 rfl v.out ?_;(try go_simp);refine zT 2 rfl v.out ?_;(try go_simp);refine zT 3 rfl v.out ?_;(try go_simp);refine zT 4 rfl v.out ?_;(try go_simp);refine zT 5 rfl v.out ?_;(try go_simp);refine zT 6 rfl v.out ?_;(try go_simp);refine zT 7 rfl v.out ?_;(try go_simp);refine zT 8 rfl v.out ?_;(try go_simp);refine zT 9 rfl v.out ?_;(try go_simp);refine zT 10 rfl v.out ?_;(try go_simp);refine zT 11 rfl v.out ?_;(try go_simp);refine zT 12 rfl v.out ?_;(try go_simp);refine zT 13 rfl v.out ?_;(try go_simp);refine zT 14 rfl v.out ?_;(try go_simp);refine zT 15 rfl v.out ?_;(try go_simp);refine zT 16 rfl v.out ?_;(try go_simp);refine zT 17 rfl v.out ?_;(try go_simp);refine zO 18 rfl λK' t=> ?_;go_simp;obtain⟨G,hG⟩:=zE w5.heap.size;obtain⟨z,J⟩:=zE ((w5.alloc (tA #[tm nm] 9)).drew);(try rw[hG]);(try rw[J]);have A:aE w5.heap.size w5 z:=by rw[<-J];exact((aq _ _).alloc (cd _) _).drew
  have tS:z.heap[G]?=tf (tA #[tm nm] 9 (0,0)):=by rw[<-J,<-hG];exact alloc_at _ _
  have tM:S7 z:=xt.out _ A;refine t _ _ tM ?_;clear t;(try go_simp);refine zO 19 rfl λK' t=> ?_;have tP:aH (λx:bl×bj=>#[tm x.1]) 1 z z.heap.size th S:=by rw[<-hA];exact(tR.out.grow A).seen
  have vt:cg (S.length=0):=by
   by_cases h:S=[]
   ·unfold cg;rw[h];rfl
   ·obtain⟨_,_,h1,_⟩:=tP h;cases h1
  have tU:=iN (f:=λx:bl×bj=>eM x.1) tP;refine bI (.tmp 54) (.tmp 57) 223 rfl 9 i0 _ 1 16 qe uv ux vc vd rfl (by decide) th S.length S.length (S.map λx:bl×bj=>eM x.1) rfl (λ_=>⟨vt.out,vt.out⟩) (jM _ _) tU ⟨G,0,th⟩ 1 1 [tm nm] rfl rfl (λjj uu hu=>by rw[cU,cI,bt _ _ _ _ _ _ tS];simpa using hu) (by simp[cn]) (by omega) (by unfold du;omega) (by omega) ?_;intro v9 w9 tE tW;have ua:Ext (λ_=>lj) z w9:=Ext.of_grown tW (λq hq=>by cases hq);have K:aE w5.heap.size w5 w9:=A.trans (ua.below A.size (λq h=>h.elim));have tG:S7 w9:=xt.out _ K;obtain⟨vu,c9,ud⟩:=aC tE;subst ud;refine t _ _ tG ?_;clear t;(try go_simp);refine zT 20 rfl v.out ?_;(try go_simp);refine zT 21 rfl v.out ?_;(try go_simp);have vx:=tR.out.grow K;have vy:=(rowAt vx.row 12 rfl).2;obtain⟨x0,x1⟩:=v.out w9 tG;refine zK rfl λK' t=> ?_;go_simp;refine t _ _ ?_;clear t;refine⟨by kernel_rfl, ?_⟩;obtain⟨WF,vf⟩:=zE (w9.setCell ⟨m,12,th⟩ (tn vu (S.length+1) c9));(try rw[vf]);have we:Ext (·=m) w9 WF:=by rw[<-vf];exact Ext.set1 w9 m 12 _
  have wg:WF.heap[m]?=tf (tA (GY p X s5 V2.length I2.length (tn vu (S.length+1) c9) (tn s5.wA S.length s5.wC)) 236 (0,0)):=by rw[<-vf];exact bk w9 m 12 _ _ _ vx.row
  have zv:m<z.heap.size:=by have:=A.size;omega
  have xF:WF.ownsRow w5.heap.size 9 1 (tn vu (S.length+1) c9) (S.length+1) ((S++[(nm,V.length)]).map λx:bl×bj=>eM x.1):=by
   rw[et];exact aT (ah tE we (λk hk e=>by have:=(ai tE hk).1;omega)) A.size
  have wj:Ext (·=m) w5 WF:=(Ext.of_below_size (M:=(·=m)) K).trans we (λq h=> .inl h);have xT:aH (λx:bl×bj=>#[Z U (x.2:aw)]) 1 WF WF.heap.size s5.wA S:=tR.out.whic.stay wj (λa An e=>(tR.out.ns a An (.inr e)).1);have vh:=ae wg;have ya:=zH wj;have ub:=zH wg;have yb:=zH xF;have yd:=zH xT;have By:=tR.out.cS.2;have BE:(S.length:aw)<=(s5.wC:aw):=by omega
  clear we wg zv xF wj xT vf vx vy x0 x1 tE tW ua K tG tU tP tS A J tM hG AS yv yr i0 uv ux vc vd AW A1;obtain⟨i0,uv,ux,vc,vd⟩:=m6 iQ
  go_upto_region 8 with(fail)
  obtain⟨R,tM⟩:=zE ((λw'=>aE WF.heap.size WF w'):World->Prop);have BT:R WF.drew:=by rw[<-tM];exact(aq _ _).drew
  have uc:∀W,R W->aE WF.heap.size WF W:=λW E=>by rw[<-tM] at E;exact E
  have vm:∀W,aE WF.heap.size WF W->R W:=λW E=>by rw[<-tM];exact E
  rcases vp:s5.wA with _|⟨b2,wk,wl⟩
  ·have ue:∀W,R W->W.cell? ⟨m,13,th⟩=tf (tn th S.length s5.wC):=λW E=>by
    rw[<-vp];exact(rowAt (((uc W E).block m vh).trans ub.out) 13 rfl).1
   have o:=zH ue;have up:=zH vm;have At:=zH uc;clear ue vm uc tM;refine aj 21 R (by kernel_rfl) ?_;refine zT 0 rfl o.out ?_;(try go_simp);refine zT 1 rfl o.out ?_;(try go_simp);refine zT 2 rfl o.out ?_;(try go_simp);refine zT 3 rfl o.out ?_;(try go_simp);refine zT 4 rfl o.out ?_;(try go_simp);refine zT 5 rfl o.out ?_;(try go_simp);refine zT 6 rfl o.out ?_;(try go_simp);refine zT 7 rfl o.out ?_;(try go_simp);refine zT 8 rfl o.out ?_;(try go_simp);refine zT 9 rfl o.out ?_;(try go_simp);refine zT 10 rfl o.out ?_;(try go_simp);refine zT 11 rfl o.out ?_;(try go_simp);refine zT 12 rfl o.out ?_;(try go_simp);refine zT 13 rfl o.out ?_;(try go_simp);refine zT 14 rfl o.out ?_;(try go_simp);refine zT 15 rfl o.out ?_;(try go_simp);refine zT 16 rfl o.out ?_;(try go_simp);refine zO 17 rfl λK' t=> ?_;go_simp;obtain⟨G,hG⟩:=zE WF.heap.size;obtain⟨z,J⟩:=zE ((WF.alloc (tA #[Z U (V.length:aw)] 3)).drew);(try rw[hG]);(try rw[J]);have A:aE WF.heap.size WF z:=by rw[<-J];exact((aq _ _).alloc (cd _) _).drew
   have tS:z.heap[G]?=tf (tA #[Z U (V.length:aw)] 3 (0,0)):=by rw[<-J,<-hG];exact alloc_at _ _
   have ws:R z:=up.out _ A;refine t _ _ ws ?_;clear t;(try go_simp);refine zO 18 rfl λK' t=> ?_;have tP:aH (λx:bl×bj=>#[Z U (x.2:aw)]) 1 z z.heap.size th S:=by rw[<-vp];exact yd.out.stay (Ext.of_below_size (M:=λ_=>lj) A) (λ_ _ _ h=>h)
   have vt:cg (S.length=0):=by
    by_cases h:S=[]
    ·unfold cg;rw[h];rfl
    ·obtain⟨_,_,h1,_⟩:=tP h;cases h1
   have tU:=iN (f:=λx:bl×bj=>eS .i64 (x.2:aw)) tP;refine bI (.tmp 76) (.tmp 78) 35 rfl 3 i0 _ 1 8 gv uv ux vc vd rfl (by decide) th S.length S.length (S.map λx:bl×bj=>eS .i64 (x.2:aw)) rfl (λ_=>⟨vt.out,vt.out⟩) (jM _ _) tU ⟨G,0,th⟩ 1 1 [Z U (V.length:aw)] rfl rfl (λjj uu hu=>by rw[cU,cI,bt _ _ _ _ _ _ tS];simpa using hu) (by simp[cn]) (by omega) (by unfold du;omega) (by omega) ?_;intro v9 tD tE tW;have ua:Ext (λ_=>lj) z tD:=Ext.of_grown tW (λq hq=>by cases hq);have K:aE WF.heap.size WF tD:=A.trans (ua.below A.size (λq h=>h.elim));have tG:R tD:=up.out _ K;obtain⟨xf,cW,ud⟩:=aC tE;subst ud;refine t _ _ tG ?_;clear t;(try go_simp);refine zT 19 rfl o.out ?_;(try go_simp);refine zT 20 rfl o.out ?_;(try go_simp);have xj:=(K.block m vh).trans ub.out;have vy:=(rowAt xj 13 rfl).2;have x0:=o.out tD tG;refine zK rfl λK' t=> ?_;go_simp;refine t _ _ ?_;clear t;refine⟨by kernel_rfl, ?_⟩;have ur:dz m p L X V2 I2 (S++[(nm,V.length)]) O w (tD.setCell ⟨m,13,th⟩ (tn xf (S.length+1) cW)):=nN yp.out yy.out yW.out tR.out ya.out ub.out yb.out K (by have:=A.size;exact A.size) (by rw[et];exact tE) ye;have xl:=zH ur;clear ur;go_wp2
   go_end0
   exact⟨rfl,xl.out⟩
  ·have ue:∀W,R W->W.cell? ⟨m,13,th⟩=tf (tn (tf ⟨b2,wk,wl⟩) S.length s5.wC):=λW E=>by
    rw[<-vp];exact(rowAt (((uc W E).block m vh).trans ub.out) 13 rfl).1
   have o:=zH ue;have up:=zH vm;have At:=zH uc;clear ue vm uc tM;refine aj 21 R (by kernel_rfl) ?_;refine zT 0 rfl o.out ?_;(try go_simp);refine zT 1 rfl o.out ?_;(try go_simp);refine zT 2 rfl o.out ?_;(try go_simp);refine zT 3 rfl o.out ?_;(try go_simp);refine zT 4 rfl o.out ?_;(try go_simp);refine zT 5 rfl o.out ?_;(try go_simp);refine zT 6 rfl o.out ?_;(try go_simp);refine zT 7 rfl o.out ?_;(try go_simp);refine zT 8 rfl o.out ?_;(try go_simp);refine zT 9 rfl o.out ?_;(try go_simp);refine zT 10 rfl o.out ?_;(try go_simp);refine zT 11 rfl o.out ?_;(try go_simp);refine zT 12 rfl o.out ?_;(try go_simp);refine zT 13 rfl o.out ?_;(try go_simp);refine zT 14 rfl o.out ?_;(try go_simp);refine zT 15 rfl o.out ?_;(try go_simp);refine zT 16 rfl o.out ?_;(try go_simp);refine zO 17 rfl λK' t=> ?_;go_simp;obtain⟨G,hG⟩:=zE WF.heap.size;obtain⟨z,J⟩:=zE ((WF.alloc (tA #[Z U (V.length:aw)] 3)).drew);(try rw[hG]);(try rw[J]);have A:aE WF.heap.size WF z:=by rw[<-J];exact((aq _ _).alloc (cd _) _).drew
   have tS:z.heap[G]?=tf (tA #[Z U (V.length:aw)] 3 (0,0)):=by rw[<-J,<-hG];exact alloc_at _ _
   have ws:R z:=up.out _ A;refine t _ _ ws ?_;clear t;(try go_simp);refine zO 18 rfl λK' t=> ?_;have tP:aH (λx:bl×bj=>#[Z U (x.2:aw)]) 1 z z.heap.size (tf ⟨b2,wk,wl⟩) S:=by rw[<-vp];exact yd.out.stay (Ext.of_below_size (M:=λ_=>lj) A) (λ_ _ _ h=>h)
   have tU:=iN (f:=λx:bl×bj=>eS .i64 (x.2:aw)) tP;refine bI (.tmp 76) (.tmp 78) 35 rfl 3 i0 _ 1 8 gv uv ux vc vd rfl (by decide) (tf ⟨b2,wk,wl⟩) S.length S.length (S.map λx:bl×bj=>eS .i64 (x.2:aw)) rfl (λh=>by cases h) (jM _ _) tU ⟨G,0,th⟩ 1 1 [Z U (V.length:aw)] rfl rfl (λjj uu hu=>by rw[cU,cI,bt _ _ _ _ _ _ tS];simpa using hu) (by simp[cn]) (by omega) (by unfold du;omega) (by omega) ?_;intro v9 tD tE tW;have ua:Ext (λ_=>lj) z tD:=Ext.of_grown tW (λq hq=>by cases hq);have K:aE WF.heap.size WF tD:=A.trans (ua.below A.size (λq h=>h.elim));have tG:R tD:=up.out _ K;obtain⟨xf,cW,ud⟩:=aC tE;subst ud;refine t _ _ tG ?_;clear t;(try go_simp);refine zT 19 rfl o.out ?_;(try go_simp);refine zT 20 rfl o.out ?_;(try go_simp);have xj:=(K.block m vh).trans ub.out;have vy:=(rowAt xj 13 rfl).2;have x0:=o.out tD tG;refine zK rfl λK' t=> ?_;go_simp;refine t _ _ ?_;clear t;refine⟨by kernel_rfl, ?_⟩;have ur:dz m p L X V2 I2 (S++[(nm,V.length)]) O w (tD.setCell ⟨m,13,th⟩ (tn xf (S.length+1) cW)):=nN yp.out yy.out yW.out tR.out ya.out ub.out yb.out K (by have:=A.size;exact A.size) (by rw[et];exact tE) ye;have xl:=zH ur;clear ur;go_wp2
   go_end0
   exact⟨rfl,xl.out⟩
 ·have xr:∀W,S7 W->W.cell? ⟨m,12,th⟩=tf (tn (tf ⟨b,zs,fp⟩) S.length s5.sC)/\W.cell? ⟨N,3,th⟩=tf (tm nm):=λW E=>by
   have r1:=((vr W E).block N yv).trans xo;have r2:=(k5.grow (vr W E)).row;exact⟨by rw[<-hA];exact(rowAt r2 12 rfl).1,(rowAt r1 3 rfl).1⟩
  have v:=zH xr;have Bs:=zH vr;have xt:=zH zc;clear xr vr zc xp xo k5;refine aj 22 S7 (by kernel_rfl) ?_;refine zT 0 rfl v.out ?_;(try go_simp);refine zT 1 rfl v.out ?_;(try go_simp);refine zT 2 rfl v.out ?_;(try go_simp);refine zT 3 rfl v.out ?_;(try go_simp);refine zT 4 rfl v.out ?_;(try go_simp);refine zT 5 rfl v.out ?_;(try go_simp);refine zT 6 rfl v.out ?_;(try go_simp);refine zT 7 rfl v.out ?_;(try go_simp);refine zT 8 rfl v.out ?_;(try go_simp);refine zT 9 rfl v.out ?_;(try go_simp);refine zT 10 rfl v.out ?_;(try go_simp);refine zT 11 rfl v.out ?_;(try go_simp);refine zT 12 rfl v.out ?_;(try go_simp);refine zT 13 rfl v.out ?_;(try go_simp);refine zT 14 rfl v.out ?_;(try go_simp);refine zT 15 rfl v.out ?_;(try go_simp);refine zT 16 rfl v.out ?_;(try go_simp);refine zT 17 rfl v.out ?_;(try go_simp);refine zO 18 rfl λK' t=> ?_;go_simp;obtain⟨G,hG⟩:=zE w5.heap.size;obtain⟨z,J⟩:=zE ((w5.alloc (tA #[tm nm] 9)).drew);(try rw[hG]);(try rw[J]);have A:aE w5.heap.size w5 z:=by rw[<-J];exact((aq _ _).alloc (cd _) _).drew
  have tS:z.heap[G]?=tf (tA #[tm nm] 9 (0,0)):=by rw[<-J,<-hG];exact alloc_at _ _
  have tM:S7 z:=xt.out _ A;refine t _ _ tM ?_;clear t;(try go_simp);refine zO 19 rfl λK' t=> ?_;have tP:aH (λx:bl×bj=>#[tm x.1]) 1 z z.heap.size (tf ⟨b,zs,fp⟩) S:=by rw[<-hA];exact(tR.out.grow A).seen
  have tU:=iN (f:=λx:bl×bj=>eM x.1) tP;refine bI (.tmp 54) (.tmp 57) 223 rfl 9 i0 _ 1 16 qe uv ux vc vd rfl (by decide) (tf ⟨b,zs,fp⟩) S.length S.length (S.map λx:bl×bj=>eM x.1) rfl (λh=>by cases h) (jM _ _) tU ⟨G,0,th⟩ 1 1 [tm nm] rfl rfl (λjj uu hu=>by rw[cU,cI,bt _ _ _ _ _ _ tS];simpa using hu) (by simp[cn]) (by omega) (by unfold du;omega) (by omega) ?_;intro v9 w9 tE tW;have ua:Ext (λ_=>lj) z w9:=Ext.of_grown tW (λq hq=>by cases hq);have K:aE w5.heap.size w5 w9:=A.trans (ua.below A.size (λq h=>h.elim));have tG:S7 w9:=xt.out _ K;obtain⟨vu,c9,ud⟩:=aC tE;subst ud;refine t _ _ tG ?_;clear t;(try go_simp);refine zT 20 rfl v.out ?_;(try go_simp);refine zT 21 rfl v.out ?_;(try go_simp);have vx:=tR.out.grow K;have vy:=(rowAt vx.row 12 rfl).2;obtain⟨x0,x1⟩:=v.out w9 tG;refine zK rfl λK' t=> ?_;go_simp;refine t _ _ ?_;clear t;refine⟨by kernel_rfl, ?_⟩;obtain⟨WF,vf⟩:=zE (w9.setCell ⟨m,12,th⟩ (tn vu (S.length+1) c9));(try rw[vf]);have we:Ext (·=m) w9 WF:=by rw[<-vf];exact Ext.set1 w9 m 12 _
  have wg:WF.heap[m]?=tf (tA (GY p X s5 V2.length I2.length (tn vu (S.length+1) c9) (tn s5.wA S.length s5.wC)) 236 (0,0)):=by rw[<-vf];exact bk w9 m 12 _ _ _ vx.row
  have zv:m<z.heap.size:=by have:=A.size;omega
  have xF:WF.ownsRow w5.heap.size 9 1 (tn vu (S.length+1) c9) (S.length+1) ((S++[(nm,V.length)]).map λx:bl×bj=>eM x.1):=by
   rw[et];exact aT (ah tE we (λk hk e=>by have:=(ai tE hk).1;omega)) A.size
  have wj:Ext (·=m) w5 WF:=(Ext.of_below_size (M:=(·=m)) K).trans we (λq h=> .inl h);have xT:aH (λx:bl×bj=>#[Z U (x.2:aw)]) 1 WF WF.heap.size s5.wA S:=tR.out.whic.stay wj (λa An e=>(tR.out.ns a An (.inr e)).1);have vh:=ae wg;have ya:=zH wj;have ub:=zH wg;have yb:=zH xF;have yd:=zH xT;have By:=tR.out.cS.2;have BE:(S.length:aw)<=(s5.wC:aw):=by omega
  clear we wg zv xF wj xT vf vx vy x0 x1 tE tW ua K tG tU tP tS A J tM hG AS yv yr i0 uv ux vc vd AW A1;obtain⟨i0,uv,ux,vc,vd⟩:=m6 iQ
  go_upto_region 8 with(fail)
  obtain⟨R,tM⟩:=zE ((λw'=>aE WF.heap.size WF w'):World->Prop);have BT:R WF.drew:=by rw[<-tM];exact(aq _ _).drew
  have uc:∀W,R W->aE WF.heap.size WF W:=λW E=>by rw[<-tM] at E;exact E
  have vm:∀W,aE WF.heap.size WF W->R W:=λW E=>by rw[<-tM];exact E
  rcases vp:s5.wA with _|⟨b2,wk,wl⟩
  ·have ue:∀W,R W->W.cell? ⟨m,13,th⟩=tf (tn th S.length s5.wC):=λW E=>by
    rw[<-vp];exact(rowAt (((uc W E).block m vh).trans ub.out) 13 rfl).1
   have o:=zH ue;have up:=zH vm;have At:=zH uc;clear ue vm uc tM;refine aj 21 R (by kernel_rfl) ?_;refine zT 0 rfl o.out ?_;(try go_simp);refine zT 1 rfl o.out ?_;(try go_simp);refine zT 2 rfl o.out ?_;(try go_simp);refine zT 3 rfl o.out ?_;(try go_simp);refine zT 4 rfl o.out ?_;(try go_simp);refine zT 5 rfl o.out ?_;(try go_simp);refine zT 6 rfl o.out ?_;(try go_simp);refine zT 7 rfl o.out ?_;(try go_simp);refine zT 8 rfl o.out ?_;(try go_simp);refine zT 9 rfl o.out ?_;(try go_simp);refine zT 10 rfl o.out ?_;(try go_simp);refine zT 11 rfl o.out ?_;(try go_simp);refine zT 12 rfl o.out ?_;(try go_simp);refine zT 13 rfl o.out ?_;(try go_simp);refine zT 14 rfl o.out ?_;(try go_simp);refine zT 15 rfl o.out ?_;(try go_simp);refine zT 16 rfl o.out ?_;(try go_simp);refine zO 17 rfl λK' t=> ?_;go_simp;obtain⟨G,hG⟩:=zE WF.heap.size;obtain⟨z,J⟩:=zE ((WF.alloc (tA #[Z U (V.length:aw)] 3)).drew);(try rw[hG]);(try rw[J]);have A:aE WF.heap.size WF z:=by rw[<-J];exact((aq _ _).alloc (cd _) _).drew
   have tS:z.heap[G]?=tf (tA #[Z U (V.length:aw)] 3 (0,0)):=by rw[<-J,<-hG];exact alloc_at _ _
   have ws:R z:=up.out _ A;refine t _ _ ws ?_;clear t;(try go_simp);refine zO 18 rfl λK' t=> ?_;have tP:aH (λx:bl×bj=>#[Z U (x.2:aw)]) 1 z z.heap.size th S:=by rw[<-vp];exact yd.out.stay (Ext.of_below_size (M:=λ_=>lj) A) (λ_ _ _ h=>h)
   have vt:cg (S.length=0):=by
    by_cases h:S=[]
    ·unfold cg;rw[h];rfl
    ·obtain⟨_,_,h1,_⟩:=tP h;cases h1
   have tU:=iN (f:=λx:bl×bj=>eS .i64 (x.2:aw)) tP;refine bI (.tmp 76) (.tmp 78) 35 rfl 3 i0 _ 1 8 gv uv ux vc vd rfl (by decide) th S.length S.length (S.map λx:bl×bj=>eS .i64 (x.2:aw)) rfl (λ_=>⟨vt.out,vt.out⟩) (jM _ _) tU ⟨G,0,th⟩ 1 1 [Z U (V.length:aw)] rfl rfl (λjj uu hu=>by rw[cU,cI,bt _ _ _ _ _ _ tS];simpa using hu) (by simp[cn]) (by omega) (by unfold du;omega) (by omega) ?_;intro v9 tD tE tW;have ua:Ext (λ_=>lj) z tD:=Ext.of_grown tW (λq hq=>by cases hq);have K:aE WF.heap.size WF tD:=A.trans (ua.below A.size (λq h=>h.elim));have tG:R tD:=up.out _ K;obtain⟨xf,cW,ud⟩:=aC tE;subst ud;refine t _ _ tG ?_;clear t;(try go_simp);refine zT 19 rfl o.out ?_;(try go_simp);refine zT 20 rfl o.out ?_;(try go_simp);have xj:=(K.block m vh).trans ub.out;have vy:=(rowAt xj 13 rfl).2;have x0:=o.out tD tG;refine zK rfl λK' t=> ?_;go_simp;refine t _ _ ?_;clear t;refine⟨by kernel_rfl, ?_⟩;have ur:dz m p L X V2 I2 (S++[(nm,V.length)]) O w (tD.setCell ⟨m,13,th⟩ (tn xf (S.length+1) cW)):=nN yp.out yy.out yW.out tR.out ya.out ub.out yb.out K (by have:=A.size;exact A.size) (by rw[et];exact tE) ye;have xl:=zH ur;clear ur;go_wp2
   go_end0
   exact⟨rfl,xl.out⟩
  ·have ue:∀W,R W->W.cell? ⟨m,13,th⟩=tf (tn (tf ⟨b2,wk,wl⟩) S.length s5.wC):=λW E=>by
    rw[<-vp];exact(rowAt (((uc W E).block m vh).trans ub.out) 13 rfl).1
   have o:=zH ue;have up:=zH vm;have At:=zH uc;clear ue vm uc tM;refine aj 21 R (by kernel_rfl) ?_;refine zT 0 rfl o.out ?_;(try go_simp);refine zT 1 rfl o.out ?_;(try go_simp);refine zT 2 rfl o.out ?_;(try go_simp);refine zT 3 rfl o.out ?_;(try go_simp);refine zT 4 rfl o.out ?_;(try go_simp);refine zT 5 rfl o.out ?_;(try go_simp);refine zT 6 rfl o.out ?_;(try go_simp);refine zT 7 rfl o.out ?_;(try go_simp);refine zT 8 rfl o.out ?_;(try go_simp);refine zT 9 rfl o.out ?_;(try go_simp);refine zT 10 rfl o.out ?_;(try go_simp);refine zT 11 rfl o.out ?_;(try go_simp);refine zT 12 rfl o.out ?_;(try go_simp);refine zT 13 rfl o.out ?_;(try go_simp);refine zT 14 rfl o.out ?_;(try go_simp);refine zT 15 rfl o.out ?_;(try go_simp);refine zT 16 rfl o.out ?_;(try go_simp);refine zO 17 rfl λK' t=> ?_;go_simp;obtain⟨G,hG⟩:=zE WF.heap.size;obtain⟨z,J⟩:=zE ((WF.alloc (tA #[Z U (V.length:aw)] 3)).drew);(try rw[hG]);(try rw[J]);have A:aE WF.heap.size WF z:=by rw[<-J];exact((aq _ _).alloc (cd _) _).drew
   have tS:z.heap[G]?=tf (tA #[Z U (V.length:aw)] 3 (0,0)):=by rw[<-J,<-hG];exact alloc_at _ _
   have ws:R z:=up.out _ A;refine t _ _ ws ?_;clear t;(try go_simp);refine zO 18 rfl λK' t=> ?_;have tP:aH (λx:bl×bj=>#[Z U (x.2:aw)]) 1 z z.heap.size (tf ⟨b2,wk,wl⟩) S:=by rw[<-vp];exact yd.out.stay (Ext.of_below_size (M:=λ_=>lj) A) (λ_ _ _ h=>h)
   have tU:=iN (f:=λx:bl×bj=>eS .i64 (x.2:aw)) tP;refine bI (.tmp 76) (.tmp 78) 35 rfl 3 i0 _ 1 8 gv uv ux vc vd rfl (by decide) (tf ⟨b2,wk,wl⟩) S.length S.length (S.map λx:bl×bj=>eS .i64 (x.2:aw)) rfl (λh=>by cases h) (jM _ _) tU ⟨G,0,th⟩ 1 1 [Z U (V.length:aw)] rfl rfl (λjj uu hu=>by rw[cU,cI,bt _ _ _ _ _ _ tS];simpa using hu) (by simp[cn]) (by omega) (by unfold du;omega) (by omega) ?_;intro v9 tD tE tW;have ua:Ext (λ_=>lj) z tD:=Ext.of_grown tW (λq hq=>by cases hq);have K:aE WF.heap.size WF tD:=A.trans (ua.below A.size (λq h=>h.elim));have tG:R tD:=up.out _ K;obtain⟨xf,cW,ud⟩:=aC tE;subst ud;refine t _ _ tG ?_;clear t;(try go_simp);refine zT 19 rfl o.out ?_;(try go_simp);refine zT 20 rfl o.out ?_;(try go_simp);have xj:=(K.block m vh).trans ub.out;have vy:=(rowAt xj 13 rfl).2;have x0:=o.out tD tG;refine zK rfl λK' t=> ?_;go_simp;refine t _ _ ?_;clear t;refine⟨by kernel_rfl, ?_⟩;have ur:dz m p L X V2 I2 (S++[(nm,V.length)]) O w (tD.setCell ⟨m,13,th⟩ (tn xf (S.length+1) cW)):=nN yp.out yy.out yW.out tR.out ya.out ub.out yb.out K (by have:=A.size;exact A.size) (by rw[et];exact tE) ye;have xl:=zH ur;clear ur;go_wp2
   go_end0
   exact⟨rfl,xl.out⟩
def Ch (m:bj)(p:Pg)(L:bj)(X:Fx)(V:bp Ty)(I:bp fU)(S:bp (bl×bj))(s:Sm)(V2:bp Ty)(I2:bp fU)(d:bp (bl×bj)):Prop:=
 ∀(W:World)(O:bj->Prop)(f:Sl),Mk m p L X V I S O f W->fj am 180 #[tr (tf ⟨m,0,th⟩),tv s.cells] W λe w'=>e= tB (.tuple #[])/\dz m p L X V2 I2 d O W w'
inductive ku (m:bj) (p:Pg) (L:bj) (X:Fx):bp Ty->bp fU->bp (bl×bj)->bp Sm->bp Ty->bp fU->Prop
 |nil (V:bp Ty) (I:bp fU) (S:bp (bl×bj)):ku m p L X V I S [] V I
 |cons (V V1 V2:bp Ty) (I I1 I2:bp fU) (S S1:bp (bl×bj)) (s:Sm) (l:bp Sm):Ch m p L X V I S s V1 I1 S1->ku m p L X V1 I1 S1 l V2 I2->ku m p L X V I S (s::l) V2 I2
def GZ (m:bj)(p:Pg)(L:bj)(X:Fx)(V2:bp Ty)(I2:bp fU)(O:bj->Prop)(w:World)(k:cw)(wr:World):Prop:=
 ∃(j:bj) (V:bp Ty) (I:bp fU) (S:bp (bl×bj)) (d:bj->Prop) (s:Sl),k= Z U (j:aw)/\j<=p.ss.length/\ku m p L X V I S (p.ss.drop j) V2 I2/\Mk m p L X V I S d s wr/\Ext (λq=>q=m\/O q) w wr/\∀k,d k->O k\/w.heap.size<=k
theorem ut {m:bj}{p:Pg}{L:bj}{X:Fx}{V V2:bp Ty}{I I2:bp fU}{O:bj->Prop}{s:Sl}(w:World)(h:Mk m p L X V I [] O s w)(u:ku m p L X V I [] p.ss V2 I2)(ux:p.ss.length<=1000)(tD:p.ss≠[]):
  fj am 132 #[tr (tf ⟨m,0,th⟩),tn p.bA p.ss.length p.bC] w λe w'=>e= tB (.tuple #[])/\dz m p L X V2 I2 [] O w w':=by
 obtain⟨b,vc,K,vd,_⟩:=h.pg.st tD;have vf:=ae h.row;have tE:w.cell? ⟨m,12,th⟩=tf (tn s.sA 0 s.sC):=(rowAt h.row 12 rfl).1;have H:=zH h;have HA:=zH K;have HK:=zH u;have HL:=h.hm;rw[K];clear h K u tD;go_enter func132,ntmps132
 go_upto_region 2 with(fail)
 clear tE
 go_loopw [5] (λk wr=>GZ m p L X V2 I2 O w k wr) (λk _=>p.ss.length-(dp k).toNat)
 case atStart=>exact⟨0,V,I,[],O,s,rfl,cM _,HK.out,H.out,Ext.refl _ _,λk u=> .inl u⟩
 case round=>
  obtain⟨j,V1,I1,S1,R,f,rfl,hj,A,g,W,ho⟩:=hrel;have ud:=zH g;have E:=zH W;have G:=zH ho
  by_cases v:j<p.ss.length
  ·have vh:(j:aw)<(p.ss.length:aw):=by omega
   obtain⟨x,d⟩:∃x,p.ss[j]?=tf x:=⟨_,ap v⟩
   have tG:p.ss.drop j=x::p.ss.drop (j+1):=by
    rw[ij v];have:p.ss[j]=x:=by rw[ap v] at d;exact cy d
    rw[this]
   rw[tG] at A;cases A with
   |cons _ V3 _ _ I3 _ _ S3 _ _ hst tM=>
    have tP:=ci d;obtain⟨⟨ao,n,cp,hE⟩,_⟩:=g.pg.sm tP;obtain⟨b',vm,h1,h2,o⟩:=g.pg.st (by intro e;rw[e] at v;simp at v);rw[HA.out] at h1;simp only[dj,eV,and_true] at h1;obtain⟨rfl,rfl⟩:=h1;have k0:=o j x d 0 _ rfl;have k1:=o j x d 1 _ rfl;have k2:=o j x d 2 _ rfl;have k3:=o j x d 3 _ rfl;have k4:=o j x d 4 _ rfl;have k5:=o j x d 5 _ rfl;have k6:=o j x d 6 _ rfl;have k7:=o j x d 7 _ rfl;have k8:=o j x d 8 _ rfl;rw[i7] at k0;rw[hE] at k4;have vp:b<wr.heap.size:=cD h2 g.pg.lo;have vq:j<=p.bC:=by have:=g.pg.cb;omega
    have J:=hst wr R f g;unfold Sm.cells at J;rw[hE] at J;have ue:=zH J;have up:=zH tM;clear g W ho d tG hst tM tP hE o J
    go_wp2_with (go_at_call 180;refine ue.out.mono ?_;rintro en w5 ⟨rfl,O5,s5,tR,tS,tU⟩;have tW:=zH tR;have ua:=zH tS;have ub:=zH tU;clear tR tS tU)
    go_roundw
    case rel=>
     have vr:dz m p L X V3 I3 S3 O w w5:=dz.trans E.out G.out ⟨O5,s5,tW.out,ua.out,ub.out⟩;refine⟨j+1,V3,I3,S3,O5,s5,by go_num,v,up.out,tW.out,E.out.trans ua.out (λq t=> ?_),λk u=> ?_⟩
     ·rcases t with h|h
      ·exact .inl (.inl h)
      ·rcases G.out q h with h|h
       ·exact .inl (.inr h)
       ·exact .inr h
     ·rcases ub.out k u with h|h
      ·exact G.out k h
      ·exact .inr (eN E.out.size h)
    case measure=>simp[dp];omega
  ·have ur:j=p.ss.length:=by omega
   have uv:p.ss.drop j=[]:=by rw[ur];simp
   rw[uv] at A;cases A;have y:=g.row;have vt:=ae y;have f12:wr.frozen? ⟨m,12,th⟩=tj:=(rowAt y 12 rfl).2;have tE:wr.cell? ⟨m,12,th⟩=tf (tn f.sA S1.length f.sC):=(rowAt y 12 rfl).1;have f13:wr.frozen? ⟨m,13,th⟩=tj:=(rowAt y 13 rfl).2;have vu:wr.cell? ⟨m,13,th⟩=tf (tn f.wA S1.length f.wC):=(rowAt y 13 rfl).1;have vx:=g.cS;clear g W y ho;go_wp2
   go_end0
   have z:Ext (·=m) wr ((wr.setCell ⟨m,12,th⟩ (tn f.sA 0 f.sC)).setCell ⟨m,13,th⟩ (tn f.wA 0 f.wC)):=(Ext.set1 wr m 12 _).trans (Ext.set1 _ m 13 _) (λq h=> .inl h);have k:=ud.out;have uc:∀q,R q->q≠m:=λq h=>by have:=(k.ol q h).1;omega
   refine⟨rfl,R,f,⟨?_,k.pg.ext z (λq t e=>by omega),k.hm,ah k.vars z (λq t e=>uc q (k.ov q t) e),ah k.ins z (λq t e=>uc q (k.oi q t) e),k.dis,k.ov,k.oi,λq t=>⟨(k.ol q t).1,cD (k.ol q t).2 z.size⟩,λh=>fz rfl h,λh=>fz rfl h,λa h=>fz rfl h,k.lV,k.lI,by simp,⟨cM _,cM _⟩⟩,E.out.trans z (λq h=> .inl (.inl h)),G.out⟩;exact bk _ m 13 _ _ _ (bk wr m 12 _ _ _ k.row)
def fU.ins (i:fU):Ins:=⟨i.op,i.d,i.a,0,i.f,i.n,⟨#[]⟩,tn th 0 0,tn th 0 0,0,0,i.ln,i.cl,[]⟩
def CO (y:Ty):Vr:=⟨y.1,y.2,0⟩
def mQ (p:Pg)(V:bp Ty)(I:bp fU)(s:Sl):Fn:=
 ⟨⟨p.nm,0,s.vA,V.length,s.vC,p.ret.1,p.ret.2,0,th,0,0,s.iA,s.iC,I.map fU.ins⟩,V.map CO,[],I.map λ_=>[]⟩
def Fg (p:Pg):St:=⟨⟨p.snm,p.fA,p.fs.length,p.fC,p.sl,p.sc⟩,p.fs⟩
def ji (p:Pg)(V:bp Ty)(I:bp fU)(s:Sl)(fA:bj)(fC:bj):Mo:=⟨tf ⟨p.pA,0,th⟩,p.pC,tf ⟨fA,0,th⟩,fC,[Fg p],[mQ p V I s]⟩
def X0 (p:Pg):Fx:=⟨p.ret,p.nm,Z U 0,tt p.ret.1,tm p.ret.2,Z U 0,tn th 0 0,tn th 0 0,tn th 0 0⟩
def F3 (p:Pg)(d e:bj)(s:Sl):bp cw:=[tm p.nm,Z U 0,tn s.vA d s.vC,tt p.ret.1,tm p.ret.2,Z U 0,tn th 0 0,tn s.iA e s.iC]
theorem CP (I:bp fU):I.flatMap Gz=(I.map fU.ins).flatMap λx=>x.cells.toList:=by
 induction I with
 |nil=>rfl
 |cons a I ih=>rw[fm,li,fm,ih];rfl
theorem CQ (V:bp Ty):V.flatMap GA=(V.map CO).flatMap λx=>x.cells.toList:=by
 induction V with
 |nil=>rfl
 |cons a V ih=>rw[fm,li,fm,ih];rfl
theorem Ee {p:Pg}{L:bj}{V:bp Ty}{I:bp fU}{s:Sl}{w:World}{fA fC v z q:bj}(g:jh p L w)(A:p.nm.size<=du)(E:p.snm.size<=du)(G:∀f∈p.fs,f.nm.size<=du)
  (J:w.ownsRow v 34 3 (tn s.vA V.length s.vC) V.length (V.flatMap GA))(hi:w.ownsRow z 42 13 (tn s.iA I.length s.iC) I.length (I.flatMap Gz))
  (hf:w.ownsRow q 38 8 (tn (tf ⟨fA,0,th⟩) 1 fC) 1 (F3 p V.length I.length s))(lV:V.length<=1000)(lI:I.length<=1000):(ji p V I s fA fC).inn w:=by
 have t:aH Vr.cells 3 w w.heap.size s.vA (V.map CO):=eO (cells:=Vr.cells) (m:=3) (λ_=>rfl) (by rw[<-CQ];exact J) (by simp);have K:dL w w.heap.size s.iA (I.map fU.ins):=eO (cells:=Ins.cells) (m:=13) (λ_=>rfl) (by rw[<-CP];exact hi) (by simp);have tG:du=9223372036854775807:=rfl;refine⟨λ_=>⟨p.pA,0,rfl,cD g.pA g.lo,λi x d k u R=> ?_⟩,eO (cells:=Fn.cells) (m:=8) (λ_=>rfl) (l:=[mQ p V I s]) (n:=1) (c:=fC) (base:=q) (e:=38) ?_ rfl,λx d=> ?_,λx d=> ?_,by simp[ji,du],by simp[ji,du]⟩
 ·cases i with
  |succ i=>simp[ji] at d
  |zero=>
   obtain rfl:Fg p=x:=by simpa[ji] using d
   have:=g.s k u R;simpa using this
 ·simp only[fm,List.flatMap_nil,eA]
  have W:(mQ p V I s).cells.toList=F3 p V.length I.length s:=by simp[mQ,Fn.cells,dP.cells,F3]
  rw[W];exact hf
 ·obtain rfl:x=Fg p:=by simpa[ji] using d
  exact⟨rfl,λtD=>(let ⟨b,tE,j,o,h3⟩:=g.fd tD;⟨b,tE,j,cD o g.lo,h3⟩),by have:=g.lfs;show p.fs.length<=_;omega,E,G⟩
 ·obtain rfl:x=mQ p V I s:=by simpa[ji] using d
  refine⟨⟨K,λx d=> ?_,by simp only[mQ,eq];omega,⟨V.map CO,by simp[mQ],t⟩,by simp only[mQ];omega,by simp[mQ,du],⟨[],rfl,λh=>fz rfl h⟩⟩,A,by simp[mQ],t,rfl,λh=>fz rfl h,by simp[mQ],λk i l j o=> ?_⟩
  ·simp only[mQ,fL] at d
   obtain⟨y,_,rfl⟩:=d;exact⟨⟨⟨th,0,rfl⟩,th,0,0,rfl⟩,th,0,rfl,λh=>fz rfl h⟩
  ·simp only[mQ,qs,gE] at j o
   obtain⟨y,_,rfl⟩:=j;obtain⟨_,_,rfl⟩:=o;exact⟨th,0,rfl,λh=>fz rfl h⟩
def Ci (w:World)(p:Pg)(V:bp Ty)(I:bp fU)(e:Ending)(w':World):Prop:=
 ∃s fA fC,e= tB (.tuple #[tv (ji p V I s fA fC).cells,tv #[Z U 0,Z U 0,Z U 0,Z U 0]])/\w'.ownsRow w.heap.size 34 3 (tn s.vA V.length s.vC) V.length (V.flatMap GA)/\w'.ownsRow w.heap.size 42 13 (tn s.iA I.length s.iC) I.length (I.flatMap Gz)/\w'.ownsRow w.heap.size 38 8 (tn (tf ⟨fA,0,th⟩) 1 fC) 1 (F3 p V.length I.length s)/\aE w.heap.size w w'
theorem AZ:(am.info? 38).map (λi=>(i.zero,i.size,i.bytes))=tf (tf (tv #[tm ⟨#[]⟩,Z U 0,tn th 0 0,tt tj,tm ⟨#[]⟩,Z U 0,tn th 0 0,tn th 0 0]),8,128):=by kernel_rfl
theorem mR {w:World}:∀(c:dl cw),c.size=4->(dd ⟨w.heap.size,0,th⟩ [Z U 0,Z U 0,Z U 0,Z U 0] 0).run am (w.alloc (tA c 113))= .ok () (w.alloc (tA #[Z U 0,Z U 0,Z U 0,Z U 0] 113)):=λc d=>
 cr (P:=am) w 113 c #[Z U 0,Z U 0,Z U 0,Z U 0] (by show _=tf 4;kernel_rfl) d (by simp[cn])
theorem Ef {p:Pg}{w:World}:∀(c:dl cw),c.size=7->(dd ⟨w.heap.size,0,th⟩ [tm p.nm,tn th 0 0,tt p.ret.1,tm p.ret.2,tn p.bA p.ss.length p.bC,Z U p.gl,Z U p.gc] 0).run am (w.alloc (tA c 233))= .ok () (w.alloc (tA #[tm p.nm,tn th 0 0,tt p.ret.1,tm p.ret.2,tn p.bA p.ss.length p.bC,Z U p.gl,Z U p.gc] 233)):=λc d=>
 cr (P:=am) w 233 c #[tm p.nm,tn th 0 0,tt p.ret.1,tm p.ret.2,tn p.bA p.ss.length p.bC,Z U p.gl,Z U p.gc] (by show _=tf 7;kernel_rfl) d (by simp[cn])
theorem Eg {a:cC fg}{c1:bj}{w:World}:∀(c:dl cw),c.size=2->(dd ⟨w.heap.size,0,th⟩ [tn a 1 c1,tn th 0 0] 0).run am (w.alloc (tA c 25))= .ok () (w.alloc (tA #[tn a 1 c1,tn th 0 0] 25)):=λc d=>
 cr (P:=am) w 25 c #[tn a 1 c1,tn th 0 0] (by show _=tf 2;kernel_rfl) d (by simp[cn])
structure GU (N E:bj)(p:Pg)(L:bj)(w W:World)(out:cw):Prop where
 pg:jh p L W
 lN:L<=N
 r0:W.heap[N]?=tf (tA p.cells 179 (0,0))
 r1:W.heap[N+1]?=tf (tA #[tn th 0 0,tn th 0 0] 25 (0,0))
 r2:W.heap[N+2]?=tf (tA #[Z U 0,Z U 0,Z U 0,Z U 0] 113 (0,0))
 rE:W.heap[E]?=tf (tA #[tn (tf ⟨p.pA,0,th⟩) 1 p.pC,out] 25 (0,0))
 hE:N+2<E
 low:aE N w W
def He (N E:bj)(p:Pg)(L:bj)(V:bp Ty)(I:bp fU)(w:World)(k:cw)(W:World):Prop:=
 (k= Z U 0/\GU N E p L w W (tn th 0 0))\/(k= Z U 1/\∃s fA fC,GU N E p L w W (tn (tf ⟨fA,0,th⟩) 1 fC)/\W.ownsRow (E+1) 34 3 (tn s.vA V.length s.vC) V.length (V.flatMap GA)/\W.ownsRow (E+1) 42 13 (tn s.iA I.length s.iC) I.length (I.flatMap Gz)/\W.ownsRow (E+1) 38 8 (tn (tf ⟨fA,0,th⟩) 1 fC) 1 (F3 p V.length I.length s))
theorem uw {p:Pg}{L:bj}{V:bp Ty}{I:bp fU}(w:World)(h:jh p L w)(ho:Fe p)(hst:∀m,ku m p L (X0 p) [] [] [] p.ss V I)(lV:V.length<=300)(lI:I.length<=1000):
  fj am 93 #[tv p.cells] w (Ci w p V I):=by
 obtain⟨N,x⟩:=zE w.heap.size;have A2:L<=N:=by have:=h.lo;omega
 obtain⟨o,K⟩:=zE (((w.alloc (tA #[tn (tf ⟨p.pA,0,th⟩) 1 p.pC,tn (tf ⟨p.qA,0,th⟩) 1 p.qC] 179)).alloc (tA #[tn th 0 0,tn th 0 0] 25)).alloc (tA #[Z U 0,Z U 0,Z U 0,Z U 0] 113));have vr:aE N w o:=by rw[<-K,<-x];exact(((aq _ _).alloc (cd _) _).alloc (by simp) _).alloc (by simp;omega) _
 have xt:o.heap.size=N+3:=by rw[<-K];simp[x]
 have vt:o.heap[N]?=tf (tA #[tn (tf ⟨p.pA,0,th⟩) 1 p.pC,tn (tf ⟨p.qA,0,th⟩) 1 p.qC] 179 (0,0)):=by
  rw[<-K];refine(cE _ _ N (by simp;omega)).trans ?_;rw[<-x];exact i8 _ _ _
 have tP:o.heap[N+1]?=tf (tA #[tn th 0 0,tn th 0 0] 25 (0,0)):=by
  rw[<-K];refine(cE _ _ (N+1) (by simp;omega)).trans ?_;rw[<-x];exact im _ _ _
 have tR:o.heap[N+2]?=tf (tA #[Z U 0,Z U 0,Z U 0,Z U 0] 113 (0,0)):=by
  rw[<-K];have:=alloc_at ((w.alloc (tA #[tn (tf ⟨p.pA,0,th⟩) 1 p.pC,tn (tf ⟨p.qA,0,th⟩) 1 p.qC] 179)).alloc (tA #[tn th 0 0,tn th 0 0] 25)) (tA #[Z U 0,Z U 0,Z U 0,Z U 0] 113);simpa[x] using this
 have vu:=h.grow (show aE w.heap.size w o by rw[x];exact vr);have A3:cg (zP 130 #[tv #[tn (tf ⟨p.pA,0,th⟩) 1 p.pC,tn (tf ⟨p.qA,0,th⟩) 1 p.qC]] o (tv #[Z U 0,Z U 0,Z U 0,Z U 0])):=uq o vu ho;have A4:=zH vu;have HO:=zH ho;have A5:=zH hst;have A6:=zH K;have Bk:=zH vr;have tE:=zH xt;have xF:=zH vt;have vx:=zH tP;have vy:=zH tR;obtain⟨⟨y,z⟩,_,xT⟩:=bZ vt;unfold Pg.cells;clear h ho hst K vr vt tP tR vu xt;go_enter func93,ntmps93
 go_upto_region 1 with(fail)
 rw[A6.out]
 go_upto_region 2 with(go_at_call 130;refine A3.out.mono ?_;rintro en w4 ⟨rfl,ya⟩;have Bm:=mR (w:=w4);have ud:=zH ya;clear ya)
 obtain⟨D,hD⟩:=zE w4.heap.size;obtain⟨W5,tS⟩:=zE (w4.alloc (tA #[Z U 0,Z U 0,Z U 0,Z U 0] 113));rw[hD,tS];have yb:=gy tS;have yd:W5.heap[D]?=tf (tA #[Z U 0,Z U 0,Z U 0,Z U 0] 113 (0,0)):=by rw[<-tS,<-hD];exact alloc_at _ _
 have we:aE o.heap.size o W5:=ud.out.trans (yb.mono ud.out.size);have ye:D+1=W5.heap.size:=by rw[<-tS];simp[hD]
 have Bs:N+2<D:=by have:=ud.out.size;have:=tE.out;omega
 clear Bm y z hD tS yb xT;have yi:=(we.block N (by rw[tE.out];omega)).trans xF.out;obtain⟨⟨y,z⟩,_,By⟩:=bZ yi;obtain⟨⟨e0,e1,e2,e3⟩,_,BE⟩:=l7 yd;have BT:=Eg (a:=tf ⟨p.pA,0,th⟩) (c1:=p.pC) (w:=W5);obtain⟨E,hE⟩:=zE W5.heap.size;have wg:=zH we;have yk:=zH ye;clear we yd yi ye
 go_upto_region 6 with(fail)
 clear BT;obtain⟨W6,ue⟩:=zE (W5.alloc (tA #[tn (tf ⟨p.pA,0,th⟩) 1 p.pC,tn th 0 0] 25));rw[ue];(try rw[hE]);have yp:=gy ue;have yq:W6.heap[E]?=tf (tA #[tn (tf ⟨p.pA,0,th⟩) 1 p.pC,tn th 0 0] 25 (0,0)):=by rw[<-ue,<-hE];exact alloc_at _ _
 have tG:aE o.heap.size o W6:=wg.out.trans (yp.mono wg.out.size);have BY:cg (GU N E p L w W6 (tn th 0 0)):=⟨A4.out.grow tG,A2,(tG.block N (by rw[tE.out];omega)).trans xF.out,(tG.block (N+1) (by rw[tE.out];omega)).trans vx.out,(tG.block (N+2) (by rw[tE.out];omega)).trans vy.out,yq,by have:=yk.out;omega,Bk.out.trans (tG.mono (by rw[tE.out];omega))⟩
 clear yp yq tG ue e0 e1 e2 e3 y z BE By Bs yk wg hE ud
 go_loopw [6] (λk wr=>He N E p L V I w k wr) (λk _=>1-(dp k).toNat)
 case atStart=>exact .inl ⟨rfl,BY.out⟩
 case round=>
  obtain⟨A,yr⟩:=zE wr;rw[yr] at hrel⊢;clear yr wr;rcases hrel with⟨rfl,j⟩|⟨rfl,s,fA,fC,j,hv,hi,hf⟩
  ·have up:=j.pg
   obtain⟨⟨y,z⟩,_,yv⟩:=bZ j.r0;have hf:=up.f;have q0:=hf 0 _ rfl;have q1:=hf 1 _ rfl;have q2:=hf 2 _ rfl;have q3:=hf 3 _ rfl;have q4:=hf 4 _ rfl;have q5:=hf 5 _ rfl;have q6:=hf 6 _ rfl;have DA:p.qA<A.heap.size:=cD up.qA up.lo;have B4:=Ef (p:=p) (w:=A);have d:=zH j;clear j up hf
   go_upto_region 9 with(fail)
   clear B4 y z q0 q1 q2 q3 q4 q5 q6;obtain⟨FB,tU⟩:=zE A.heap.size;obtain⟨W7,tW⟩:=zE (A.alloc (tA #[tm p.nm,tn th 0 0,tt p.ret.1,tm p.ret.2,tn p.bA p.ss.length p.bC,Z U p.gl,Z U p.gc] 233));rw[tU,tW];have wj:=gy tW;have wk:W7.heap[FB]?=tf (tA #[tm p.nm,tn th 0 0,tt p.ret.1,tm p.ret.2,tn p.bA p.ss.length p.bC,Z U p.gl,Z U p.gc] 233 (0,0)):=by rw[<-tW,<-tU];exact alloc_at _ _
   have yy:=(wj.block N yv).trans d.out.r0;have yW:W7.heap.size=FB+1:=by rw[<-tW];simp[tU]
   obtain⟨⟨y,z⟩,_,B5⟩:=bZ yy;obtain⟨⟨g0,g1,g2,g3,g4,g5,g6⟩,_,B6⟩:=ed wk;obtain⟨M,hM⟩:=zE W7.heap.size;have zc:=zH wj;have zd:=zH wk;have B7:=zH yW;have wl:=zH tU;clear tW wj wk yy yW tU
   go_upto_region 11 with(fail)
   obtain⟨W8,ur⟩:=zE (W7.alloc (tA (Ff p (X0 p) ⟨th,0,th,0,th,0,th,0⟩ 0 0 0) 236));have uv:=ur;unfold Ff X0 at uv;simp only at uv;rw[uv];(try rw[hM]);have ux:=gy ur;have zj:W8.heap[M]?=tf (tA (Ff p (X0 p) ⟨th,0,th,0,th,0,th,0⟩ 0 0 0) 236 (0,0)):=by rw[<-ur,<-hM];exact alloc_at _ _
   have ws:aE A.heap.size A W8:=zc.out.trans (ux.mono zc.out.size);have DB:FB+1=M:=by have:=B7.out;omega
   have B8:L<=M:=by have:=d.out.pg.lo;have:=wl.out;omega
   have zp:Mk M p L (X0 p) [] [] [] (λ_=>lj) ⟨th,0,th,0,th,0,th,0⟩ W8:=⟨zj,d.out.pg.grow ws,B8,World.ownsRow_nil _ _ _ _,World.ownsRow_nil _ _ _ _,λk h=>by simp[eL] at h,λk h=>by simp[eL] at h,λk h=>by simp[eL] at h,λk h=>h.elim,λh=>fz rfl h,λh=>fz rfl h,λa h=>fz rfl h,by simp,by simp,by simp,by simp⟩
   have B9:=zH (ut W8 zp (A5.out M) HO.out.ss HO.out.ne);have zr:=zH ws;have DE:=zH ((ux.block FB (by omega)).trans zd.out);have zs:=(ux.block FB (by omega)).trans zd.out;clear y z g0 g1 g2 g3 g4 g5 g6 B6 B5;obtain⟨⟨g0,g1,g2,g3,g4,g5,g6⟩,_,Cd⟩:=ed zs;clear ur uv ux zj ws zp zs
   go_loopw [9] (λk wr=>k= Z U 0/\wr=W8) (λ_ _=>0)
   case atStart=>exact⟨rfl,rfl⟩
   case round=>
    obtain⟨rfl,hq⟩:=hrel;rw[hq];clear hq wr
    go_upto_region 16 with(go_at_call 132;refine B9.out.mono ?_;rintro en w9 ⟨rfl,O9,g,xf,zv,An⟩;have ua:=zH xf;have At:=zH zv;have DG:=zH An;have u:=xf.row;clear xf zv An)
    have Cl:w9.cell? ⟨M,15,th⟩=tf (Z U 0):=(rowAt u 15 rfl).1;have c4:w9.cell? ⟨M,4,th⟩=tf (tm p.nm):=(rowAt u 4 rfl).1;have c5:w9.cell? ⟨M,5,th⟩=tf (Z U 0):=(rowAt u 5 rfl).1;have c6:w9.cell? ⟨M,6,th⟩=tf (tn g.vA V.length g.vC):=(rowAt u 6 rfl).1;have c7:w9.cell? ⟨M,7,th⟩=tf (tt p.ret.1):=(rowAt u 7 rfl).1;have c8:w9.cell? ⟨M,8,th⟩=tf (tm p.ret.2):=(rowAt u 8 rfl).1;have c9:w9.cell? ⟨M,9,th⟩=tf (Z U 0):=(rowAt u 9 rfl).1;have Cp:w9.cell? ⟨M,10,th⟩=tf (tn th 0 0):=(rowAt u 10 rfl).1;have tM:w9.cell? ⟨M,11,th⟩=tf (tn g.iA I.length g.iC):=(rowAt u 11 rfl).1;have CA:=ae u;clear u g0 g1 g2 g3 g4 g5 g6 Cd;have DH:decide ((300:aw)<(V.length:aw))=tj:=cm (by omega);have DM:decide ((3000:aw)<(I.length:aw))=tj:=cm (by omega);have DO:(V.length:aw)<=300:=by omega
    have DP:(I.length:aw)<=3000:=by omega
    go_upto_region 20 with(fail)
    have vc:w9.heap[E]?=tf (tA #[tn (tf ⟨p.pA,0,th⟩) 1 p.pC,tn th 0 0] 25 (0,0)):=At.out.heap ((zr.out.block E (ae d.out.rE)).trans d.out.rE) (by have:=ae d.out.rE;have:=wl.out;rintro(h|h);omega;exact h);have Ax:=ae vc;obtain⟨S1,xj⟩:=zE ((λW'=>aE w9.heap.size w9 W'):World->Prop);have AD:∀W,S1 W->aE w9.heap.size w9 W:=λW h=>by rw[<-xj] at h;exact h
    have xl:∀W,aE w9.heap.size w9 W->S1 W:=λW h=>by rw[<-xj];exact h
    have DQ:S1 w9.drew:=xl _ (aq _ _).drew;have AE:∀W,S1 W->W.cell? ⟨E,1,th⟩=tf (tn th 0 0)/\W.cell? ⟨M,4,th⟩=tf (tm p.nm)/\W.cell? ⟨M,5,th⟩=tf (Z U 0)/\W.cell? ⟨M,6,th⟩=tf (tn g.vA V.length g.vC)/\W.cell? ⟨M,7,th⟩=tf (tt p.ret.1)/\W.cell? ⟨M,8,th⟩=tf (tm p.ret.2)/\W.cell? ⟨M,9,th⟩=tf (Z U 0)/\W.cell? ⟨M,10,th⟩=tf (tn th 0 0)/\W.cell? ⟨M,11,th⟩=tf (tn g.iA I.length g.iC)/\M<W.heap.size/\E<W.heap.size:=λW hW=>by
     have hb:=AD W hW;have r1:=(hb.block M CA).trans ua.out.row;have r2:=(hb.block E Ax).trans vc;exact⟨(rowAt r2 1 rfl).1,(rowAt r1 4 rfl).1,(rowAt r1 5 rfl).1,(rowAt r1 6 rfl).1,(rowAt r1 7 rfl).1,(rowAt r1 8 rfl).1,(rowAt r1 9 rfl).1,(rowAt r1 10 rfl).1,(rowAt r1 11 rfl).1,ae r1,ae r2⟩
    have R:=zH AE;have AF:=zH xl;have CC:=zH vc;obtain⟨i0,CD,CH,CM,CN⟩:=m6 AZ;clear xj AD xl AE vc Cl c4 c5 c6 c7 c8 c9 Cp tM;refine aj 9 S1 (by kernel_rfl) ?_;refine zT 0 rfl R.out ?_;(try go_simp);refine zT 1 rfl R.out ?_;(try go_simp);refine zT 2 rfl R.out ?_;(try go_simp);refine zT 3 rfl R.out ?_;(try go_simp);refine zT 4 rfl R.out ?_;(try go_simp);refine zT 5 rfl R.out ?_;(try go_simp);refine zO 6 rfl λK' J=> ?_;go_simp;obtain⟨G,hG⟩:=zE w9.heap.size;obtain⟨xo,vd⟩:=zE ((w9.alloc (tA #[tm p.nm,Z U 0,tn g.vA V.length g.vC,tt p.ret.1,tm p.ret.2,Z U 0,tn th 0 0,tn g.iA I.length g.iC] 38)).drew);(try rw[hG]);(try rw[vd]);have ub:aE w9.heap.size w9 xo:=by rw[<-vd];exact((aq _ _).alloc (cd _) _).drew
    have AH:xo.heap[G]?=tf (tA #[tm p.nm,Z U 0,tn g.vA V.length g.vC,tt p.ret.1,tm p.ret.2,Z U 0,tn th 0 0,tn g.iA I.length g.iC] 38 (0,0)):=by rw[<-vd,<-hG];exact alloc_at _ _
    have CT:=ub.size;refine J _ _ (AF.out _ ub) ?_;clear J;(try go_simp);refine zO 7 rfl λK' J=> ?_;refine aG (.tmp 121) (.tmp 126) 23 rfl (E+1) 38 i0 _ 8 128 underlying23 CD CH CM CN rfl (by decide) (tn th 0 0) 0 [] rfl (World.ownsRow_nil _ _ _ _) (tf ⟨G,0,th⟩) 1 1 (F3 p V.length I.length g) rfl rfl (λh=>by cases h) (λad C4 jj uu hu=>by
     obtain rfl:(⟨G,0,th⟩:fg)=ad:=by simpa using C4
     rw[cU,cI,bt _ _ _ _ _ _ AH];simpa[F3] using hu) (by simp[F3,cn]) (by unfold du;omega) (by omega) (by omega) ?_
    intro DS tD vf AI C5;have AK:Ext (λ_=>lj) xo tD:=Ext.of_grown AI (λq hq=>by cases hq);have vh:aE w9.heap.size w9 tD:=ub.trans (AK.below ub.size (λq h=>h.elim));have AM:S1 tD:=AF.out _ vh;obtain⟨vm,tM,C6,D0,D1⟩:=fq (n:=0) (by simpa using vf);subst C6;refine J _ _ AM ?_;clear J;(try go_simp);refine zT 8 rfl R.out ?_;(try go_simp);have vp:=(vh.block E Ax).trans CC.out;have C7:=(rowAt vp 1 rfl).2;have Dd:=(rowAt vp 1 rfl).1;refine zK rfl λK' J=> ?_;go_simp;refine J _ _ ?_;clear J;refine⟨by kernel_rfl, ?_⟩;obtain⟨WF,uc⟩:=zE (tD.setCell ⟨E,1,th⟩ (tn (tf ⟨vm,0,th⟩) (0+1) tM));have xp:=uc;simp only[cI] at xp;(try rw[uc]);(try rw[xp]);have xr:Ext (·=E) tD WF:=by rw[<-uc];exact Ext.set1 tD E 1 _
    have AN:WF.heap[E]?=tf (tA #[tn (tf ⟨p.pA,0,th⟩) 1 p.pC,tn (tf ⟨vm,0,th⟩) 1 tM] 25 (0,0)):=by rw[<-uc];exact bk tD E 1 _ _ _ vp
    have vq:Ext (·=E) w9 WF:=(Ext.of_below_size vh).trans xr (λq h=> .inl h);have v:Ext (λq=>q=E\/q=M) A WF:=((Ext.of_below_size zr.out).trans (At.out.mono (λq h=>by rcases h with h|h;exact .inr h;exact h.elim)) (λq h=> .inl h)).trans (vq.mono (λq h=> .inl h)) (λq h=> .inl h);have D3:=ae d.out.rE;have D4:=wl.out;have Dg:=d.out.hE;have Do:=d.out.lN;have AS:=d.out.pg.ext v (λk t h=>by rcases h with h|h<;>omega);have AT:GU N E p L w WF (tn (tf ⟨vm,0,th⟩) 1 tM):=⟨AS,Do,v.heap d.out.r0 (by rintro(h|h)<;>omega),v.heap d.out.r1 (by rintro(h|h)<;>omega),v.heap d.out.r2 (by rintro(h|h)<;>omega),AN,Dg,d.out.low.trans (v.below (by omega) (λq h=>by rcases h with h|h<;>omega))⟩
    have Ds:cg (He N E p L V I w (Z U 1) WF):= .inr ⟨rfl,g,vm,tM,AT,aT (ah ua.out.vars vq (λk t e=>by have:=(ai ua.out.vars t).1;omega)) (by omega),aT (ah ua.out.ins vq (λk t e=>by have:=(ai ua.out.ins t).1;omega)) (by omega),ah (by simpa using vf) xr (λk t e=>by have:=(ai vf t).1;omega)⟩;clear uc xp xr AN vq v AS AT vf AI C5 AK vh AM C7 Dd vp AH vd ub hG CT;go_wp2;go_roundw
    case rel=>exact Ds.out
    case measure=>simp[dp]
  ·obtain⟨⟨y,z⟩,_,yv⟩:=bZ j.r0
   obtain⟨⟨m0,m1⟩,_,Ek⟩:=bZ j.rE;obtain⟨⟨e0,e1⟩,⟨f0,f1⟩,EV⟩:=bZ j.r1;obtain⟨⟨d0,d1,d2,d3⟩,⟨g0,g1,g2,g3⟩,xT⟩:=l7 j.r2;have tP:=j.r1;have tR:=j.r2;have q4:=j.pg.f 4 _ rfl;have d:=zH j;have HV:=zH hv;have HI:=zH hi;have HF:=zH hf;have vx:=zH tP;have vy:=zH tR;clear j hv hi hf tP tR;go_wp2;(try simp only[cQ,Exit.then]);have AW:∀W u0 u1,Ext (·=N+1) W ((W.setCell ⟨N+1,0,th⟩ u0).setCell ⟨N+1,1,th⟩ u1):=λW u0 u1=>aa (aa (Ext.refl _ _) _) _;have A1:∀W u0 u1 u2 u3,Ext (·=N+1+1) W ((((W.setCell ⟨N+1+1,0,th⟩ u0).setCell ⟨N+1+1,1,th⟩ u1).setCell ⟨N+1+1,2,th⟩ u2).setCell ⟨N+1+1,3,th⟩ u3):=λW u0 u1 u2 u3=>aa (aa (aa (aa (Ext.refl _ _) _) _) _) _;refine dk (cO rfl _ _ (N+1) (N+1+1) 25 113 _ _ (0,0) (0,0) _ _ rfl ((A1 _ _ _ _ _).heap (aW vx.out) (show¬N+1=N+1+1 by omega)) rfl (iX ((AW _ _ _).heap vy.out (show¬N+1+1=N+1 by omega))) fh (by kernel_rfl) oy (by kernel_rfl)) rfl ?_;have v:=((AW A (tn (tf ⟨p.pA,0,th⟩) 1 p.pC) (tn (tf ⟨fA,0,th⟩) 1 fC)).mono (λq h=>Or.inl h)).trans ((A1 _ (Z U 0) (Z U 0) (Z U 0) (Z U 0)).mono (λq h=>Or.inr h)) (λq (h:q=N+1\/q=N+1+1)=> .inl h);have hE:=d.out.hE;have E0:=d.out.lN;have E1:=d.out.low.size;have E2:=x;refine⟨s,fA,fC,rfl,aT (ah HV.out v (λk t h=>by have:=(ai HV.out t).1;rcases h with h|h<;>omega)) (by omega),aT (ah HI.out v (λk t h=>by have:=(ai HI.out t).1;rcases h with h|h<;>omega)) (by omega),aT (ah HF.out v (λk t h=>by have:=(ai HF.out t).1;rcases h with h|h<;>omega)) (by omega), ?_⟩;rw[x];exact d.out.low.trans (v.below (by omega) (λq h=>by rcases h with h|h<;>omega))
theorem sm_at {p:Pg}{L:bj}{t:World}(h:jh p L t){s:Sm}{e:Ex}(q:s∈p.ss)(o:s.es=[e]):∃g cp,s.E= tn (tf ⟨g,0,th⟩) 1 cp/\g<L/\∀(j:bj)(u:cw),e.cells.toList[j]?=tf u->∀W,jh p L W->W.cell? ⟨g,j,th⟩=tf u:=by
 rcases h.ex s q with⟨f,_⟩|⟨g,cap,f,v,J⟩
 ·rw[o] at f;cases f
 ·refine⟨g,cap,by rw[f,o];rfl,v,λj u x W y=> ?_⟩
  rcases y.ex s q with⟨d,_⟩|⟨z,K,d,R,A⟩
  ·rw[o] at d;cases d
  ·have G:g=z:=by
    rw[f] at d;simp only[fy,dj,eV] at d;exact d.1.1
   subst G;have:=A 0 e (by rw[o];rfl) j u x;simpa using this
section
variable {m:bj}{p:Pg}{L:bj}{X:Fx}{V V2:bp Ty}{I I2:bp fU}{S:bp (bl×bj)}
theorem CR {s:Sm}{e:Ex}{d:aw}(j:X.os= tn th 0 0)(o:s∈p.ss)(q:s.kind=8)(t:s.es=[e])(u:I2.length+1<=1000)
  (v:∀W O f,Mk m p L X V I S O f W->fj am 217 #[tr (tf ⟨m,0,th⟩),tv e.cells,tv #[tt X.rt.1,tm X.rt.2],Z U (-1)] W λe w'=>e= tB (Z U d)/\dz m p L X V2 I2 S O W w'):
  Ch m p L X V I S s V2 (I2++[⟨18,0,d,0,0,s.ln,s.cl⟩]) S:=λW O f h=>by
 obtain⟨g,cp,x,y,z⟩:=sm_at h.pg o t;have:=AY j s.ty.1 s.ty.2 s.nm g cp e ⟨y,z⟩ d V2 I2 u v s.ln s.cl W h;unfold Sm.cells;rw[q,x];exact this
theorem A7 {s:Sm}{e:Ex}{d:aw}(j:X.os= tn th 0 0)(o:s∈p.ss)(q:s.kind=1)(t:s.es=[e])(u:V.length+1<=1000)(v:S.length+1<=1000)
  (x:∀W O f,Mk m p L X (V++[s.ty]) I S O f W->fj am 217 #[tr (tf ⟨m,0,th⟩),tv e.cells,tv #[tt s.ty.1,tm s.ty.2],Z U (V.length:aw)] W λe w'=>e= tB (Z U d)/\dz m p L X V2 I2 S O W w'):
  Ch m p L X V I S s V2 I2 (S++[(s.nm,V.length)]):=λW O f h=>by
 obtain⟨g,cp,y,z,A⟩:=sm_at h.pg o t;have:=yP j s.ty s.nm g cp e ⟨z,A⟩ d V2 I2 u v x s.ln s.cl W h;unfold Sm.cells;rw[q,y];exact this
theorem A8 {s:Sm}{j:bj}{z:bl×bj}(d:X.os= tn th 0 0)(e:s∈p.ss)(f:s.kind=9)(g:I.length+1<=1000)(o:S[j]?=tf z)(t:(z.1==s.nm)=ti)(u:∀q y,j<q->S[q]?=tf y->(y.1==s.nm)=tj):
  Ch m p L X V I S s V (I++[⟨13,0,(z.2:aw),0,0,s.ln,s.cl⟩]) S:=λW O x h=>by
 obtain⟨⟨ao,n,cp,v⟩,_⟩:=h.pg.sm e;have:=yO d s.ty.1 s.ty.2 s.nm ao n cp j z o t u g s.ln s.cl W h;unfold Sm.cells;rw[f,v];exact this
end
def yQ (w:World)(K:Pg->bp Ty->bp fU->Prop)(e:Ending)(w':World):Prop:=
 ∃p V I s fA fC,K p V I/\e= tB (.tuple #[tv (ji p V I s fA fC).cells,tv #[Z U 0,Z U 0,Z U 0,Z U 0]])/\(ji p V I s fA fC).inn w'/\aE w.heap.size w w'
theorem xc (s:bl)(R:bp Am)(n0:bj)(Q:bp qc->Prop)(snm nm:bl)(l:bp (bl×Ty))(y:Ty)(K:Pg->bp Ty->bp fU->Prop)(w:World)(hs:s.size<=1000000)(we:nD s)(h0:s.size≠0)(hR:kV s n0 (fF s s.size 0)=tf R)
  (hT:∀T:bp Tok,T.map Tok.sig=R++[(5,⟨#[]⟩,0)]->∃tM,Q tM/\rO T snm l nm y tM)
  (hK:∀(p:Pg),Q (p.ss.map Sm.shp)->p.snm=snm->p.fs.map Fd.shp=l->p.nm=nm->p.ret=y->Fe p/\p.nm.size<=du/\p.snm.size<=du/\(∀f∈p.fs,f.nm.size<=du)/\p.fs.length<=1000000/\∃V I,K p V I/\V.length<=300/\I.length<=1000/\∀m L,ku m p L (X0 p) [] [] [] p.ss V I):
  fj am 52 #[tm s] w (yQ w K):=by
 obtain⟨N,z⟩:=zE w.heap.size;obtain⟨j,u⟩:=zE ((w.alloc (tA #[tn th 0 0,tn th 0 0] 25)).alloc (tA #[Z U 0,Z U 0,Z U 0,Z U 0] 113));have uc:=vg u z;have ud:j.heap.size=N+2:=by rw[<-u];simp[z]
 have ue:=vZ u z;have up:=yo u z;have wg:=zH (wT s R n0 Q snm nm l y j hs we h0 hR hT);have wj:cg (∀(w:World)(c:dl cw),c.size=4->(dd ⟨w.heap.size,0,th⟩ [Z U 0,Z U 0,Z U 0,Z U 0] 0).run am (w.alloc (tA c 113))= .ok () (w.alloc (tA #[Z U 0,Z U 0,Z U 0,Z U 0] 113))):=λw=>mR (w:=w);have ur:∀(w:World)(p:Pg)(c:dl cw),c.size=2->(dd ⟨w.heap.size,0,th⟩ [tn (tf ⟨p.pA,0,th⟩) 1 p.pC,tn (tf ⟨p.qA,0,th⟩) 1 p.qC] 0).run am (w.alloc (tA c 179))= .ok () (w.alloc (tA #[tn (tf ⟨p.pA,0,th⟩) 1 p.pC,tn (tf ⟨p.qA,0,th⟩) 1 p.qC] 179)):=λw p c hc=>
  cr (P:=am) w 179 c #[tn (tf ⟨p.pA,0,th⟩) 1 p.pC,tn (tf ⟨p.qA,0,th⟩) 1 p.qC] (by show _=tf 2;kernel_rfl) hc (by simp[cn])
 have wk:=zH ur;have HK:=zH hK;have wl:=zH u;have ws:=zH uc;have o:=zH ud;have xf:=zH ue;have xj:=zH up;clear hR hT u uc ud ue up ur hK;go_enter func52,ntmps52
 go_upto_region 1 with(fail)
 rw[wl.out]
 go_upto_region 2 with(go_at_call 92;refine wg.out.mono ?_;rintro e w3 ⟨tM,hQ,p,rfl,p1,p2,p3,p4,p5,uv,ux⟩;unfold Pg.cells;have xl:=zH p1;have xo:=zH p2;have xp:=zH p3;have xr:=zH p4;have xt:=zH p5;have HQ:=zH hQ;have t:=zH uv;have vc:=zH ux;clear p1 p2 p3 p4 p5 hQ uv ux)
 obtain⟨D,G⟩:=zE w3.heap.size;obtain⟨d,A⟩:=zE ((w3.alloc (tA #[tn (tf ⟨p.pA,0,th⟩) 1 p.pC,tn (tf ⟨p.qA,0,th⟩) 1 p.qC] 179)).alloc (tA #[Z U 0,Z U 0,Z U 0,Z U 0] 113));rw[G,A];have g:=EX A;have vd:aE j.heap.size j d:=vc.out.trans (g.mono vc.out.size);have vf:=vZ A G;have vh:=yo A G;obtain⟨J,hn,vm,vp,tP,V,I,vq,lV,lI,hst⟩:=HK.out p (by rw[xt.out];exact HQ.out) xl.out xo.out xp.out xr.out;have vr:=Cg t.out tP (by have:=J.ss;omega);have xF:cg (fj am 93 #[tv #[tn (tf ⟨p.pA,0,th⟩) 1 p.pC,tn (tf ⟨p.qA,0,th⟩) 1 p.qC]] d (Ci d p V I)):=uw d (vr.grow g) J (λm=>hst m _) lV lI;have HO:=zH J;have tD:=zH (And.intro hn (And.intro vm (And.intro vp tP)));have xT:=zH vq;have tR:=zH vd;have E:cg (p.inn j.heap.size d):=⟨ownsRow_below t.out.fields g,ownsRow_below t.out.strs g,ownsRow_below t.out.stmts g,λx hx=>(t.out.exprs x hx).ext (Ext.of_below_size (M:=λ_=>lj) g) (λ_ _ _ h=>h),ownsRow_below t.out.fns g⟩
 obtain⟨⟨a0,a1⟩,_,yi⟩:=bZ vf;obtain⟨⟨e0,e1,e2,e3⟩,_,yk⟩:=l7 vh;clear G A g vd vf vh J hn vm vp tP vq hst vr wk wj t
 go_upto_region 4 with(fail)
 clear e0 e1 e2 e3
 go_wp2_with (go_at_call 93;refine xF.out.mono ?_;rintro e w6 ⟨s6,fA,fC,rfl,hv,hi,hf,tS⟩;unfold Mo.cells;have HV:=zH hv;have HI:=zH hi;have HF:=zH hf;have ya:=zH tS;have tE:=tR.out.trans (tS.mono tR.out.size);have vt:=zH tE;have tU:=(tE.block N (by rw[o.out];omega)).trans xf.out;have tW:=(tE.block (N+1) (by rw[o.out];omega)).trans xj.out;have yb:=zH tU;have yd:=zH tW;obtain⟨⟨b0,b1⟩,⟨d0,d1⟩,yp⟩:=bZ tU;obtain⟨⟨g0,g1,g2,g3⟩,⟨f0,f1,f2,f3⟩,yq⟩:=l7 tW;clear hv hi hf tS tE tU tW)
 (try simp only[cQ,Exit.then]);have vu:∀W u0 u1,Ext (·=N) W ((W.setCell ⟨N,0,th⟩ u0).setCell ⟨N,1,th⟩ u1):=λW u0 u1=>aa (aa (Ext.refl _ _) _) _;have vx:∀W u0 u1 u2 u3,Ext (·=N+1) W ((((W.setCell ⟨N+1,0,th⟩ u0).setCell ⟨N+1,1,th⟩ u1).setCell ⟨N+1,2,th⟩ u2).setCell ⟨N+1,3,th⟩ u3):=λW u0 u1 u2 u3=>aa (aa (aa (aa (Ext.refl _ _) _) _) _) _;refine dk (cO rfl _ _ N (N+1) 25 113 _ _ (0,0) (0,0) _ _ rfl ((vx _ _ _ _ _).heap (aW yb.out) (show¬N=N+1 by omega)) rfl (iX ((vu _ _ _).heap yd.out (show¬N+1=N by omega))) fh (by kernel_rfl) oy (by kernel_rfl)) rfl ?_;have ua:Ext (λq=>q=N\/q=N+1) w6 _:=((vu w6 (tn (tf ⟨p.pA,0,th⟩) 1 p.pC) (tn (tf ⟨fA,0,th⟩) 1 fC)).mono (λq h=> .inl h)).trans (vx _ (Z U 0) (Z U 0) (Z U 0) (Z U 0)) (λq h=> .inl (.inr h));have yr:N+2<=d.heap.size:=by rw[<-o.out];exact tR.out.size
 have vy:Ext (λq=>q=N\/q=N+1) d _:=(Ext.of_below_size ya.out).trans ua (λq h=> .inl h);have tG:∀{e:fX}{size n:bj}{v:cw}{xs:bp cw},d.ownsRow j.heap.size e size v n xs->_:=λ{e size n v xs} h=>ah (e:=e) (size:=size) (n:=n) (v:=v) (xs:=xs) h vy (λq hq e=>by have:=(ai h hq).1;have:=o.out;omega);have ub:∀{e:fX}{size n:bj}{v:cw}{xs:bp cw},w6.ownsRow d.heap.size e size v n xs->_:=λ{e size n v xs} h=>ah (e:=e) (size:=size) (n:=n) (v:=v) (xs:=xs) h ua (λq hq e=>by have:=(ai h hq).1;omega);have ye:p.inn j.heap.size _:=⟨tG E.out.fields,tG E.out.strs,tG E.out.stmts,λs hs=>(E.out.exprs s hs).ext vy (λq h1 _ e=>by have:=o.out;omega),tG E.out.fns⟩
 refine⟨p,V,I,s6,fA,fC,xT.out,rfl,Ee (Cg ye tD.out.2.2.2 (by have:=HO.out.ss;omega)) tD.out.1 tD.out.2.1 tD.out.2.2.1 (ub HV.out) (ub HI.out) (ub HF.out) (by omega) lI, ?_⟩;rw[z];exact ws.out.trans ((vt.out.mono (by rw[o.out];omega)).trans (ua.below (eN (by rw[o.out];omega) vt.out.size) (λq h=>by omega)))
def rR (d e:bj->aw):bj->bp Am->bp Tok
 |_,[]=>[]
 |i,g::r=>⟨g.1,g.2.1,g.2.2,d i,e i⟩::rR d e (i+1) r
theorem vF {ln cl:bj->aw}:∀(R:bp Am)(T:bp Tok)(i:bj),T.map Tok.sig=R->(∀(k:bj)(t:Tok),T[k]?=tf t->t.ln=ln (i+k)/\t.cl=cl (i+k))->T=rR ln cl i R
 |[],T,i,h,_=>by unfold rR;simpa using h
 |g::R,[],_,h,_=>by simp at h
 |g::R,t::T,i,h,f=>by
  rw[li] at h;obtain⟨j,o⟩:=List.cons.inj h;unfold rR;obtain⟨a,b,c,d,e⟩:=t;have h0:=f 0 _ rfl;rw[i7] at h0;rw[<-vF R T (i+1) o (λk t q=>by rw[show i+1+k=i+(k+1) by omega];exact f (k+1) t (by simpa using q)),<-j,<-h0.1,<-h0.2];rfl
theorem Fh (R:bp Am)(T:bp Tok)(h:T.map Tok.sig=R):∃ln cl:bj->aw,T=rR ln cl 0 R:=
 ⟨λi=>(T[i]?.map Tok.ln).getD 0,λi=>(T[i]?.map Tok.cl).getD 0,vF R T 0 h (λk t d=>by rw[cI,d];exact⟨rfl,rfl⟩)⟩
theorem CS {A:bp Tok}{e:Tok}(h:(A.all λt=>t.kind != 5)=ti)(j:e.kind=5):AO (A++[e]):=by
 intro k t d;rw[bm,cj];rw[sX] at d
 by_cases f:k<A.length
 ·rw[cH f] at d
  have:=gn.1 h t (ci d);have o:t.kind≠5:=by simpa using this
  constructor
  ·intro g;exact fz g o
  ·intro g;omega
 ·rw[bw f] at d
  have u:k-A.length=0:=by
   cases v:k-A.length with
   |zero=>rfl
   |succ q=>rw[v] at d;simp at d
  rw[u] at d;obtain rfl:e=t:=by simpa using d
  constructor
  ·intro _;omega
  ·intro _;exact j
theorem A9 {s:bl}(h:(s.data.toList.all λb=>b != 47)=ti):nD s:=by
 intro i;unfold eu
 by_cases hi:i<s.size
 ·rw[dif_pos hi]
  have d:s[i]'hi∈s.data.toList:=by
   have:s[i]'hi=s.data[i]'hi:=rfl;rw[this];simp
  have:=gn.1 h _ d;intro e;have f:(s[i]'hi).toNat=47:=by omega
  have g:s[i]'hi=47:=UInt8.toNat_inj.1 f;rw[g] at this;exact fz this (by decide)
 ·rw[dif_neg hi];decide
def bS:bl:=⟨#[83]⟩
def GD:bl:=⟨#[110]⟩
def Fj:bl:=⟨#[97]⟩
theorem Eh {m:bj}{p:Pg}{L:bj}{X:Fx}{V:bp Ty}{I:bp fU}(ss:bp Sm)(h:p.ss=ss)(d:ku m p L X [] [] [] ss V I):ku m p L X [] [] [] p.ss V I:=by rw[h];exact d
theorem Ba {m:bj}{p:Pg}{L:bj}{X:Fx}{V:bp Ty}{I:bp fU}{S:bp (bl×bj)}(y:Ty)(nm:bl)(d f:aw)(hst:nJ p nm=0)(t:V.length+2<=1000)(j:I.length+1<=1000):
  ∀W O g,Mk m p L X (V++[y]) I S O g W->fj am 217 #[tr (tf ⟨m,0,th⟩),tv (⟨7,0,nm,d,f⟩:Ex).cells,tv #[tt y.1,tm y.2],Z U (V.length:aw)] W λe w'=>e= tB (Z U (V.length:aw))/\dz m p L X (V++[y]) (I++[⟨12,(V.length:aw),0,0,0,d,f⟩]) S O W w':=λW O g h=>by
 have:=yN 0 nm d f y (V.length:aw) W h (by simp;omega) j;have o:Ao (V.length:aw) (V++[y])=(V.length:aw):=by unfold Ao;rw[cH (by omega)]
 have q:Ed (V.length:aw) (V++[y]) (ti,nm)=V++[y]:=by unfold Ed;rw[cH (by omega)]
 rw[o,q,hst] at this;exact this
theorem Bc {m:bj}{p:Pg}{L:bj}{X:Fx}{V:bp Ty}{I:bp fU}{S:bp (bl×bj)}(n:aw)(d f:aw)(j:V.length+1<=1000)(o:I.length+1<=1000):
  ∀W O g,Mk m p L X V I S O g W->fj am 217 #[tr (tf ⟨m,0,th⟩),tv (⟨1,n,⟨#[]⟩,d,f⟩:Ex).cells,tv #[tt X.rt.1,tm X.rt.2],Z U (-1)] W λe w'=>e= tB (Z U (V.length:aw))/\dz m p L X (V++[bG]) (I++[⟨1,(V.length:aw),0,0,n,d,f⟩]) S O W w':=λW O g h=>by
 have:=yM n ⟨#[]⟩ d f X.rt (-1) W h j o;have q:Ao (-1) V=(V.length:aw):=by unfold Ao;rw[bw (by omega)]
 have t:Ed (-1) V bG=V++[bG]:=by unfold Ed;rw[bw (by omega)]
 rw[q,t] at this;exact this
theorem GG (nm:bl)(S:bp (bl×bj))(h:(S.drop 1).all (λy=> !(y.1==nm))=ti):∀q y,0<q->S[q]?=tf y->(y.1==nm)=tj:=by
 intro q y f d;have e:y∈S.drop 1:=by
  obtain⟨k,rfl⟩:∃k,q=1+k:=⟨q-1,by omega⟩
  have:(S.drop 1)[k]?=tf y:=by rw[pZ];exact d
  exact ci this
 have:=gn.1 h y e;simpa using this
def CU:bl:=⟨#[115,116,114,117,99,116,32,83,32,123,32,83,32,42,110,59,32,125,59,32,105,110,116,32,109,97,105,110,40,41,32,123,32,83,32,42,97,32,61,32,110,101,119,32,83,59,32,102,114,101,101,40,97,41,59,32,114,101,116,117,114,110,32,48,59,32,125]⟩
def Gg:bp Am:=[(2,⟨#[115,116,114,117,99,116]⟩,0),(1,⟨#[83]⟩,0),(4,⟨#[123]⟩,0),(1,⟨#[83]⟩,0),(4,⟨#[42]⟩,0),(1,⟨#[110]⟩,0),(4,⟨#[59]⟩,0),(4,⟨#[125]⟩,0),(4,⟨#[59]⟩,0),(2,⟨#[105,110,116]⟩,0),(1,⟨#[109,97,105,110]⟩,0),(4,⟨#[40]⟩,0),(4,⟨#[41]⟩,0),(4,⟨#[123]⟩,0),(1,⟨#[83]⟩,0),(4,⟨#[42]⟩,0),(1,⟨#[97]⟩,0),(4,⟨#[61]⟩,0),(2,⟨#[110,101,119]⟩,0),(1,⟨#[83]⟩,0),(4,⟨#[59]⟩,0),(2,⟨#[102,114,101,101]⟩,0),(4,⟨#[40]⟩,0),(1,⟨#[97]⟩,0),(4,⟨#[41]⟩,0),(4,⟨#[59]⟩,0),(2,⟨#[114,101,116,117,114,110]⟩,0),(3,⟨#[48]⟩,0),(4,⟨#[59]⟩,0),(4,⟨#[125]⟩,0)]
theorem GH:kV CU 31 (fF CU CU.size 0)=tf Gg:=by kernel_rfl
def QA (l:bp qc):Prop:=∃d c1 e c2:aw,l=[⟨1,(ti,bS),Fj,[⟨7,0,bS,d,c1⟩]⟩,⟨9,bG,Fj,[]⟩,⟨8,bG,⟨#[]⟩,[⟨1,0,⟨#[]⟩,e,c2⟩]⟩]
def KA (p:Pg)(V:bp Ty)(I:bp fU):Prop:=p.snm=bS/\p.nm=qg/\p.ret=bG/\p.fs.map Fd.shp=[(GD,(ti,bS))]/\V=[(ti,bS),bG]/\∃d c0 e c1 f c2 g c3:aw,I=[⟨12,0,0,0,0,d,c0⟩,⟨13,0,0,0,0,e,c1⟩,⟨1,1,0,0,0,f,c2⟩,⟨18,0,1,0,0,g,c3⟩]
theorem Fp (T:bp Tok)(h:T.map Tok.sig=Gg++[(5,⟨#[]⟩,0)]):∃g,QA g/\rO T bS [(GD,(ti,bS))] qg bG g:=by
 obtain⟨d,f,j⟩:=Fh _ T h;have o:T=[⟨2,⟨#[115,116,114,117,99,116]⟩,0,d 0,f 0⟩,⟨1,⟨#[83]⟩,0,d 1,f 1⟩,⟨4,⟨#[123]⟩,0,d 2,f 2⟩,⟨1,⟨#[83]⟩,0,d 3,f 3⟩,⟨4,⟨#[42]⟩,0,d 4,f 4⟩,⟨1,⟨#[110]⟩,0,d 5,f 5⟩,⟨4,⟨#[59]⟩,0,d 6,f 6⟩,⟨4,⟨#[125]⟩,0,d 7,f 7⟩,⟨4,⟨#[59]⟩,0,d 8,f 8⟩,⟨2,⟨#[105,110,116]⟩,0,d 9,f 9⟩,⟨1,⟨#[109,97,105,110]⟩,0,d 10,f 10⟩,⟨4,⟨#[40]⟩,0,d 11,f 11⟩,⟨4,⟨#[41]⟩,0,d 12,f 12⟩,⟨4,⟨#[123]⟩,0,d 13,f 13⟩,⟨1,⟨#[83]⟩,0,d 14,f 14⟩,⟨4,⟨#[42]⟩,0,d 15,f 15⟩,⟨1,⟨#[97]⟩,0,d 16,f 16⟩,⟨4,⟨#[61]⟩,0,d 17,f 17⟩,⟨2,⟨#[110,101,119]⟩,0,d 18,f 18⟩,⟨1,⟨#[83]⟩,0,d 19,f 19⟩,⟨4,⟨#[59]⟩,0,d 20,f 20⟩,⟨2,⟨#[102,114,101,101]⟩,0,d 21,f 21⟩,⟨4,⟨#[40]⟩,0,d 22,f 22⟩,⟨1,⟨#[97]⟩,0,d 23,f 23⟩,⟨4,⟨#[41]⟩,0,d 24,f 24⟩,⟨4,⟨#[59]⟩,0,d 25,f 25⟩,⟨2,⟨#[114,101,116,117,114,110]⟩,0,d 26,f 26⟩,⟨3,⟨#[48]⟩,0,d 27,f 27⟩,⟨4,⟨#[59]⟩,0,d 28,f 28⟩,⟨4,⟨#[125]⟩,0,d 29,f 29⟩,⟨5,⟨#[]⟩,0,d 30,f 30⟩]:=j;clear h j;subst o;refine⟨_,⟨d 18,f 18,d 27,f 27,rfl⟩, ?_⟩;refine⟨?_,by simp, ?_⟩
 ·exact CS (A:=[⟨2,⟨#[115,116,114,117,99,116]⟩,0,d 0,f 0⟩,⟨1,⟨#[83]⟩,0,d 1,f 1⟩,⟨4,⟨#[123]⟩,0,d 2,f 2⟩,⟨1,⟨#[83]⟩,0,d 3,f 3⟩,⟨4,⟨#[42]⟩,0,d 4,f 4⟩,⟨1,⟨#[110]⟩,0,d 5,f 5⟩,⟨4,⟨#[59]⟩,0,d 6,f 6⟩,⟨4,⟨#[125]⟩,0,d 7,f 7⟩,⟨4,⟨#[59]⟩,0,d 8,f 8⟩,⟨2,⟨#[105,110,116]⟩,0,d 9,f 9⟩,⟨1,⟨#[109,97,105,110]⟩,0,d 10,f 10⟩,⟨4,⟨#[40]⟩,0,d 11,f 11⟩,⟨4,⟨#[41]⟩,0,d 12,f 12⟩,⟨4,⟨#[123]⟩,0,d 13,f 13⟩,⟨1,⟨#[83]⟩,0,d 14,f 14⟩,⟨4,⟨#[42]⟩,0,d 15,f 15⟩,⟨1,⟨#[97]⟩,0,d 16,f 16⟩,⟨4,⟨#[61]⟩,0,d 17,f 17⟩,⟨2,⟨#[110,101,119]⟩,0,d 18,f 18⟩,⟨1,⟨#[83]⟩,0,d 19,f 19⟩,⟨4,⟨#[59]⟩,0,d 20,f 20⟩,⟨2,⟨#[102,114,101,101]⟩,0,d 21,f 21⟩,⟨4,⟨#[40]⟩,0,d 22,f 22⟩,⟨1,⟨#[97]⟩,0,d 23,f 23⟩,⟨4,⟨#[41]⟩,0,d 24,f 24⟩,⟨4,⟨#[59]⟩,0,d 25,f 25⟩,⟨2,⟨#[114,101,116,117,114,110]⟩,0,d 26,f 26⟩,⟨3,⟨#[48]⟩,0,d 27,f 27⟩,⟨4,⟨#[59]⟩,0,d 28,f 28⟩,⟨4,⟨#[125]⟩,0,d 29,f 29⟩]) (e:=⟨5,⟨#[]⟩,0,d 30,f 30⟩) rfl rfl
 ·refine⟨7,10,29,_,_,_,_,_,_,_,_,_,_,_,_,rfl,rfl,rfl,rfl,rfl,rfl,rfl,.cons 3 5 7 (ti,bS) ⟨1,⟨#[110]⟩,0,d 5,f 5⟩ ⟨4,⟨#[59]⟩,0,d 6,f 6⟩ [] (.ptr ⟨1,⟨#[83]⟩,0,d 3,f 3⟩ ⟨4,⟨#[42]⟩,0,d 4,f 4⟩ rfl rfl rfl rfl) rfl rfl rfl rfl (.nil 7),rfl,rfl,rfl,rfl,rfl,rfl,.int _ rfl rfl,rfl,rfl,rfl,rfl,rfl,rfl,rfl,rfl,rfl, ?_,rfl,rfl,rfl,rfl⟩
  exact .cons 14 21 29 _ _ (.decl ⟨1,⟨#[83]⟩,0,d 14,f 14⟩ ⟨4,⟨#[42]⟩,0,d 15,f 15⟩ ⟨1,⟨#[97]⟩,0,d 16,f 16⟩ ⟨4,⟨#[61]⟩,0,d 17,f 17⟩ ⟨4,⟨#[59]⟩,0,d 20,f 20⟩ ⟨7,0,⟨#[83]⟩,d 18,f 18⟩ 20 rfl rfl rfl rfl rfl rfl rfl rfl rfl (.new ⟨2,⟨#[110,101,119]⟩,0,d 18,f 18⟩ ⟨1,⟨#[83]⟩,0,d 19,f 19⟩ rfl rfl rfl rfl rfl) rfl rfl) (.cons 21 26 29 _ _ (.free ⟨2,⟨#[102,114,101,101]⟩,0,d 21,f 21⟩ ⟨4,⟨#[40]⟩,0,d 22,f 22⟩ ⟨1,⟨#[97]⟩,0,d 23,f 23⟩ ⟨4,⟨#[41]⟩,0,d 24,f 24⟩ ⟨4,⟨#[59]⟩,0,d 25,f 25⟩ rfl rfl rfl rfl rfl rfl rfl rfl rfl rfl) (.cons 26 29 29 _ _ (.ret ⟨2,⟨#[114,101,116,117,114,110]⟩,0,d 26,f 26⟩ ⟨4,⟨#[59]⟩,0,d 28,f 28⟩ ⟨1,0,⟨#[]⟩,d 27,f 27⟩ 28 rfl rfl (.num ⟨3,⟨#[48]⟩,0,d 27,f 27⟩ rfl rfl) rfl rfl) (.nil 29)))
theorem G5 {p:Pg}(h:QA (p.ss.map Sm.shp)):∃d e f:Sm,∃g c1 j c2:aw,p.ss=[d,e,f]/\d.kind=1/\d.ty=(ti,bS)/\d.nm=Fj/\d.es=[⟨7,0,bS,g,c1⟩]/\e.kind=9/\e.nm=Fj/\f.kind=8/\f.es=[⟨1,0,⟨#[]⟩,j,c2⟩]:=by
 obtain⟨g,c1,j,c2,h⟩:=h
 match hss:p.ss,h with
 |[d,e,f],h=>
  simp only[li,oT,List.cons.injEq,and_true,Sm.shp,qc.mk.injEq] at h;obtain⟨⟨o,q,t,u⟩,⟨v,A,x,E⟩,y,G,J,z⟩:=h;exact⟨d,e,f,g,c1,j,c2,rfl,o,q,t,u,v,x,y,z⟩
 |[],h=>simp at h
 |[_],h=>simp at h
 |[_,_],h=>simp at h
 |_::_::_::_::_,h=>simp at h
theorem xe {p:Pg}(h:p.fs.map Fd.shp=[(GD,(ti,bS))]):∃d,p.fs=[d]/\d.ty=(ti,bS)/\d.nm=GD:=by
 match hfs:p.fs,h with
 |[d],h=>
  simp only[li,oT,List.cons.injEq,and_true,Fd.shp,pp] at h;exact⟨d,rfl,h.2,h.1⟩
 |[],h=>simp at h
 |_::_::_,h=>simp at h
theorem yR (w:World):fj am 52 #[tm CU] w (yQ w KA):=by
 refine xc CU Gg 31 QA bS qg [(GD,(ti,bS))] bG KA w (by decide) (A9 (by kernel_rfl)) (by decide) GH (λT h=>Fp T h) (λp hq o K y A=> ?_);obtain⟨q,g,t,u,c1,v,c2,d,x,t1,n1,R,E,n2,G,W⟩:=G5 hq;obtain⟨fd,J,tD,tE⟩:=xe K;have tG:q∈p.ss:=by rw[d];simp
 have tM:g∈p.ss:=by rw[d];simp
 have tP:t∈p.ss:=by rw[d];simp
 have tR:nJ p bS=0:=by unfold nJ;rw[o];rfl
 have hS:(⟨q.nm,q.ty.1,q.ty.2,0,0⟩:Fd)=⟨Fj,ti,bS,0,0⟩:=by rw[n1,t1]
 refine⟨⟨⟨fd,J,by rw[tD,o]⟩,y,by rw[A];rfl, ?_,by rw[d];simp,λj hj=> ?_,by rw[d];simp,by rw[d];simp[gT,G]⟩,by rw[y];decide,by rw[o];decide,λf hf=> ?_,by rw[J];simp,[(ti,bS),bG],[⟨12,0,0,0,0,u,c1⟩,⟨13,0,0,0,0,g.ln,g.cl⟩,⟨1,1,0,0,0,v,c2⟩,⟨18,0,1,0,0,t.ln,t.cl⟩],⟨o,y,A,K,rfl,u,c1,g.ln,g.cl,v,c2,t.ln,t.cl,rfl⟩,by simp,by simp,λm L=> ?_⟩
 ·rw[d]
  refine .cons _ _ _ _ (.inr (.inr ⟨x,_,R,.inr (.inr ⟨rfl,o,t1⟩),by rw[t1,o],rfl,rfl⟩)) (.cons _ _ _ _ (.inr (.inl ⟨E,⟨Fj,ti,bS,0,0⟩, ?_,rfl,rfl⟩)) (.cons _ _ _ _ (.inl ⟨G,_,W,.inl ⟨rfl,A⟩,rfl⟩) (.nil _)));rw[hS,n2];rfl
 ·rw[d] at hj⊢
  match j,hj with
  |0,_=>rfl
  |1,_=>simp[gT,x]
  |2,_=>simp[gT,x,E]
 ·rw[J,cP] at hf
  rw[hf,tE];decide
 ·refine Eh _ d ?_
  have g1:=A7 (m:=m) (L:=L) (X:=X0 p) (V:=[]) (I:=[]) (S:=[]) (s:=q) (e:=⟨7,0,bS,u,c1⟩) rfl tG x R (by simp) (by simp) (Ba q.ty bS u c1 tR (by simp) (by simp));rw[t1,n1] at g1;have g2:=A8 (m:=m) (p:=p) (L:=L) (X:=X0 p) (V:=[(ti,bS)]) (I:=[⟨12,0,0,0,0,u,c1⟩]) (S:=[(Fj,0)]) (s:=g) (j:=0) (z:=(Fj,0)) rfl tM E (by simp) rfl (by rw[n2];rfl) (GG _ _ (by rw[n2];rfl));have g3:=CR (m:=m) (p:=p) (L:=L) (X:=X0 p) (V:=[(ti,bS)]) (I:=[⟨12,0,0,0,0,u,c1⟩,⟨13,0,0,0,0,g.ln,g.cl⟩]) (S:=[(Fj,0)]) (s:=t) (e:=⟨1,0,⟨#[]⟩,v,c2⟩) rfl tP G W (by simp) (Bc 0 v c2 (by simp) (by simp));exact .cons _ _ _ _ _ _ _ _ _ _ g1 (.cons _ _ _ _ _ _ _ _ _ _ g2 (.cons _ _ _ _ _ _ _ _ _ _ g3 (.nil _ _ _)))
end Go.Proofs.YtjomgckjhcfbgaaGreat
