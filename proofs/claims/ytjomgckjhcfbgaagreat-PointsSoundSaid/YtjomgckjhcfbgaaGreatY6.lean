/- Walks. -/
import Derived.Deep.WholeRow
import Derived.Test.YtjomgckjhcfbgaaGreatY5
set_option maxRecDepth 100000
set_option maxHeartbeats 64000000
set_option linter.all false
namespace Go.Proofs.YtjomgckjhcfbgaaGreat
open Go.RowKit
open Go.Proofs.Tryz renaming prog→ac,underlying25→fk,underlying35→iu,underlying113→ph,underlying223→qS
open _root_.List renaming getElem?_eq_getElem→am,mem_of_getElem?→cf,length_append→cw,mem_map→dy,length_map→ei,flatMap_cons→el,drop_eq_getElem_cons→eR,getElem?_map→fj,map_append→fL,length_singleton→ie,all_eq_true→js,map_cons→lP,append_nil→mj,getElem?_drop→qv
open Go.RowKit.Below renaming refl→aq,heap_alloc→cn
open _root_ renaming ByteArray→aE,List→bm,Int→bp,Nat→bx,if_neg→cE,decide_eq_false→cL,if_pos→cR,Array→da,Option→eA,absurd→fW,False→mb,and_true→pc
open Go.RowKit renaming Below→bh,Hid→cm
open Go renaming heap_setCell_same→bk,cell_of_row→cc,Value→cd,run_storeCells_new→ct,storeCells→dr,bodyPost_ret→dv,maxLen→dT,Calls→gd,TypeId→gx,info_parts→gA,heap_alloc2_old→ia,heap_alloc2_new→lx
open _root_.Nat renaming lt_of_lt_of_le→bl,le_refl→ce,zero_le→cN,zero_add→cV,le_trans→cY,add_zero→mx
open Go.Value renaming oneCell'→cj,int→eE,ownBlock→eJ,string→fh,string→tM,slice→tP,pointer→tR,bool→tU,agg→tW,int→Z
open _root_.Option.some renaming inj→cD,injEq→dt
open _root_.Prod.mk renaming injEq→cU
open Go.Exit renaming inBlock→db
open Go.Addr renaming add_lit→dc
open Go.Addr.mk renaming injEq→eW
open Go.Value.slice renaming injEq→gj
open _root_.Option renaming map_eq_some_iff→i8,some→tB,none→tD
open _root_.List.cons renaming injEq→tn
open _root_.Bool renaming true→tE,false→tG
open Go.Obj renaming cells→ua
open Go.Ending renaming returned→ub
open Go.IntKind renaming i64→U
open Tryz
theorem CW:(ac.info? 9).map (λi=>(i.zero,i.size,i.bytes))=tB (tB (tM ⟨#[]⟩),1,16):=by kernel_rfl
theorem ko {α:Type}(f:α->cd)(S:bm α):(S.map f).length=S.length*1:=by simp
theorem iY {α:Type}{f:α->cd}{w:World}{B:bx}{q:eA Addr}{S:bm α}(h:aK (λx=>#[f x]) 1 w B q S):∀b,q=tB b->∀j u,(S.map f)[j]?=tB u->w.cell? (b.add j)=tB u:=by
 intro b D j u v;rw[fj] at v;obtain⟨x,d,rfl⟩:=i8.1 v;obtain⟨J,uc,A,_,G⟩:=h (by intro e;rw[e] at d;simp at d);rw[D] at A;obtain rfl:=cD A;have:=G j x d 0 _ rfl;rw[mx,Nat.mul_one] at this;rw[dc];exact this
theorem wu {α:Type}{f:α->cd}{w:World}{base n:bx}{e:gx}{v:cd}{S:bm α}(h:w.ownsRow base e 1 v n (S.map f))(q:n=S.length){d:eA Addr}{c:bx}(u:v= tP d n c):aK (λx=>#[f x]) 1 w w.heap.size d S:=by
 subst u;refine eD (cells:=λx=>#[f x]) (m:=1) (λ_=>rfl) (base:=base) (e:=e) (n:=n) (c:=c) ?_ q;have:∀S:bm α,(S.flatMap λx=>(#[f x]:da cd).toList)=S.map f:=λS=>by
  induction S with
  |nil=>rfl
  |cons a S ih=>rw[el,ih];rfl
 rw[this];exact h
def IB (p:Pg)(X:Fx)(s:Sl)(d f:bx)(sv h:cd):da cd:=
 #[tP (tB ⟨p.pA,0,tD⟩) 1 p.pC,tP (tB ⟨p.qA,0,tD⟩) 1 p.qC,tU X.rt.1,tM X.rt.2,tM X.nm,X.pr,tP s.vA d s.vC,X.r7,X.r8,X.r9,X.fr,tP s.iA f s.iC,sv,h,Z U 0,Z U 0,Z U 0,Z U 0,X.hs,X.os]
theorem oG {m:bx}{p:Pg}{L:bx}{X:Fx}{V2:bm Ty}{I2:bm gB}{S:bm (aE×bx)}{O O5:bx->Prop}{D:Sl}{w W1 w5 u w8 A:World}{nm:aE}{v:bx}{J G:eA Addr}{c9 cW:bx}
  (ux:bh w.heap.size w W1)(vi:Ext (λq=>q=m\/O q) W1 w5)(vj:∀k,O5 k->O k\/W1.heap.size<=k)(d:Mk m p L X V2 I2 S O5 D w5)(va:Ext (·=m) w5 u)
  (vc:u.heap[m]?=tB (ua (IB p X D V2.length I2.length (tP J (S.length+1) c9) (tP D.wA S.length D.wC)) 236 (0,0)))
  (ue:u.ownsRow w5.heap.size 9 1 (tP J (S.length+1) c9) (S.length+1) ((S++[(nm,v)]).map λx:aE×bx=>fh x.1))
  (vd:bh u.heap.size u A)(h8:u.heap.size<=w8.heap.size)
  (ur:A.ownsRow w8.heap.size 3 1 (tP G (S.length+1) cW) (S.length+1) ((S++[(nm,v)]).map λx:aE×bx=>eE .i64 (x.2:bp)))(vx:S.length+1<=1000):
  dx m p L X V2 I2 (S++[(nm,v)]) O w (A.setCell ⟨m,13,tD⟩ (tP G (S.length+1) cW)):=by
 obtain⟨WG,uv⟩:=zE (A.setCell ⟨m,13,tD⟩ (tP G (S.length+1) cW));rw[uv];have vy:=ae d.row;have vm:=ae vc;have we:=va.size;have vp:=(vd.block m vm).trans vc;have vf:Ext (·=m) A WG:=by rw[<-uv];exact Ext.set1 A m 13 _
 have vq:WG.heap[m]?=tB (ua (Fz p X {D with sA:=J,sC:=c9,wA:=G,wC:=cW} V2.length I2.length (S.length+1)) 236 (0,0)):=by rw[<-uv];exact bk A m 13 _ _ _ vp
 have vh:Ext (·=m) u WG:=(Ext.of_below_size (M:=(·=m)) vd).trans vf (λq h=> .inl h);have uc:Ext (·=m) w5 WG:=va.trans vh (λq h=> .inl h);have ud:(S++[(nm,v)]).length=S.length+1:=by simp
 have vr:=af ue vh (λk f e=>by have:=(au ue f).1;omega);have vu:=af ur vf (λk f e=>by have:=(au ur f).1;omega);refine⟨O5,{D with sA:=J,sC:=c9,wA:=G,wC:=cW},⟨by rw[ud];exact vq,d.pg.ext uc (λk f e=>by have:=d.hm;omega),d.hm,af d.vars uc (λk f e=>by have:=(au d.vars f).1;omega),af d.ins uc (λk f e=>by have:=(au d.ins f).1;omega),d.dis,d.ov,d.oi,λk f=>⟨(d.ol k f).1,bl (d.ol k f).2 uc.size⟩,wu vr ud.symm rfl,wu vu ud.symm rfl,λa _ e=> ?_,d.lV,d.lI,by rw[ud];omega,by rw[ud];exact⟨xK ue,xK ur⟩⟩, ?_,λk f=> ?_⟩
 ·rcases e with e|e
  ·have h1:=(au ue (k:=a.block) (by rw[show J=tB a from e];rfl)).1
   exact⟨by omega,λh=>by have:=(d.ol _ h).2;omega⟩
  ·have h1:=(au ur (k:=a.block) (by rw[show G=tB a from e];rfl)).1
   exact⟨by omega,λh=>by have:=(d.ol _ h).2;omega⟩
 ·exact((Ext.of_below_size (M:=λq=>q=m\/O q) ux).trans vi (λq h=> .inl h)).trans uc (λq h=> .inl (.inl h))
 ·rcases vj k f with h|h
  ·exact .inl h
  ·have:=ux.size;exact .inr (by omega)
theorem zm {m:bx}{p:Pg}{L:bx}{X:Fx}{V:bm Ty}{I:bm gB}{S:bm (aE×bx)}{O:bx->Prop}{s:Sl}(AT:X.os= tP tD 0 0)(y:Ty)(nm:aE)(g cp:bx)(ex:Ex)(hg:g<L/\∀(j:bx)(u:cd),ex.cells.toList[j]?=tB u->∀W,jA p L W->W.cell? ⟨g,j,tD⟩=tB u)(d:bp)(V2:bm Ty)(I2:bm gB)(B4:V.length+1<=1000)(zj:S.length+1<=1000)
  (AW:∀W O s,Mk m p L X (V++[y]) I S O s W->gd ac 217 #[tR (tB ⟨m,0,tD⟩),tW ex.cells,tW #[tU y.1,tM y.2],Z U (V.length:bp)] W λe w'=>e= ub (Z U d)/\dx m p L X V2 I2 S O W w')(ln cl:bp)(w:World)(h:Mk m p L X V I S O s w):
  gd ac 180 #[tR (tB ⟨m,0,tD⟩),tW #[Z U 1,tU y.1,tM y.2,tM nm,tP (tB ⟨g,0,tD⟩) 1 cp,tP tD 0 0,tP tD 0 0,Z U ln,Z U cl]] w λe w'=>e= ub (.tuple #[])/\dx m p L X V2 I2 (S++[(nm,V.length)]) O w w':=by
 obtain⟨N,hN⟩:=zE w.heap.size;obtain⟨W1,zp⟩:=zE (w.alloc (ua #[Z U 1,tU y.1,tM y.2,tM nm,tP (tB ⟨g,0,tD⟩) 1 cp,tP tD 0 0,tP tD 0 0,Z U ln,Z U cl] 282));have AF:=iV zp hN;have zr:W1.heap[N]?=tB (ua #[Z U 1,tU y.1,tM y.2,tM nm,tP (tB ⟨g,0,tD⟩) 1 cp,tP tD 0 0,tP tD 0 0,Z U ln,Z U cl] 282 (0,0)):=by rw[<-zp,<-hN];exact alloc_at _ _
 have CH:=ae zr;have h1:Mk m p L X V I S O s W1:=h.grow (by rw[hN];exact AF);have A0:bh w.heap.size w W1:=by rw[hN];exact AF
 have CM:=ae h1.row;have CN:m<N:=by have:=ae h.row;omega
 have A2:¬(N=m\/O N):=by rintro(h1|h1);omega;have:=(h.ol N h1).2;omega
 have B5:W1.cell? ⟨m,15,tD⟩=tB (Z U 0):=(rowAt h1.row 15 rfl).1;have B6:W1.cell? ⟨m,19,tD⟩=tB (tP tD 0 0):=by rw[<-AT];exact(rowAt h1.row 19 rfl).1
 obtain⟨⟨a0,a1,a2,a3,a4,a5,a6,a7,a8⟩,_,_⟩:=fQ zr;have B8:=zH zp;have zv:=zH A0;have A4:=zH zr;have A5:=zH A2;have CT:=zH hN;have B9:=zH (nC y W1 h1 B4);have Cd:=zH AW;have HG:=zH hg;clear h h1 zp AF zr A0 A2 AT AW hg;go_enter func180,ntmps180
 go_upto_region 1 with(fail)
 rw[B8.out]
 go_upto_region 6 with(go_at_call 131;refine B9.out.mono ?_;rintro e w4 ⟨rfl,An⟩;have Cl:=zH An;clear An)
 obtain⟨O4,s4,k4,x4,o4⟩:=Cl.out;have AG:=x4.heap A4.out A5.out;have A6:=ae AG;have An:=ae k4.row;clear a0 a1 a2 a3 a4 a5 a6 a7 a8 B5 B6;obtain⟨S1,AH⟩:=zE ((λw'=>bh w4.heap.size w4 w'):World->Prop);have As:S1 w4.drew:=by rw[<-AH];exact(aq _ _).drew
 have Bk:∀W,S1 W->W.cell? ⟨N,1,tD⟩=tB (tU y.1)/\W.cell? ⟨N,2,tD⟩=tB (tM y.2)/\W.cell? ⟨N,4,tD⟩=tB (tP (tB ⟨g,0,tD⟩) 1 cp)/\W.cell? ⟨g,0,tD⟩=tB (Z U ex.kind)/\W.cell? ⟨g,1,tD⟩=tB (Z U ex.n)/\W.cell? ⟨g,2,tD⟩=tB (tM ex.nm)/\W.cell? ⟨g,3,tD⟩=tB (tM ⟨#[]⟩)/\W.cell? ⟨g,4,tD⟩=tB (tP tD 0 0)/\W.cell? ⟨g,5,tD⟩=tB (Z U ex.ln)/\W.cell? ⟨g,6,tD⟩=tB (Z U ex.cl):=λW hW=>by
  rw[<-AH] at hW;have r1:=(hW.block N A6).trans AG;have kk:=(k4.grow hW).pg;exact⟨(rowAt r1 1 rfl).1,(rowAt r1 2 rfl).1,(rowAt r1 4 rfl).1,HG.out.2 0 _ rfl W kk,HG.out.2 1 _ rfl W kk,HG.out.2 2 _ rfl W kk,HG.out.2 3 _ rfl W kk,HG.out.2 4 _ rfl W kk,HG.out.2 5 _ rfl W kk,HG.out.2 6 _ rfl W kk⟩
 have wx:=zH Bk;have Bm:Mk m p L X (V++[y]) I S O4 s4 w4.drew:=k4.grow (aq _ _).drew;have hV:=Cd.out w4.drew O4 s4 Bm;unfold Ex.cells at hV;have HV:=zH hV;clear AH Bk hV;refine ak 8 S1 (by kernel_rfl) ?_;refine zT 0 rfl wx.out ?_;(try go_simp);refine zT 1 rfl wx.out ?_;(try go_simp);refine zT 2 rfl wx.out ?_;(try go_simp);refine zT 3 rfl wx.out ?_;(try go_simp);refine zT 4 rfl wx.out ?_;(try go_simp);refine zT 5 rfl wx.out ?_;(try go_simp);refine zT 6 rfl wx.out ?_;(try go_simp);refine zT 7 rfl wx.out ?_;(try go_simp);refine zK rfl λK' A=> ?_;go_simp;go_at_call 217;refine HV.out.mono ?_;rintro e w5 ⟨rfl,O5,s5,k5,x5,o5⟩;refine A _ _ ?_;clear A;refine⟨by kernel_rfl, ?_⟩;have AI:Ext (λq=>q=m\/O q) W1 w5:=x4.trans (((Ext.refl _ _).drew).trans x5 (λq h=> .inl h)) (λq hq=>by
  rcases hq with h|h
  ·exact .inl (.inl h)
  ·rcases o4 q h with h|h
   ·exact .inl (.inr h)
   ·exact .inr h)
 have yk:=AI.heap A4.out A5.out;have At:=ae yk;have By:=ae k5.row;have BE:∀k,O5 k->O k\/W1.heap.size<=k:=λk hk=>by
  rcases o5 k hk with h|h
  ·exact o4 k h
  ·have:=x4.size;exact .inr (cY this h)
 obtain⟨i0,vy,we,wg,wi⟩:=gA CW;have BT:=k5.cS.1;have BY:(S.length:bp)<=(s5.sC:bp):=by omega
 have vd:=zH k5;have C3:=zH yk;have Ax:=zH AI;have AD:=zH BE;clear k4 x4 o4 AG A6 An As Bm x5 o5 AI BE
 go_upto_region 7 with(fail)
 obtain⟨S7,yp⟩:=zE ((λw'=>bh w5.heap.size w5 w'):World->Prop);have As:S7 w5.drew:=by rw[<-yp];exact(aq _ _).drew
 have xf:∀W,S7 W->bh w5.heap.size w5 W:=λW hW=>by rw[<-yp] at hW;exact hW
 have AE:∀W,bh w5.heap.size w5 W->S7 W:=λW hW=>by rw[<-yp];exact hW
 rcases hA:s5.sA with _|⟨b,AK,fp⟩
 ·have yq:∀W,S7 W->W.cell? ⟨m,12,tD⟩=tB (tP tD S.length s5.sC)/\W.cell? ⟨N,3,tD⟩=tB (tM nm):=λW hW=>by
   have r1:=((xf W hW).block N At).trans yk;have r2:=(k5.grow (xf W hW)).row;exact⟨by rw[<-hA];exact(rowAt r2 12 rfl).1,(rowAt r1 3 rfl).1⟩
  have J:=zH yq;have Cp:=zH xf;have yr:=zH AE;clear yq xf AE yp yk k5;refine ak 22 S7 (by kernel_rfl) ?_;refine zT 0 rfl J.out ?_;(try go_simp);refine zT 1 rfl J.out ?_;(try go_simp);refine zT 2 rfl J.out ?_;(try go_simp);refine zT 3 rfl J.out ?_;(try go_simp);refine zT 4 rfl J.out ?_;(try go_simp);refine zT 5 rfl J.out ?_;(try go_simp);refine zT 6 rfl J.out ?_;(try go_simp);refine zT 7 rfl J.out ?_;(try go_simp);refine zT 8 rfl J.out ?_;(try go_simp);refine zT 9 rfl J.out ?_;(try go_simp);refine zT 10 rfl J.out ?_;(try go_simp);refine zT 11 rfl J.out ?_;(try go_simp);refine zT 12 rfl J.out ?_;(try go_simp);refine zT 13 rfl J.out ?_;(try go_simp);refine zT 14 rfl J.out ?_;(try go_simp);refine zT 15 rfl J.out ?_;(try go_simp);refine zT 16 rfl J.out ?_;(try go_simp);refine zT 17 rfl J.out ?_;(try go_simp);refine zO 18 rfl λK' A=> ?_;go_simp;obtain⟨G,hG⟩:=zE w5.heap.size;obtain⟨w8,ud⟩:=zE ((w5.alloc (ua #[tM nm] 9)).drew);(try rw[hG]);(try rw[ud]);have uc:bh w5.heap.size w5 w8:=by rw[<-ud];exact((aq _ _).alloc (ce _) _).drew
  have vf:w8.heap[G]?=tB (ua #[tM nm] 9 (0,0)):=by rw[<-ud,<-hG];exact alloc_at _ _
  have va:S7 w8:=yr.out _ uc;refine A _ _ va ?_;clear A;(try go_simp);refine zO 19 rfl λK' A=> ?_;have vc:aK (λx:aE×bx=>#[tM x.1]) 1 w8 w8.heap.size tD S:=by rw[<-hA];exact(vd.out.grow uc).seen
  have xj:cm (S.length=0):=by
   by_cases h:S=[]
   ·unfold cm;rw[h];rfl
   ·obtain⟨_,_,h1,_⟩:=vc h;cases h1
  have vh:=iY (f:=λx:aE×bx=>fh x.1) vc;refine bZ (.tmp 54) (.tmp 57) 223 rfl 9 i0 _ 1 16 qS vy we wg wi rfl (by decide) tD S.length S.length (S.map λx:aE×bx=>fh x.1) rfl (λ_=>⟨xj.out,xj.out⟩) (ko _ _) vh ⟨G,0,tD⟩ 1 1 [tM nm] rfl rfl (λjj uu hu=>by rw[dc,cV,cc _ _ _ _ _ _ vf];simpa using hu) (by simp[cj]) (by omega) (by unfold dT;omega) (by omega) ?_;intro v9 w9 uv vi;have vj:Ext (λ_=>mb) w8 w9:=Ext.of_grown vi (λq hq=>by cases hq);have ue:bh w5.heap.size w5 w9:=uc.trans (vj.below uc.size (λq h=>h.elim));have ux:S7 w9:=yr.out _ ue;obtain⟨xl,c9,vq⟩:=ai uv;subst vq;refine A _ _ ux ?_;clear A;(try go_simp);refine zT 20 rfl J.out ?_;(try go_simp);refine zT 21 rfl J.out ?_;(try go_simp);have xo:=vd.out.grow ue;have xp:=(rowAt xo.row 12 rfl).2;obtain⟨x0,x1⟩:=J.out w9 ux;refine zK rfl λK' A=> ?_;go_simp;refine A _ _ ?_;clear A;refine⟨by kernel_rfl, ?_⟩;obtain⟨D,wj⟩:=zE (w9.setCell ⟨m,12,tD⟩ (tP xl (S.length+1) c9));(try rw[wj]);have xr:Ext (·=m) w9 D:=by rw[<-wj];exact Ext.set1 w9 m 12 _
  have xt:D.heap[m]?=tB (ua (IB p X s5 V2.length I2.length (tP xl (S.length+1) c9) (tP s5.wA S.length s5.wC)) 236 (0,0)):=by rw[<-wj];exact bk w9 m 12 _ _ _ xo.row
  have AM:m<w8.heap.size:=by have:=uc.size;omega
  have yv:D.ownsRow w5.heap.size 9 1 (tP xl (S.length+1) c9) (S.length+1) ((S++[(nm,V.length)]).map λx:aE×bx=>fh x.1):=by
   rw[fL];exact aU (af uv xr (λk hk e=>by have:=(au uv hk).1;omega)) uc.size
  have xF:Ext (·=m) w5 D:=(Ext.of_below_size (M:=(·=m)) ue).trans xr (λq h=> .inl h);have yy:aK (λx:aE×bx=>#[Z U (x.2:bp)]) 1 D D.heap.size s5.wA S:=vd.out.whic.stay xF (λa AN e=>(vd.out.ns a AN (.inr e)).1);have wk:=ae xt;have yW:=zH xF;have vm:=zH xt;have zc:=zH yv;have zd:=zH yy;have CA:=vd.out.cS.2;have CC:(S.length:bp)<=(s5.wC:bp):=by omega
  clear xr xt AM yv xF yy wj xo xp x0 x1 uv vi vj ue ux vh vc vf uc ud va hG By At As i0 vy we wg wi BT BY;obtain⟨i0,vy,we,wg,wi⟩:=gA oh
  go_upto_region 8 with(fail)
  obtain⟨S8,va⟩:=zE ((λw'=>bh D.heap.size D w'):World->Prop);have CD:S8 D.drew:=by rw[<-va];exact(aq _ _).drew
  have vp:∀W,S8 W->bh D.heap.size D W:=λW hW=>by rw[<-va] at hW;exact hW
  have wl:∀W,bh D.heap.size D W->S8 W:=λW hW=>by rw[<-va];exact hW
  rcases ws:s5.wA with _|⟨b2,xT,ya⟩
  ·have vr:∀W,S8 W->W.cell? ⟨m,13,tD⟩=tB (tP tD S.length s5.wC):=λW hW=>by
    rw[<-ws];exact(rowAt (((vp W hW).block m wk).trans vm.out) 13 rfl).1
   have v:=zH vr;have vu:=zH wl;have AS:=zH vp;clear vr wl vp va;refine ak 21 S8 (by kernel_rfl) ?_;refine zT 0 rfl v.out ?_;(try go_simp);refine zT 1 rfl v.out ?_;(try go_simp);refine zT 2 rfl v.out ?_;(try go_simp);refine zT 3 rfl v.out ?_;(try go_simp);refine zT 4 rfl v.out ?_;(try go_simp);refine zT 5 rfl v.out ?_;(try go_simp);refine zT 6 rfl v.out ?_;(try go_simp);refine zT 7 rfl v.out ?_;(try go_simp);refine zT 8 rfl v.out ?_;(try go_simp);refine zT 9 rfl v.out ?_;(try go_simp);refine zT 10 rfl v.out ?_;(try go_simp);refine zT 11 rfl v.out ?_;(try go_simp);refine zT 12 rfl v.out ?_;(try go_simp);refine zT 13 rfl v.out ?_;(try go_simp);refine zT 14 rfl v.out ?_;(try go_simp);refine zT 15 rfl v.out ?_;(try go_simp);refine zT 16 rfl v.out ?_;(try go_simp);refine zO 17 rfl λK' A=> ?_;go_simp;obtain⟨G,hG⟩:=zE D.heap.size;obtain⟨w8,ud⟩:=zE ((D.alloc (ua #[Z U (V.length:bp)] 3)).drew);(try rw[hG]);(try rw[ud]);have uc:bh D.heap.size D w8:=by rw[<-ud];exact((aq _ _).alloc (ce _) _).drew
   have vf:w8.heap[G]?=tB (ua #[Z U (V.length:bp)] 3 (0,0)):=by rw[<-ud,<-hG];exact alloc_at _ _
   have yb:S8 w8:=vu.out _ uc;refine A _ _ yb ?_;clear A;(try go_simp);refine zO 18 rfl λK' A=> ?_;have vc:aK (λx:aE×bx=>#[Z U (x.2:bp)]) 1 w8 w8.heap.size tD S:=by rw[<-ws];exact zd.out.stay (Ext.of_below_size (M:=λ_=>mb) uc) (λ_ _ _ h=>h)
   have xj:cm (S.length=0):=by
    by_cases h:S=[]
    ·unfold cm;rw[h];rfl
    ·obtain⟨_,_,h1,_⟩:=vc h;cases h1
   have vh:=iY (f:=λx:aE×bx=>eE .i64 (x.2:bp)) vc;refine bZ (.tmp 76) (.tmp 78) 35 rfl 3 i0 _ 1 8 iu vy we wg wi rfl (by decide) tD S.length S.length (S.map λx:aE×bx=>eE .i64 (x.2:bp)) rfl (λ_=>⟨xj.out,xj.out⟩) (ko _ _) vh ⟨G,0,tD⟩ 1 1 [Z U (V.length:bp)] rfl rfl (λjj uu hu=>by rw[dc,cV,cc _ _ _ _ _ _ vf];simpa using hu) (by simp[cj]) (by omega) (by unfold dT;omega) (by omega) ?_;intro v9 ur uv vi;have vj:Ext (λ_=>mb) w8 ur:=Ext.of_grown vi (λq hq=>by cases hq);have ue:bh D.heap.size D ur:=uc.trans (vj.below uc.size (λq h=>h.elim));have ux:S8 ur:=vu.out _ ue;obtain⟨yd,cW,vq⟩:=ai uv;subst vq;refine A _ _ ux ?_;clear A;(try go_simp);refine zT 19 rfl v.out ?_;(try go_simp);refine zT 20 rfl v.out ?_;(try go_simp);have ye:=(ue.block m wk).trans vm.out;have xp:=(rowAt ye 13 rfl).2;have x0:=v.out ur ux;refine zK rfl λK' A=> ?_;go_simp;refine A _ _ ?_;clear A;refine⟨by kernel_rfl, ?_⟩;have vx:dx m p L X V2 I2 (S++[(nm,V.length)]) O w (ur.setCell ⟨m,13,tD⟩ (tP yd (S.length+1) cW)):=oG zv.out Ax.out AD.out vd.out yW.out vm.out zc.out ue (by have:=uc.size;exact uc.size) (by rw[fL];exact uv) zj;have yi:=zH vx;clear vx;go_wp2
   go_end0
   exact⟨rfl,yi.out⟩
  ·have vr:∀W,S8 W->W.cell? ⟨m,13,tD⟩=tB (tP (tB ⟨b2,xT,ya⟩) S.length s5.wC):=λW hW=>by
    rw[<-ws];exact(rowAt (((vp W hW).block m wk).trans vm.out) 13 rfl).1
   have v:=zH vr;have vu:=zH wl;have AS:=zH vp;clear vr wl vp va;refine ak 21 S8 (by kernel_rfl) ?_;refine zT 0 rfl v.out ?_;(try go_simp);refine zT 1 rfl v.out ?_;(try go_simp);refine zT 2 rfl v.out ?_;(try go_simp);refine zT 3 rfl v.out ?_;(try go_simp);refine zT 4 rfl v.out ?_;(try go_simp);refine zT 5 rfl v.out ?_;(try go_simp);refine zT 6 rfl v.out ?_;(try go_simp);refine zT 7 rfl v.out ?_;(try go_simp);refine zT 8 rfl v.out ?_;(try go_simp);refine zT 9 rfl v.out ?_;(try go_simp);refine zT 10 rfl v.out ?_;(try go_simp);refine zT 11 rfl v.out ?_;(try go_simp);refine zT 12 rfl v.out ?_;(try go_simp);refine zT 13 rfl v.out ?_;(try go_simp);refine zT 14 rfl v.out ?_;(try go_simp);refine zT 15 rfl v.out ?_;(try go_simp);refine zT 16 rfl v.out ?_;(try go_simp);refine zO 17 rfl λK' A=> ?_;go_simp;obtain⟨G,hG⟩:=zE D.heap.size;obtain⟨w8,ud⟩:=zE ((D.alloc (ua #[Z U (V.length:bp)] 3)).drew);(try rw[hG]);(try rw[ud]);have uc:bh D.heap.size D w8:=by rw[<-ud];exact((aq _ _).alloc (ce _) _).drew
   have vf:w8.heap[G]?=tB (ua #[Z U (V.length:bp)] 3 (0,0)):=by rw[<-ud,<-hG];exact alloc_at _ _
   have yb:S8 w8:=vu.out _ uc;refine A _ _ yb ?_;clear A;(try go_simp);refine zO 18 rfl λK' A=> ?_;have vc:aK (λx:aE×bx=>#[Z U (x.2:bp)]) 1 w8 w8.heap.size (tB ⟨b2,xT,ya⟩) S:=by rw[<-ws];exact zd.out.stay (Ext.of_below_size (M:=λ_=>mb) uc) (λ_ _ _ h=>h)
   have vh:=iY (f:=λx:aE×bx=>eE .i64 (x.2:bp)) vc;refine bZ (.tmp 76) (.tmp 78) 35 rfl 3 i0 _ 1 8 iu vy we wg wi rfl (by decide) (tB ⟨b2,xT,ya⟩) S.length S.length (S.map λx:aE×bx=>eE .i64 (x.2:bp)) rfl (λh=>by cases h) (ko _ _) vh ⟨G,0,tD⟩ 1 1 [Z U (V.length:bp)] rfl rfl (λjj uu hu=>by rw[dc,cV,cc _ _ _ _ _ _ vf];simpa using hu) (by simp[cj]) (by omega) (by unfold dT;omega) (by omega) ?_;intro v9 ur uv vi;have vj:Ext (λ_=>mb) w8 ur:=Ext.of_grown vi (λq hq=>by cases hq);have ue:bh D.heap.size D ur:=uc.trans (vj.below uc.size (λq h=>h.elim));have ux:S8 ur:=vu.out _ ue;obtain⟨yd,cW,vq⟩:=ai uv;subst vq;refine A _ _ ux ?_;clear A;(try go_simp);refine zT 19 rfl v.out ?_;(try go_simp);refine zT 20 rfl v.out ?_;(try go_simp);have ye:=(ue.block m wk).trans vm.out;have xp:=(rowAt ye 13 rfl).2;have x0:=v.out ur ux;refine zK rfl λK' A=> ?_;go_simp;refine A _ _ ?_;clear A;refine⟨by kernel_rfl, ?_⟩;have vx:dx m p L X V2 I2 (S++[(nm,V.length)]) O w (ur.setCell ⟨m,13,tD⟩ (tP yd (S.length+1) cW)):=oG zv.out Ax.out AD.out vd.out yW.out vm.out zc.out ue (by have:=uc.size;exact uc.size) (by rw[fL];exact uv) zj;have yi:=zH vx;clear vx;go_wp2
   go_end0
   exact⟨rfl,yi.out⟩
 ·have yq:∀W,S7 W->W.cell? ⟨m,12,tD⟩=tB (tP (tB ⟨b,AK,fp⟩) S.length s5.sC)/\W.cell? ⟨N,3,tD⟩=tB (tM nm):=λW hW=>by
   have r1:=((xf W hW).block N At).trans yk;have r2:=(k5.grow (xf W hW)).row;exact⟨by rw[<-hA];exact(rowAt r2 12 rfl).1,(rowAt r1 3 rfl).1⟩
  have J:=zH yq;have Cp:=zH xf;have yr:=zH AE;clear yq xf AE yp yk k5;refine ak 22 S7 (by kernel_rfl) ?_;refine zT 0 rfl J.out ?_;(try go_simp);refine zT 1 rfl J.out ?_;(try go_simp);refine zT 2 rfl J.out ?_;(try go_simp);refine zT 3 rfl J.out ?_;(try go_simp);refine zT 4 rfl J.out ?_;(try go_simp);refine zT 5 rfl J.out ?_;(try go_simp);refine zT 6 rfl J.out ?_;(try go_simp);refine zT 7 rfl J.out ?_;(try go_simp);refine zT 8 rfl J.out ?_;(try go_simp);refine zT 9 rfl J.out ?_;(try go_simp);refine zT 10 rfl J.out ?_;(try go_simp);refine zT 11 rfl J.out ?_;(try go_simp);refine zT 12 rfl J.out ?_;(try go_simp);refine zT 13 rfl J.out ?_;(try go_simp);refine zT 14 rfl J.out ?_;(try go_simp);refine zT 15 rfl J.out ?_;(try go_simp);refine zT 16 rfl J.out ?_;(try go_simp);refine zT 17 rfl J.out ?_;(try go_simp);refine zO 18 rfl λK' A=> ?_;go_simp;obtain⟨G,hG⟩:=zE w5.heap.size;obtain⟨w8,ud⟩:=zE ((w5.alloc (ua #[tM nm] 9)).drew);(try rw[hG]);(try rw[ud]);have uc:bh w5.heap.size w5 w8:=by rw[<-ud];exact((aq _ _).alloc (ce _) _).drew
  have vf:w8.heap[G]?=tB (ua #[tM nm] 9 (0,0)):=by rw[<-ud,<-hG];exact alloc_at _ _
  have va:S7 w8:=yr.out _ uc;refine A _ _ va ?_;clear A;(try go_simp);refine zO 19 rfl λK' A=> ?_;have vc:aK (λx:aE×bx=>#[tM x.1]) 1 w8 w8.heap.size (tB ⟨b,AK,fp⟩) S:=by rw[<-hA];exact(vd.out.grow uc).seen
  have vh:=iY (f:=λx:aE×bx=>fh x.1) vc;refine bZ (.tmp 54) (.tmp 57) 223 rfl 9 i0 _ 1 16 qS vy we wg wi rfl (by decide) (tB ⟨b,AK,fp⟩) S.length S.length (S.map λx:aE×bx=>fh x.1) rfl (λh=>by cases h) (ko _ _) vh ⟨G,0,tD⟩ 1 1 [tM nm] rfl rfl (λjj uu hu=>by rw[dc,cV,cc _ _ _ _ _ _ vf];simpa using hu) (by simp[cj]) (by omega) (by unfold dT;omega) (by omega) ?_;intro v9 w9 uv vi;have vj:Ext (λ_=>mb) w8 w9:=Ext.of_grown vi (λq hq=>by cases hq);have ue:bh w5.heap.size w5 w9:=uc.trans (vj.below uc.size (λq h=>h.elim));have ux:S7 w9:=yr.out _ ue;obtain⟨xl,c9,vq⟩:=ai uv;subst vq;refine A _ _ ux ?_;clear A;(try go_simp);refine zT 20 rfl J.out ?_;(try go_simp);refine zT 21 rfl J.out ?_;(try go_simp);have xo:=vd.out.grow ue;have xp:=(rowAt xo.row 12 rfl).2;obtain⟨x0,x1⟩:=J.out w9 ux;refine zK rfl λK' A=> ?_;go_simp;refine A _ _ ?_;clear A;refine⟨by kernel_rfl, ?_⟩;obtain⟨D,wj⟩:=zE (w9.setCell ⟨m,12,tD⟩ (tP xl (S.length+1) c9));(try rw[wj]);have xr:Ext (·=m) w9 D:=by rw[<-wj];exact Ext.set1 w9 m 12 _
  have xt:D.heap[m]?=tB (ua (IB p X s5 V2.length I2.length (tP xl (S.length+1) c9) (tP s5.wA S.length s5.wC)) 236 (0,0)):=by rw[<-wj];exact bk w9 m 12 _ _ _ xo.row
  have AM:m<w8.heap.size:=by have:=uc.size;omega
  have yv:D.ownsRow w5.heap.size 9 1 (tP xl (S.length+1) c9) (S.length+1) ((S++[(nm,V.length)]).map λx:aE×bx=>fh x.1):=by
   rw[fL];exact aU (af uv xr (λk hk e=>by have:=(au uv hk).1;omega)) uc.size
  have xF:Ext (·=m) w5 D:=(Ext.of_below_size (M:=(·=m)) ue).trans xr (λq h=> .inl h);have yy:aK (λx:aE×bx=>#[Z U (x.2:bp)]) 1 D D.heap.size s5.wA S:=vd.out.whic.stay xF (λa AN e=>(vd.out.ns a AN (.inr e)).1);have wk:=ae xt;have yW:=zH xF;have vm:=zH xt;have zc:=zH yv;have zd:=zH yy;have CA:=vd.out.cS.2;have CC:(S.length:bp)<=(s5.wC:bp):=by omega
  clear xr xt AM yv xF yy wj xo xp x0 x1 uv vi vj ue ux vh vc vf uc ud va hG By At As i0 vy we wg wi BT BY;obtain⟨i0,vy,we,wg,wi⟩:=gA oh
  go_upto_region 8 with(fail)
  obtain⟨S8,va⟩:=zE ((λw'=>bh D.heap.size D w'):World->Prop);have CD:S8 D.drew:=by rw[<-va];exact(aq _ _).drew
  have vp:∀W,S8 W->bh D.heap.size D W:=λW hW=>by rw[<-va] at hW;exact hW
  have wl:∀W,bh D.heap.size D W->S8 W:=λW hW=>by rw[<-va];exact hW
  rcases ws:s5.wA with _|⟨b2,xT,ya⟩
  ·have vr:∀W,S8 W->W.cell? ⟨m,13,tD⟩=tB (tP tD S.length s5.wC):=λW hW=>by
    rw[<-ws];exact(rowAt (((vp W hW).block m wk).trans vm.out) 13 rfl).1
   have v:=zH vr;have vu:=zH wl;have AS:=zH vp;clear vr wl vp va;refine ak 21 S8 (by kernel_rfl) ?_;refine zT 0 rfl v.out ?_;(try go_simp);refine zT 1 rfl v.out ?_;(try go_simp);refine zT 2 rfl v.out ?_;(try go_simp);refine zT 3 rfl v.out ?_;(try go_simp);refine zT 4 rfl v.out ?_;(try go_simp);refine zT 5 rfl v.out ?_;(try go_simp);refine zT 6 rfl v.out ?_;(try go_simp);refine zT 7 rfl v.out ?_;(try go_simp);refine zT 8 rfl v.out ?_;(try go_simp);refine zT 9 rfl v.out ?_;(try go_simp);refine zT 10 rfl v.out ?_;(try go_simp);refine zT 11 rfl v.out ?_;(try go_simp);refine zT 12 rfl v.out ?_;(try go_simp);refine zT 13 rfl v.out ?_;(try go_simp);refine zT 14 rfl v.out ?_;(try go_simp);refine zT 15 rfl v.out ?_;(try go_simp);refine zT 16 rfl v.out ?_;(try go_simp);refine zO 17 rfl λK' A=> ?_;go_simp;obtain⟨G,hG⟩:=zE D.heap.size;obtain⟨w8,ud⟩:=zE ((D.alloc (ua #[Z U (V.length:bp)] 3)).drew);(try rw[hG]);(try rw[ud]);have uc:bh D.heap.size D w8:=by rw[<-ud];exact((aq _ _).alloc (ce _) _).drew
   have vf:w8.heap[G]?=tB (ua #[Z U (V.length:bp)] 3 (0,0)):=by rw[<-ud,<-hG];exact alloc_at _ _
   have yb:S8 w8:=vu.out _ uc;refine A _ _ yb ?_;clear A;(try go_simp);refine zO 18 rfl λK' A=> ?_;have vc:aK (λx:aE×bx=>#[Z U (x.2:bp)]) 1 w8 w8.heap.size tD S:=by rw[<-ws];exact zd.out.stay (Ext.of_below_size (M:=λ_=>mb) uc) (λ_ _ _ h=>h)
   have xj:cm (S.length=0):=by
    by_cases h:S=[]
    ·unfold cm;rw[h];rfl
    ·obtain⟨_,_,h1,_⟩:=vc h;cases h1
   have vh:=iY (f:=λx:aE×bx=>eE .i64 (x.2:bp)) vc;refine bZ (.tmp 76) (.tmp 78) 35 rfl 3 i0 _ 1 8 iu vy we wg wi rfl (by decide) tD S.length S.length (S.map λx:aE×bx=>eE .i64 (x.2:bp)) rfl (λ_=>⟨xj.out,xj.out⟩) (ko _ _) vh ⟨G,0,tD⟩ 1 1 [Z U (V.length:bp)] rfl rfl (λjj uu hu=>by rw[dc,cV,cc _ _ _ _ _ _ vf];simpa using hu) (by simp[cj]) (by omega) (by unfold dT;omega) (by omega) ?_;intro v9 ur uv vi;have vj:Ext (λ_=>mb) w8 ur:=Ext.of_grown vi (λq hq=>by cases hq);have ue:bh D.heap.size D ur:=uc.trans (vj.below uc.size (λq h=>h.elim));have ux:S8 ur:=vu.out _ ue;obtain⟨yd,cW,vq⟩:=ai uv;subst vq;refine A _ _ ux ?_;clear A;(try go_simp);refine zT 19 rfl v.out ?_;(try go_simp);refine zT 20 rfl v.out ?_;(try go_simp);have ye:=(ue.block m wk).trans vm.out;have xp:=(rowAt ye 13 rfl).2;have x0:=v.out ur ux;refine zK rfl λK' A=> ?_;go_simp;refine A _ _ ?_;clear A;refine⟨by kernel_rfl, ?_⟩;have vx:dx m p L X V2 I2 (S++[(nm,V.length)]) O w (ur.setCell ⟨m,13,tD⟩ (tP yd (S.length+1) cW)):=oG zv.out Ax.out AD.out vd.out yW.out vm.out zc.out ue (by have:=uc.size;exact uc.size) (by rw[fL];exact uv) zj;have yi:=zH vx;clear vx;go_wp2
   go_end0
   exact⟨rfl,yi.out⟩
  ·have vr:∀W,S8 W->W.cell? ⟨m,13,tD⟩=tB (tP (tB ⟨b2,xT,ya⟩) S.length s5.wC):=λW hW=>by
    rw[<-ws];exact(rowAt (((vp W hW).block m wk).trans vm.out) 13 rfl).1
   have v:=zH vr;have vu:=zH wl;have AS:=zH vp;clear vr wl vp va;refine ak 21 S8 (by kernel_rfl) ?_;refine zT 0 rfl v.out ?_;(try go_simp);refine zT 1 rfl v.out ?_;(try go_simp);refine zT 2 rfl v.out ?_;(try go_simp);refine zT 3 rfl v.out ?_;(try go_simp);refine zT 4 rfl v.out ?_;(try go_simp);refine zT 5 rfl v.out ?_;(try go_simp);refine zT 6 rfl v.out ?_;(try go_simp);refine zT 7 rfl v.out ?_;(try go_simp);refine zT 8 rfl v.out ?_;(try go_simp);refine zT 9 rfl v.out ?_;(try go_simp);refine zT 10 rfl v.out ?_;(try go_simp);refine zT 11 rfl v.out ?_;(try go_simp);refine zT 12 rfl v.out ?_;(try go_simp);refine zT 13 rfl v.out ?_;(try go_simp);refine zT 14 rfl v.out ?_;(try go_simp);refine zT 15 rfl v.out ?_;(try go_simp);refine zT 16 rfl v.out ?_;(try go_simp);refine zO 17 rfl λK' A=> ?_;go_simp;obtain⟨G,hG⟩:=zE D.heap.size;obtain⟨w8,ud⟩:=zE ((D.alloc (ua #[Z U (V.length:bp)] 3)).drew);(try rw[hG]);(try rw[ud]);have uc:bh D.heap.size D w8:=by rw[<-ud];exact((aq _ _).alloc (ce _) _).drew
   have vf:w8.heap[G]?=tB (ua #[Z U (V.length:bp)] 3 (0,0)):=by rw[<-ud,<-hG];exact alloc_at _ _
   have yb:S8 w8:=vu.out _ uc;refine A _ _ yb ?_;clear A;(try go_simp);refine zO 18 rfl λK' A=> ?_;have vc:aK (λx:aE×bx=>#[Z U (x.2:bp)]) 1 w8 w8.heap.size (tB ⟨b2,xT,ya⟩) S:=by rw[<-ws];exact zd.out.stay (Ext.of_below_size (M:=λ_=>mb) uc) (λ_ _ _ h=>h)
   have vh:=iY (f:=λx:aE×bx=>eE .i64 (x.2:bp)) vc;refine bZ (.tmp 76) (.tmp 78) 35 rfl 3 i0 _ 1 8 iu vy we wg wi rfl (by decide) (tB ⟨b2,xT,ya⟩) S.length S.length (S.map λx:aE×bx=>eE .i64 (x.2:bp)) rfl (λh=>by cases h) (ko _ _) vh ⟨G,0,tD⟩ 1 1 [Z U (V.length:bp)] rfl rfl (λjj uu hu=>by rw[dc,cV,cc _ _ _ _ _ _ vf];simpa using hu) (by simp[cj]) (by omega) (by unfold dT;omega) (by omega) ?_;intro v9 ur uv vi;have vj:Ext (λ_=>mb) w8 ur:=Ext.of_grown vi (λq hq=>by cases hq);have ue:bh D.heap.size D ur:=uc.trans (vj.below uc.size (λq h=>h.elim));have ux:S8 ur:=vu.out _ ue;obtain⟨yd,cW,vq⟩:=ai uv;subst vq;refine A _ _ ux ?_;clear A;(try go_simp);refine zT 19 rfl v.out ?_;(try go_simp);refine zT 20 rfl v.out ?_;(try go_simp);have ye:=(ue.block m wk).trans vm.out;have xp:=(rowAt ye 13 rfl).2;have x0:=v.out ur ux;refine zK rfl λK' A=> ?_;go_simp;refine A _ _ ?_;clear A;refine⟨by kernel_rfl, ?_⟩;have vx:dx m p L X V2 I2 (S++[(nm,V.length)]) O w (ur.setCell ⟨m,13,tD⟩ (tP yd (S.length+1) cW)):=oG zv.out Ax.out AD.out vd.out yW.out vm.out zc.out ue (by have:=uc.size;exact uc.size) (by rw[fL];exact uv) zj;have yi:=zH vx;clear vx;go_wp2
   go_end0
   exact⟨rfl,yi.out⟩
def Eo (m:bx)(p:Pg)(L:bx)(X:Fx)(V:bm Ty)(I:bm gB)(S:bm (aE×bx))(s:Sm)(V2:bm Ty)(I2:bm gB)(d:bm (aE×bx)):Prop:=
 ∀(W:World)(O:bx->Prop)(f:Sl),Mk m p L X V I S O f W->gd ac 180 #[tR (tB ⟨m,0,tD⟩),tW s.cells] W λe w'=>e= ub (.tuple #[])/\dx m p L X V2 I2 d O W w'
inductive kN (m:bx) (p:Pg) (L:bx) (X:Fx):bm Ty->bm gB->bm (aE×bx)->bm Sm->bm Ty->bm gB->Prop
 |nil (V:bm Ty) (I:bm gB) (S:bm (aE×bx)):kN m p L X V I S [] V I
 |cons (V V1 V2:bm Ty) (I I1 I2:bm gB) (S S1:bm (aE×bx)) (s:Sm) (l:bm Sm):Eo m p L X V I S s V1 I1 S1->kN m p L X V1 I1 S1 l V2 I2->kN m p L X V I S (s::l) V2 I2
def IE (m:bx)(p:Pg)(L:bx)(X:Fx)(V2:bm Ty)(I2:bm gB)(O:bx->Prop)(w:World)(k:cd)(wr:World):Prop:=
 ∃(j:bx) (V:bm Ty) (I:bm gB) (S:bm (aE×bx)) (d:bx->Prop) (s:Sl),k= Z U (j:bp)/\j<=p.ss.length/\kN m p L X V I S (p.ss.drop j) V2 I2/\Mk m p L X V I S d s wr/\Ext (λq=>q=m\/O q) w wr/\∀k,d k->O k\/w.heap.size<=k
theorem uZ {m:bx}{p:Pg}{L:bx}{X:Fx}{V V2:bm Ty}{I I2:bm gB}{O:bx->Prop}{s:Sl}(w:World)(h:Mk m p L X V I [] O s w)(A:kN m p L X V I [] p.ss V2 I2)(vy:p.ss.length<=1000)(ue:p.ss≠[]):
  gd ac 132 #[tR (tB ⟨m,0,tD⟩),tP p.bA p.ss.length p.bC] w λe w'=>e= ub (.tuple #[])/\dx m p L X V2 I2 [] O w w':=by
 obtain⟨b,we,hA,wg,_⟩:=h.pg.st ue;have wi:=ae h.row;have ur:w.cell? ⟨m,12,tD⟩=tB (tP s.sA 0 s.sC):=(rowAt h.row 12 rfl).1;have H:=zH h;have HA:=zH hA;have HK:=zH A;have HL:=h.hm;rw[hA];clear h hA A ue;go_enter func132,ntmps132
 go_upto_region 2 with(fail)
 clear ur
 go_loopw [5] (λk wr=>IE m p L X V2 I2 O w k wr) (λk _=>p.ss.length-(intOf k).toNat)
 case atStart=>exact⟨0,V,I,[],O,s,rfl,cN _,HK.out,H.out,Ext.refl _ _,λk A=> .inl A⟩
 case round=>
  obtain⟨j,V1,I1,S1,O1,s1,rfl,hj,uc,f,hx,ho⟩:=hrel;have vp:=zH f;have HX:=zH hx;have HO:=zH ho
  by_cases D:j<p.ss.length
  ·have wj:(j:bp)<(p.ss.length:bp):=by omega
   obtain⟨x,d⟩:∃x,p.ss[j]?=tB x:=⟨_,am D⟩
   have uv:p.ss.drop j=x::p.ss.drop (j+1):=by
    rw[eR D];have:p.ss[j]=x:=by rw[am D] at d;exact cD d
    rw[this]
   rw[uv] at uc;cases uc with
   |cons _ V3 _ _ I3 _ _ S3 _ _ hst ux=>
    have va:=cf d;obtain⟨⟨ao,n,cp,hE⟩,_⟩:=f.pg.sm va;obtain⟨b',wk,h1,h2,u⟩:=f.pg.st (by intro e;rw[e] at D;simp at D);rw[HA.out] at h1;simp only[dt,eW,pc] at h1;obtain⟨rfl,rfl⟩:=h1;have k0:=u j x d 0 _ rfl;have k1:=u j x d 1 _ rfl;have k2:=u j x d 2 _ rfl;have k3:=u j x d 3 _ rfl;have k4:=u j x d 4 _ rfl;have k5:=u j x d 5 _ rfl;have k6:=u j x d 6 _ rfl;have k7:=u j x d 7 _ rfl;have k8:=u j x d 8 _ rfl;rw[mx] at k0;rw[hE] at k4;have wl:b<wr.heap.size:=bl h2 f.pg.lo;have ws:j<=p.bC:=by have:=f.pg.cb;omega
    have ud:=hst wr O1 s1 f;unfold Sm.cells at ud;rw[hE] at ud;have vq:=zH ud;have vr:=zH ux;clear f hx ho d uv hst ux va hE u ud
    go_wp2_with (go_at_call 180;refine vq.out.mono ?_;rintro en w5 ⟨rfl,O5,s5,vc,vd,vf⟩;have vh:=zH vc;have vi:=zH vd;have vj:=zH vf;clear vc vd vf)
    go_roundw
    case rel=>
     have wx:dx m p L X V3 I3 S3 O w w5:=dx.trans HX.out HO.out ⟨O5,s5,vh.out,vi.out,vj.out⟩;refine⟨j+1,V3,I3,S3,O5,s5,by go_num,D,vr.out,vh.out,HX.out.trans vi.out (λq v=> ?_),λk A=> ?_⟩
     ·rcases v with h|h
      ·exact .inl (.inl h)
      ·rcases HO.out q h with h|h
       ·exact .inl (.inr h)
       ·exact .inr h
     ·rcases vj.out k A with h|h
      ·exact HO.out k h
      ·exact .inr (cY HX.out.size h)
    case measure=>simp[intOf];omega
  ·have vu:j=p.ss.length:=by omega
   have vx:p.ss.drop j=[]:=by rw[vu];simp
   rw[vx] at uc;cases uc;have G:=f.row;have xf:=ae G;have f12:wr.frozen? ⟨m,12,tD⟩=tG:=(rowAt G 12 rfl).2;have ur:wr.cell? ⟨m,12,tD⟩=tB (tP s1.sA S1.length s1.sC):=(rowAt G 12 rfl).1;have f13:wr.frozen? ⟨m,13,tD⟩=tG:=(rowAt G 13 rfl).2;have xj:wr.cell? ⟨m,13,tD⟩=tB (tP s1.wA S1.length s1.wC):=(rowAt G 13 rfl).1;have xl:=f.cS;clear f hx G ho;go_wp2
   go_end0
   have J:Ext (·=m) wr ((wr.setCell ⟨m,12,tD⟩ (tP s1.sA 0 s1.sC)).setCell ⟨m,13,tD⟩ (tP s1.wA 0 s1.wC)):=(Ext.set1 wr m 12 _).trans (Ext.set1 _ m 13 _) (λq h=> .inl h);have k:=vp.out;have vm:∀q,O1 q->q≠m:=λq h=>by have:=(k.ol q h).1;omega
   refine⟨rfl,O1,s1,⟨?_,k.pg.ext J (λq v e=>by omega),k.hm,af k.vars J (λq v e=>vm q (k.ov q v) e),af k.ins J (λq v e=>vm q (k.oi q v) e),k.dis,k.ov,k.oi,λq v=>⟨(k.ol q v).1,bl (k.ol q v).2 J.size⟩,λh=>fW rfl h,λh=>fW rfl h,λa h=>fW rfl h,k.lV,k.lI,by simp,⟨cN _,cN _⟩⟩,HX.out.trans J (λq h=> .inl (.inl h)),HO.out⟩;exact bk _ m 13 _ _ _ (bk wr m 12 _ _ _ k.row)
def gB.ins (i:gB):Ins:=⟨i.op,i.d,i.a,0,i.f,i.n,⟨#[]⟩,tP tD 0 0,tP tD 0 0,0,0,i.ln,i.cl,[]⟩
def Ep (y:Ty):Vr:=⟨y.1,y.2,0⟩
def nP (p:Pg)(V:bm Ty)(I:bm gB)(s:Sl):Fn:=
 ⟨⟨p.nm,0,s.vA,V.length,s.vC,p.ret.1,p.ret.2,0,tD,0,0,s.iA,s.iC,I.map gB.ins⟩,V.map Ep,[],I.map λ_=>[]⟩
def FC (p:Pg):St:=⟨⟨p.snm,p.fA,p.fs.length,p.fC,p.sl,p.sc⟩,p.fs⟩
def jB (p:Pg)(V:bm Ty)(I:bm gB)(s:Sl)(d:bx)(f:bx):Mo:=⟨tB ⟨p.pA,0,tD⟩,p.pC,tB ⟨d,0,tD⟩,f,[FC p],[nP p V I s]⟩
def X0 (p:Pg):Fx:=⟨p.ret,p.nm,Z U 0,tU p.ret.1,tM p.ret.2,Z U 0,tP tD 0 0,tP tD 0 0,tP tD 0 0⟩
def Gr (p:Pg)(d f:bx)(s:Sl):bm cd:=[tM p.nm,Z U 0,tP s.vA d s.vC,tU p.ret.1,tM p.ret.2,Z U 0,tP tD 0 0,tP s.iA f s.iC]
theorem CX (I:bm gB):I.flatMap Ho=(I.map gB.ins).flatMap λx=>x.cells.toList:=by
 induction I with
 |nil=>rfl
 |cons a I ih=>rw[el,lP,el,ih];rfl
theorem CY (V:bm Ty):V.flatMap Hq=(V.map Ep).flatMap λx=>x.cells.toList:=by
 induction V with
 |nil=>rfl
 |cons a V ih=>rw[el,lP,el,ih];rfl
theorem Er {p:Pg}{L:bx}{V:bm Ty}{I:bm gB}{s:Sl}{w:World}{G D B1 B2 J:bx}(q:jA p L w)(hn:p.nm.size<=dT)(ud:p.snm.size<=dT)(ue:∀f∈p.fs,f.nm.size<=dT)
  (hv:w.ownsRow B1 34 3 (tP s.vA V.length s.vC) V.length (V.flatMap Hq))(hi:w.ownsRow B2 42 13 (tP s.iA I.length s.iC) I.length (I.flatMap Ho))
  (hf:w.ownsRow J 38 8 (tP (tB ⟨G,0,tD⟩) 1 D) 1 (Gr p V.length I.length s))(lV:V.length<=1000)(lI:I.length<=1000):(jB p V I s G D).inn w:=by
 have uc:aK Vr.cells 3 w w.heap.size s.vA (V.map Ep):=eD (cells:=Vr.cells) (m:=3) (λ_=>rfl) (by rw[<-CY];exact hv) (by simp);have ur:jL w w.heap.size s.iA (I.map gB.ins):=eD (cells:=Ins.cells) (m:=13) (λ_=>rfl) (by rw[<-CX];exact hi) (by simp);have va:dT=9223372036854775807:=rfl;refine⟨λ_=>⟨p.pA,0,rfl,bl q.pA q.lo,λi x d k u hu=> ?_⟩,eD (cells:=Fn.cells) (m:=8) (λ_=>rfl) (l:=[nP p V I s]) (n:=1) (c:=D) (base:=J) (e:=38) ?_ rfl,λx d=> ?_,λx d=> ?_,by simp[jB,dT],by simp[jB,dT]⟩
 ·cases i with
  |succ i=>simp[jB] at d
  |zero=>
   obtain rfl:FC p=x:=by simpa[jB] using d
   have:=q.s k u hu;simpa using this
 ·simp only[el,List.flatMap_nil,mj]
  have he:(nP p V I s).cells.toList=Gr p V.length I.length s:=by simp[nP,Fn.cells,qp.cells,Gr]
  rw[he];exact hf
 ·obtain rfl:x=FC p:=by simpa[jB] using d
  exact⟨rfl,λuv=>(let ⟨b,ux,v,A,h3⟩:=q.fd uv;⟨b,ux,v,bl A q.lo,h3⟩),by have:=q.lfs;show p.fs.length<=_;omega,ud,ue⟩
 ·obtain rfl:x=nP p V I s:=by simpa[jB] using d
  refine⟨⟨ur,λx d=> ?_,by simp only[nP,ei];omega,⟨V.map Ep,by simp[nP],uc⟩,by simp only[nP];omega,by simp[nP,dT],⟨[],rfl,λh=>fW rfl h⟩⟩,hn,by simp[nP],uc,rfl,λh=>fW rfl h,by simp[nP],λk i l v A=> ?_⟩
  ·simp only[nP,dy] at d
   obtain⟨y,_,rfl⟩:=d;exact⟨⟨⟨tD,0,rfl⟩,tD,0,0,rfl⟩,tD,0,rfl,λh=>fW rfl h⟩
  ·simp only[nP,fj,i8] at v A
   obtain⟨y,_,rfl⟩:=v;obtain⟨_,_,rfl⟩:=A;exact⟨tD,0,rfl,λh=>fW rfl h⟩
def Cs (w:World)(p:Pg)(V:bm Ty)(I:bm gB)(e:Ending)(w':World):Prop:=
 ∃s d f,e= ub (.tuple #[tW (jB p V I s d f).cells,tW #[Z U 0,Z U 0,Z U 0,Z U 0]])/\w'.ownsRow w.heap.size 34 3 (tP s.vA V.length s.vC) V.length (V.flatMap Hq)/\w'.ownsRow w.heap.size 42 13 (tP s.iA I.length s.iC) I.length (I.flatMap Ho)/\w'.ownsRow w.heap.size 38 8 (tP (tB ⟨d,0,tD⟩) 1 f) 1 (Gr p V.length I.length s)/\bh w.heap.size w w'
theorem Bl:(ac.info? 38).map (λi=>(i.zero,i.size,i.bytes))=tB (tB (tW #[tM ⟨#[]⟩,Z U 0,tP tD 0 0,tU tG,tM ⟨#[]⟩,Z U 0,tP tD 0 0,tP tD 0 0]),8,128):=by kernel_rfl
theorem nQ {w:World}:∀(c:da cd),c.size=4->(dr ⟨w.heap.size,0,tD⟩ [Z U 0,Z U 0,Z U 0,Z U 0] 0).run ac (w.alloc (ua c 113))= .ok () (w.alloc (ua #[Z U 0,Z U 0,Z U 0,Z U 0] 113)):=λc d=>
 ct (P:=ac) w 113 c #[Z U 0,Z U 0,Z U 0,Z U 0] (by show _=tB 4;kernel_rfl) d (by simp[cj])
theorem Es {p:Pg}{w:World}:∀(c:da cd),c.size=7->(dr ⟨w.heap.size,0,tD⟩ [tM p.nm,tP tD 0 0,tU p.ret.1,tM p.ret.2,tP p.bA p.ss.length p.bC,Z U p.gl,Z U p.gc] 0).run ac (w.alloc (ua c 233))= .ok () (w.alloc (ua #[tM p.nm,tP tD 0 0,tU p.ret.1,tM p.ret.2,tP p.bA p.ss.length p.bC,Z U p.gl,Z U p.gc] 233)):=λc d=>
 ct (P:=ac) w 233 c #[tM p.nm,tP tD 0 0,tU p.ret.1,tM p.ret.2,tP p.bA p.ss.length p.bC,Z U p.gl,Z U p.gc] (by show _=tB 7;kernel_rfl) d (by simp[cj])
theorem Et {a:eA Addr}{c1:bx}{w:World}:∀(c:da cd),c.size=2->(dr ⟨w.heap.size,0,tD⟩ [tP a 1 c1,tP tD 0 0] 0).run ac (w.alloc (ua c 25))= .ok () (w.alloc (ua #[tP a 1 c1,tP tD 0 0] 25)):=λc d=>
 ct (P:=ac) w 25 c #[tP a 1 c1,tP tD 0 0] (by show _=tB 2;kernel_rfl) d (by simp[cj])
structure Iu (N E:bx)(p:Pg)(L:bx)(w W:World)(out:cd):Prop where
 pg:jA p L W
 lN:L<=N
 r0:W.heap[N]?=tB (ua p.cells 179 (0,0))
 r1:W.heap[N+1]?=tB (ua #[tP tD 0 0,tP tD 0 0] 25 (0,0))
 r2:W.heap[N+2]?=tB (ua #[Z U 0,Z U 0,Z U 0,Z U 0] 113 (0,0))
 rE:W.heap[E]?=tB (ua #[tP (tB ⟨p.pA,0,tD⟩) 1 p.pC,out] 25 (0,0))
 hE:N+2<E
 low:bh N w W
def IR (N E:bx)(p:Pg)(L:bx)(V:bm Ty)(I:bm gB)(w:World)(k:cd)(W:World):Prop:=
 (k= Z U 0/\Iu N E p L w W (tP tD 0 0))\/(k= Z U 1/\∃s d f,Iu N E p L w W (tP (tB ⟨d,0,tD⟩) 1 f)/\W.ownsRow (E+1) 34 3 (tP s.vA V.length s.vC) V.length (V.flatMap Hq)/\W.ownsRow (E+1) 42 13 (tP s.iA I.length s.iC) I.length (I.flatMap Ho)/\W.ownsRow (E+1) 38 8 (tP (tB ⟨d,0,tD⟩) 1 f) 1 (Gr p V.length I.length s))
theorem ve {p:Pg}{L:bx}{V:bm Ty}{I:bm gB}(w:World)(h:jA p L w)(ho:Fy p)(hst:∀m,kN m p L (X0 p) [] [] [] p.ss V I)(lV:V.length<=300)(lI:I.length<=1000):
  gd ac 93 #[tW p.cells] w (Cs w p V I):=by
 obtain⟨N,hN⟩:=zE w.heap.size;have B5:L<=N:=by have:=h.lo;omega
 obtain⟨A,ue⟩:=zE (((w.alloc (ua #[tP (tB ⟨p.pA,0,tD⟩) 1 p.pC,tP (tB ⟨p.qA,0,tD⟩) 1 p.qC] 179)).alloc (ua #[tP tD 0 0,tP tD 0 0] 25)).alloc (ua #[Z U 0,Z U 0,Z U 0,Z U 0] 113));have xj:bh N w A:=by rw[<-ue,<-hN];exact(((aq _ _).alloc (ce _) _).alloc (by simp) _).alloc (by simp;omega) _
 have yv:A.heap.size=N+3:=by rw[<-ue];simp[hN]
 have xl:A.heap[N]?=tB (ua #[tP (tB ⟨p.pA,0,tD⟩) 1 p.pC,tP (tB ⟨p.qA,0,tD⟩) 1 p.qC] 179 (0,0)):=by
  rw[<-ue];refine(cn _ _ N (by simp;omega)).trans ?_;rw[<-hN];exact ia _ _ _
 have vd:A.heap[N+1]?=tB (ua #[tP tD 0 0,tP tD 0 0] 25 (0,0)):=by
  rw[<-ue];refine(cn _ _ (N+1) (by simp;omega)).trans ?_;rw[<-hN];exact lx _ _ _
 have vf:A.heap[N+2]?=tB (ua #[Z U 0,Z U 0,Z U 0,Z U 0] 113 (0,0)):=by
  rw[<-ue];have:=alloc_at ((w.alloc (ua #[tP (tB ⟨p.pA,0,tD⟩) 1 p.pC,tP (tB ⟨p.qA,0,tD⟩) 1 p.qC] 179)).alloc (ua #[tP tD 0 0,tP tD 0 0] 25)) (ua #[Z U 0,Z U 0,Z U 0,Z U 0] 113);simpa[hN] using this
 have xo:=h.grow (show bh w.heap.size w A by rw[hN];exact xj);have B6:cm (zP 130 #[tW #[tP (tB ⟨p.pA,0,tD⟩) 1 p.pC,tP (tB ⟨p.qA,0,tD⟩) 1 p.qC]] A (tW #[Z U 0,Z U 0,Z U 0,Z U 0])):=uY A xo ho;have B8:=zH xo;have HO:=zH ho;have B9:=zH hst;have Cd:=zH ue;have Cl:=zH xj;have ux:=zH yv;have yy:=zH xl;have xp:=zH vd;have xr:=zH vf;obtain⟨⟨a0,a1⟩,_,yW⟩:=cB xl;unfold Pg.cells;clear h ho hst ue xj xl vd vf xo yv;go_enter func93,ntmps93
 go_upto_region 1 with(fail)
 rw[Cd.out]
 go_upto_region 2 with(go_at_call 130;refine B6.out.mono ?_;rintro en w4 ⟨rfl,zc⟩;have Cp:=nQ (w:=w4);have vr:=zH zc;clear zc)
 obtain⟨D,hD⟩:=zE w4.heap.size;obtain⟨W5,vh⟩:=zE (w4.alloc (ua #[Z U 0,Z U 0,Z U 0,Z U 0] 113));rw[hD,vh];have zd:=iq vh;have zj:W5.heap[D]?=tB (ua #[Z U 0,Z U 0,Z U 0,Z U 0] 113 (0,0)):=by rw[<-vh,<-hD];exact alloc_at _ _
 have xt:bh A.heap.size A W5:=vr.out.trans (zd.mono vr.out.size);have zp:D+1=W5.heap.size:=by rw[<-vh];simp[hD]
 have CA:N+2<D:=by have:=vr.out.size;have:=ux.out;omega
 clear Cp a0 a1 hD vh zd yW;have zr:=(xt.block N (by rw[ux.out];omega)).trans yy.out;obtain⟨⟨a0,a1⟩,_,CC⟩:=cB zr;obtain⟨⟨e0,e1,e2,e3⟩,_,CD⟩:=mY zj;have CH:=Et (a:=tB ⟨p.pA,0,tD⟩) (c1:=p.pC) (w:=W5);obtain⟨E,hE⟩:=zE W5.heap.size;have xF:=zH xt;have zv:=zH zp;clear xt zj zr zp
 go_upto_region 6 with(fail)
 clear CH;obtain⟨W6,vu⟩:=zE (W5.alloc (ua #[tP (tB ⟨p.pA,0,tD⟩) 1 p.pC,tP tD 0 0] 25));rw[vu];(try rw[hE]);have An:=iq vu;have As:W6.heap[E]?=tB (ua #[tP (tB ⟨p.pA,0,tD⟩) 1 p.pC,tP tD 0 0] 25 (0,0)):=by rw[<-vu,<-hE];exact alloc_at _ _
 have va:bh A.heap.size A W6:=xF.out.trans (An.mono xF.out.size);have CM:cm (Iu N E p L w W6 (tP tD 0 0)):=⟨B8.out.grow va,B5,(va.block N (by rw[ux.out];omega)).trans yy.out,(va.block (N+1) (by rw[ux.out];omega)).trans xp.out,(va.block (N+2) (by rw[ux.out];omega)).trans xr.out,As,by have:=zv.out;omega,Cl.out.trans (va.mono (by rw[ux.out];omega))⟩
 clear An As va vu e0 e1 e2 e3 a0 a1 CD CC CA zv xF hE vr
 go_loopw [6] (λk wr=>IR N E p L V I w k wr) (λk _=>1-(intOf k).toNat)
 case atStart=>exact .inl ⟨rfl,CM.out⟩
 case round=>
  obtain⟨wo,At⟩:=zE wr;rw[At] at hrel⊢;clear At wr;rcases hrel with⟨rfl,v⟩|⟨rfl,s,fA,fC,v,hv,hi,hf⟩
  ·have vx:=v.pg
   obtain⟨⟨a0,a1⟩,_,Ax⟩:=cB v.r0;have hf:=vx.f;have q0:=hf 0 _ rfl;have q1:=hf 1 _ rfl;have q2:=hf 2 _ rfl;have q3:=hf 3 _ rfl;have q4:=hf 4 _ rfl;have q5:=hf 5 _ rfl;have q6:=hf 6 _ rfl;have D3:p.qA<wo.heap.size:=bl vx.qA vx.lo;have CN:=Es (p:=p) (w:=wo);have d:=zH v;clear v vx hf
   go_upto_region 9 with(fail)
   clear CN a0 a1 q0 q1 q2 q3 q4 q5 q6;obtain⟨FB,vi⟩:=zE wo.heap.size;obtain⟨W7,vj⟩:=zE (wo.alloc (ua #[tM p.nm,tP tD 0 0,tU p.ret.1,tM p.ret.2,tP p.bA p.ss.length p.bC,Z U p.gl,Z U p.gc] 233));rw[vi,vj];have xT:=iq vj;have ya:W7.heap[FB]?=tB (ua #[tM p.nm,tP tD 0 0,tU p.ret.1,tM p.ret.2,tP p.bA p.ss.length p.bC,Z U p.gl,Z U p.gc] 233 (0,0)):=by rw[<-vj,<-vi];exact alloc_at _ _
   have AD:=(xT.block N Ax).trans d.out.r0;have AE:W7.heap.size=FB+1:=by rw[<-vj];simp[vi]
   obtain⟨⟨a0,a1⟩,_,CT⟩:=cB AD;obtain⟨⟨g0,g1,g2,g3,g4,g5,g6⟩,_,C3⟩:=dY ya;obtain⟨M,hM⟩:=zE W7.heap.size;have AF:=zH xT;have AG:=zH ya;have C4:=zH AE;have yb:=zH vi;clear vj xT ya AD AE vi
   go_upto_region 11 with(fail)
   obtain⟨W8,vy⟩:=zE (W7.alloc (ua (Fz p (X0 p) ⟨tD,0,tD,0,tD,0,tD,0⟩ 0 0 0) 236));have we:=vy;unfold Fz X0 at we;simp only at we;rw[we];(try rw[hM]);have wg:=iq vy;have AH:W8.heap[M]?=tB (ua (Fz p (X0 p) ⟨tD,0,tD,0,tD,0,tD,0⟩ 0 0 0) 236 (0,0)):=by rw[<-vy,<-hM];exact alloc_at _ _
   have yd:bh wo.heap.size wo W8:=AF.out.trans (wg.mono AF.out.size);have D4:FB+1=M:=by have:=C4.out;omega
   have C5:L<=M:=by have:=d.out.pg.lo;have:=yb.out;omega
   have AI:Mk M p L (X0 p) [] [] [] (λ_=>mb) ⟨tD,0,tD,0,tD,0,tD,0⟩ W8:=⟨AH,d.out.pg.grow yd,C5,World.ownsRow_nil _ _ _ _,World.ownsRow_nil _ _ _ _,λk h=>by simp[eJ] at h,λk h=>by simp[eJ] at h,λk h=>by simp[eJ] at h,λk h=>h.elim,λh=>fW rfl h,λh=>fW rfl h,λa h=>fW rfl h,by simp,by simp,by simp,by simp⟩
   have C6:=zH (uZ W8 AI (B9.out M) HO.out.ss HO.out.ne);have AK:=zH yd;have Ek:=zH ((wg.block FB (by omega)).trans AG.out);have AM:=(wg.block FB (by omega)).trans AG.out;clear a0 a1 g0 g1 g2 g3 g4 g5 g6 C3 CT;obtain⟨⟨g0,g1,g2,g3,g4,g5,g6⟩,_,C7⟩:=dY AM;clear vy we wg AH yd AI AM
   go_loopw [9] (λk wr=>k= Z U 0/\wr=W8) (λ_ _=>0)
   case atStart=>exact⟨rfl,rfl⟩
   case round=>
    obtain⟨rfl,hq⟩:=hrel;rw[hq];clear hq wr
    go_upto_region 16 with(go_at_call 132;refine C6.out.mono ?_;rintro en w9 ⟨rfl,O9,u,ye,AN,AS⟩;have vm:=zH ye;have AT:=zH AN;have EV:=zH AS;have uc:=ye.row;clear ye AN AS)
    have Dd:w9.cell? ⟨M,15,tD⟩=tB (Z U 0):=(rowAt uc 15 rfl).1;have c4:w9.cell? ⟨M,4,tD⟩=tB (tM p.nm):=(rowAt uc 4 rfl).1;have c5:w9.cell? ⟨M,5,tD⟩=tB (Z U 0):=(rowAt uc 5 rfl).1;have c6:w9.cell? ⟨M,6,tD⟩=tB (tP u.vA V.length u.vC):=(rowAt uc 6 rfl).1;have c7:w9.cell? ⟨M,7,tD⟩=tB (tU p.ret.1):=(rowAt uc 7 rfl).1;have c8:w9.cell? ⟨M,8,tD⟩=tB (tM p.ret.2):=(rowAt uc 8 rfl).1;have c9:w9.cell? ⟨M,9,tD⟩=tB (Z U 0):=(rowAt uc 9 rfl).1;have Dg:w9.cell? ⟨M,10,tD⟩=tB (tP tD 0 0):=(rowAt uc 10 rfl).1;have vc:w9.cell? ⟨M,11,tD⟩=tB (tP u.iA I.length u.iC):=(rowAt uc 11 rfl).1;have Do:=ae uc;clear uc g0 g1 g2 g3 g4 g5 g6 C7;have E0:decide ((300:bp)<(V.length:bp))=tG:=cL (by omega);have E3:decide ((3000:bp)<(I.length:bp))=tG:=cL (by omega);have E4:(V.length:bp)<=300:=by omega
    have E6:(I.length:bp)<=3000:=by omega
    go_upto_region 20 with(fail)
    have wi:w9.heap[E]?=tB (ua #[tP (tB ⟨p.pA,0,tD⟩) 1 p.pC,tP tD 0 0] 25 (0,0)):=AT.out.heap ((AK.out.block E (ae d.out.rE)).trans d.out.rE) (by have:=ae d.out.rE;have:=yb.out;rintro(h|h);omega;exact h);have AW:=ae wi;obtain⟨S1,yi⟩:=zE ((λW'=>bh w9.heap.size w9 W'):World->Prop);have A0:∀W,S1 W->bh w9.heap.size w9 W:=λW h=>by rw[<-yi] at h;exact h
    have yk:∀W,bh w9.heap.size w9 W->S1 W:=λW h=>by rw[<-yi];exact h
    have E7:S1 w9.drew:=yk _ (aq _ _).drew;have A2:∀W,S1 W->W.cell? ⟨E,1,tD⟩=tB (tP tD 0 0)/\W.cell? ⟨M,4,tD⟩=tB (tM p.nm)/\W.cell? ⟨M,5,tD⟩=tB (Z U 0)/\W.cell? ⟨M,6,tD⟩=tB (tP u.vA V.length u.vC)/\W.cell? ⟨M,7,tD⟩=tB (tU p.ret.1)/\W.cell? ⟨M,8,tD⟩=tB (tM p.ret.2)/\W.cell? ⟨M,9,tD⟩=tB (Z U 0)/\W.cell? ⟨M,10,tD⟩=tB (tP tD 0 0)/\W.cell? ⟨M,11,tD⟩=tB (tP u.iA I.length u.iC)/\M<W.heap.size/\E<W.heap.size:=λW hW=>by
     have hb:=A0 W hW;have r1:=(hb.block M Do).trans vm.out.row;have r2:=(hb.block E AW).trans wi;exact⟨(rowAt r2 1 rfl).1,(rowAt r1 4 rfl).1,(rowAt r1 5 rfl).1,(rowAt r1 6 rfl).1,(rowAt r1 7 rfl).1,(rowAt r1 8 rfl).1,(rowAt r1 9 rfl).1,(rowAt r1 10 rfl).1,(rowAt r1 11 rfl).1,ae r1,ae r2⟩
    have ur:=zH A2;have A4:=zH yk;have Ds:=zH wi;obtain⟨i0,DA,DB,DE,DG⟩:=gA Bl;clear yi A0 yk A2 wi Dd c4 c5 c6 c7 c8 c9 Dg vc;refine ak 9 S1 (by kernel_rfl) ?_;refine zT 0 rfl ur.out ?_;(try go_simp);refine zT 1 rfl ur.out ?_;(try go_simp);refine zT 2 rfl ur.out ?_;(try go_simp);refine zT 3 rfl ur.out ?_;(try go_simp);refine zT 4 rfl ur.out ?_;(try go_simp);refine zT 5 rfl ur.out ?_;(try go_simp);refine zO 6 rfl λK' hK=> ?_;go_simp;obtain⟨G,hG⟩:=zE w9.heap.size;obtain⟨yp,wj⟩:=zE ((w9.alloc (ua #[tM p.nm,Z U 0,tP u.vA V.length u.vC,tU p.ret.1,tM p.ret.2,Z U 0,tP tD 0 0,tP u.iA I.length u.iC] 38)).drew);(try rw[hG]);(try rw[wj]);have vp:bh w9.heap.size w9 yp:=by rw[<-wj];exact((aq _ _).alloc (ce _) _).drew
    have A5:yp.heap[G]?=tB (ua #[tM p.nm,Z U 0,tP u.vA V.length u.vC,tU p.ret.1,tM p.ret.2,Z U 0,tP tD 0 0,tP u.iA I.length u.iC] 38 (0,0)):=by rw[<-wj,<-hG];exact alloc_at _ _
    have DH:=vp.size;refine hK _ _ (A4.out _ vp) ?_;clear hK;(try go_simp);refine zO 7 rfl λK' hK=> ?_;refine aH (.tmp 121) (.tmp 126) 23 rfl (E+1) 38 i0 _ 8 128 underlying23 DA DB DE DG rfl (by decide) (tP tD 0 0) 0 [] rfl (World.ownsRow_nil _ _ _ _) (tB ⟨G,0,tD⟩) 1 1 (Gr p V.length I.length u) rfl rfl (λh=>by cases h) (λad DM jj uu hu=>by
     obtain rfl:(⟨G,0,tD⟩:Addr)=ad:=by simpa using DM
     rw[dc,cV,cc _ _ _ _ _ _ A5];simpa[Gr] using hu) (by simp[Gr,cj]) (by unfold dT;omega) (by omega) (by omega) ?_
    intro Fc uv wk A6 DO;have Bk:Ext (λ_=>mb) yp uv:=Ext.of_grown A6 (λq hq=>by cases hq);have wl:bh w9.heap.size w9 uv:=vp.trans (Bk.below vp.size (λq h=>h.elim));have Bm:S1 uv:=A4.out _ wl;obtain⟨ws,vc,DP,Fi,Fk⟩:=fG (n:=0) (by simpa using wk);subst DP;refine hK _ _ Bm ?_;clear hK;(try go_simp);refine zT 8 rfl ur.out ?_;(try go_simp);have wx:=(wl.block E AW).trans Ds.out;have DQ:=(rowAt wx 1 rfl).2;have DS:=(rowAt wx 1 rfl).1;refine zK rfl λK' hK=> ?_;go_simp;refine hK _ _ ?_;clear hK;refine⟨by kernel_rfl, ?_⟩;obtain⟨WF,vq⟩:=zE (uv.setCell ⟨E,1,tD⟩ (tP (tB ⟨ws,0,tD⟩) (0+1) vc));have yq:=vq;simp only[cV] at yq;(try rw[vq]);(try rw[yq]);have yr:Ext (·=E) uv WF:=by rw[<-vq];exact Ext.set1 uv E 1 _
    have By:WF.heap[E]?=tB (ua #[tP (tB ⟨p.pA,0,tD⟩) 1 p.pC,tP (tB ⟨ws,0,tD⟩) 1 vc] 25 (0,0)):=by rw[<-vq];exact bk uv E 1 _ _ _ wx
    have xf:Ext (·=E) w9 WF:=(Ext.of_below_size wl).trans yr (λq h=> .inl h);have ud:Ext (λq=>q=E\/q=M) wo WF:=((Ext.of_below_size AK.out).trans (AT.out.mono (λq h=>by rcases h with h|h;exact .inr h;exact h.elim)) (λq h=> .inl h)).trans (xf.mono (λq h=> .inl h)) (λq h=> .inl h);have Fl:=ae d.out.rE;have Fm:=yb.out;have D0:=d.out.hE;have D1:=d.out.lN;have BE:=d.out.pg.ext ud (λk J h=>by rcases h with h|h<;>omega);have BT:Iu N E p L w WF (tP (tB ⟨ws,0,tD⟩) 1 vc):=⟨BE,D1,ud.heap d.out.r0 (by rintro(h|h)<;>omega),ud.heap d.out.r1 (by rintro(h|h)<;>omega),ud.heap d.out.r2 (by rintro(h|h)<;>omega),By,D0,d.out.low.trans (ud.below (by omega) (λq h=>by rcases h with h|h<;>omega))⟩
    have D2:cm (IR N E p L V I w (Z U 1) WF):= .inr ⟨rfl,u,ws,vc,BT,aU (af vm.out.vars xf (λk J e=>by have:=(au vm.out.vars J).1;omega)) (by omega),aU (af vm.out.ins xf (λk J e=>by have:=(au vm.out.ins J).1;omega)) (by omega),af (by simpa using wk) yr (λk J e=>by have:=(au wk J).1;omega)⟩;clear vq yq yr By xf ud BE BT wk A6 DO Bk wl Bm DQ DS wx A5 wj vp hG DH;go_wp2;go_roundw
    case rel=>exact D2.out
    case measure=>simp[intOf]
  ·obtain⟨⟨a0,a1⟩,_,Ax⟩:=cB v.r0
   obtain⟨⟨m0,m1⟩,_,Fo⟩:=cB v.rE;obtain⟨⟨e0,e1⟩,⟨f0,f1⟩,Fr⟩:=cB v.r1;obtain⟨⟨d0,d1,d2,d3⟩,⟨g0,g1,g2,g3⟩,yW⟩:=mY v.r2;have vd:=v.r1;have vf:=v.r2;have q4:=v.pg.f 4 _ rfl;have d:=zH v;have HV:=zH hv;have HI:=zH hi;have HF:=zH hf;have xp:=zH vd;have xr:=zH vf;clear v hv hi hf vd vf;go_wp2;(try simp only[db,Exit.then]);have BY:∀W u0 u1,Ext (·=N+1) W ((W.setCell ⟨N+1,0,tD⟩ u0).setCell ⟨N+1,1,tD⟩ u1):=λW u0 u1=>ah (ah (Ext.refl _ _) _) _;have B4:∀W u0 u1 u2 u3,Ext (·=N+1+1) W ((((W.setCell ⟨N+1+1,0,tD⟩ u0).setCell ⟨N+1+1,1,tD⟩ u1).setCell ⟨N+1+1,2,tD⟩ u2).setCell ⟨N+1+1,3,tD⟩ u3):=λW u0 u1 u2 u3=>ah (ah (ah (ah (Ext.refl _ _) _) _) _) _;refine dv (dB rfl _ _ (N+1) (N+1+1) 25 113 _ _ (0,0) (0,0) _ _ rfl ((B4 _ _ _ _ _).heap (bv xp.out) (show¬N+1=N+1+1 by omega)) rfl (jd ((BY _ _ _).heap xr.out (show¬N+1+1=N+1 by omega))) fk (by kernel_rfl) ph (by kernel_rfl)) rfl ?_;have ud:=((BY wo (tP (tB ⟨p.pA,0,tD⟩) 1 p.pC) (tP (tB ⟨fA,0,tD⟩) 1 fC)).mono (λq h=>Or.inl h)).trans ((B4 _ (Z U 0) (Z U 0) (Z U 0) (Z U 0)).mono (λq h=>Or.inr h)) (λq (h:q=N+1\/q=N+1+1)=> .inl h);have hE:=d.out.hE;have Ft:=d.out.lN;have FA:=d.out.low.size;have FF:=hN;refine⟨s,fA,fC,rfl,aU (af HV.out ud (λk J h=>by have:=(au HV.out J).1;rcases h with h|h<;>omega)) (by omega),aU (af HI.out ud (λk J h=>by have:=(au HI.out J).1;rcases h with h|h<;>omega)) (by omega),aU (af HF.out ud (λk J h=>by have:=(au HF.out J).1;rcases h with h|h<;>omega)) (by omega), ?_⟩;rw[hN];exact d.out.low.trans (ud.below (by omega) (λq h=>by rcases h with h|h<;>omega))
theorem sm_at {p:Pg}{L:bx}{A:World}(h:jA p L A){s:Sm}{e:Ex}(v:s∈p.ss)(q:s.es=[e]):∃g D,s.E= tP (tB ⟨g,0,tD⟩) 1 D/\g<L/\∀(j:bx)(u:cd),e.cells.toList[j]?=tB u->∀W,jA p L W->W.cell? ⟨g,j,tD⟩=tB u:=by
 rcases h.ex s v with⟨f,_⟩|⟨g,cap,f,G,h3⟩
 ·rw[q] at f;cases f
 ·refine⟨g,cap,by rw[f,q];rfl,G,λj u J W hW=> ?_⟩
  rcases hW.ex s v with⟨d,_⟩|⟨g',uc,d,e2,e3⟩
  ·rw[q] at d;cases d
  ·have hg:g=g':=by
    rw[f] at d;simp only[gj,dt,eW] at d;exact d.1.1
   subst hg;have:=e3 0 e (by rw[q];rfl) j u J;simpa using this
section
variable {m:bx}{p:Pg}{L:bx}{X:Fx}{V V2:bm Ty}{I I2:bm gB}{S:bm (aE×bx)}
theorem CZ {s:Sm}{e:Ex}{d:bp}(q:X.os= tP tD 0 0)(u:s∈p.ss)(v:s.kind=8)(A:s.es=[e])(D:I2.length+1<=1000)
  (G:∀W O f,Mk m p L X V I S O f W->gd ac 217 #[tR (tB ⟨m,0,tD⟩),tW e.cells,tW #[tU X.rt.1,tM X.rt.2],Z U (-1)] W λe w'=>e= ub (Z U d)/\dx m p L X V2 I2 S O W w'):
  Eo m p L X V I S s V2 (I2++[⟨18,0,d,0,0,s.ln,s.cl⟩]) S:=λW O f h=>by
 obtain⟨g,J,hE,uc,ud⟩:=sm_at h.pg u A;have:=Bj q s.ty.1 s.ty.2 s.nm g J e ⟨uc,ud⟩ d V2 I2 D G s.ln s.cl W h;unfold Sm.cells;rw[v,hE];exact this
theorem rY {s:Sm}{e:Ex}{d:bp}(q:X.os= tP tD 0 0)(u:s∈p.ss)(v:s.kind=1)(A:s.es=[e])(D:V.length+1<=1000)(G:S.length+1<=1000)
  (J:∀W O f,Mk m p L X (V++[s.ty]) I S O f W->gd ac 217 #[tR (tB ⟨m,0,tD⟩),tW e.cells,tW #[tU s.ty.1,tM s.ty.2],Z U (V.length:bp)] W λe w'=>e= ub (Z U d)/\dx m p L X V2 I2 S O W w'):
  Eo m p L X V I S s V2 I2 (S++[(s.nm,V.length)]):=λW O f h=>by
 obtain⟨g,cp,hE,uc,ud⟩:=sm_at h.pg u A;have:=zm q s.ty s.nm g cp e ⟨uc,ud⟩ d V2 I2 D G J s.ln s.cl W h;unfold Sm.cells;rw[v,hE];exact this
end
def zn (w:World)(K:Pg->bm Ty->bm gB->Prop)(e:Ending)(w':World):Prop:=
 ∃p V I s d f,K p V I/\e= ub (.tuple #[tW (jB p V I s d f).cells,tW #[Z U 0,Z U 0,Z U 0,Z U 0]])/\(jB p V I s d f).inn w'/\bh w.heap.size w w'
theorem xQ (s:aE)(R:bm AC)(n0:bx)(Q:bm qD->Prop)(snm nm:aE)(l:bm (aE×Ty))(y:Ty)(K:Pg->bm Ty->bm gB->Prop)(w:World)(hs:s.size<=1000000)(xr:om s)(h0:s.size≠0)(hR:l5 s n0 (fZ s s.size 0)=tB R)
  (hT:∀T:bm Tok,T.map Tok.sig=R++[(5,⟨#[]⟩,0)]->∃va,Q va/\rV T snm l nm y va)
  (hK:∀(p:Pg),Q (p.ss.map Sm.shp)->p.snm=snm->p.fs.map Fd.shp=l->p.nm=nm->p.ret=y->Fy p/\p.nm.size<=dT/\p.snm.size<=dT/\(∀f∈p.fs,f.nm.size<=dT)/\p.fs.length<=1000000/\∃V I,K p V I/\V.length<=300/\I.length<=1000/\∀m L,kN m p L (X0 p) [] [] [] p.ss V I):
  gd ac 52 #[tM s] w (zn w K):=by
 obtain⟨N,hN⟩:=zE w.heap.size;obtain⟨A,uc⟩:=zE ((w.alloc (ua #[tP tD 0 0,tP tD 0 0] 25)).alloc (ua #[Z U 0,Z U 0,Z U 0,Z U 0] 113));have vp:=uF uc hN;have vq:A.heap.size=N+2:=by rw[<-uc];simp[hN]
 have vr:=yP uc hN;have vu:=AO uc hN;have xt:=zH (xJ s R n0 Q snm nm l y A hs xr h0 hR hT);have xF:cm (∀(w:World)(c:da cd),c.size=4->(dr ⟨w.heap.size,0,tD⟩ [Z U 0,Z U 0,Z U 0,Z U 0] 0).run ac (w.alloc (ua c 113))= .ok () (w.alloc (ua #[Z U 0,Z U 0,Z U 0,Z U 0] 113))):=λw=>nQ (w:=w);have vx:∀(w:World)(p:Pg)(c:da cd),c.size=2->(dr ⟨w.heap.size,0,tD⟩ [tP (tB ⟨p.pA,0,tD⟩) 1 p.pC,tP (tB ⟨p.qA,0,tD⟩) 1 p.qC] 0).run ac (w.alloc (ua c 179))= .ok () (w.alloc (ua #[tP (tB ⟨p.pA,0,tD⟩) 1 p.pC,tP (tB ⟨p.qA,0,tD⟩) 1 p.qC] 179)):=λw p c hc=>
  ct (P:=ac) w 179 c #[tP (tB ⟨p.pA,0,tD⟩) 1 p.pC,tP (tB ⟨p.qA,0,tD⟩) 1 p.qC] (by show _=tB 2;kernel_rfl) hc (by simp[cj])
 have xT:=zH vx;have HK:=zH hK;have ya:=zH uc;have yb:=zH vp;have G:=zH vq;have yd:=zH vr;have ye:=zH vu;clear hR hT uc vp vq vr vu vx hK;go_enter func52,ntmps52
 go_upto_region 1 with(fail)
 rw[ya.out]
 go_upto_region 2 with(go_at_call 92;refine xt.out.mono ?_;rintro e w3 ⟨va,hQ,p,rfl,p1,p2,p3,p4,p5,vy,we⟩;unfold Pg.cells;have yi:=zH p1;have yk:=zH p2;have yp:=zH p3;have yq:=zH p4;have yr:=zH p5;have HQ:=zH hQ;have J:=zH vy;have wg:=zH we;clear p1 p2 p3 p4 p5 hQ vy we)
 obtain⟨D,hD⟩:=zE w3.heap.size;obtain⟨d,ud⟩:=zE ((w3.alloc (ua #[tP (tB ⟨p.pA,0,tD⟩) 1 p.pC,tP (tB ⟨p.qA,0,tD⟩) 1 p.qC] 179)).alloc (ua #[Z U 0,Z U 0,Z U 0,Z U 0] 113));rw[hD,ud];have u:=Ir ud;have wi:bh A.heap.size A d:=wg.out.trans (u.mono wg.out.size);have wj:=yP ud hD;have wk:=AO ud hD;obtain⟨ho,hn,wl,ws,vc,V,I,wx,lV,lI,hst⟩:=HK.out p (by rw[yr.out];exact HQ.out) yi.out yk.out yp.out yq.out;have xf:=Cr J.out vc (by have:=ho.ss;omega);have yv:cm (gd ac 93 #[tW #[tP (tB ⟨p.pA,0,tD⟩) 1 p.pC,tP (tB ⟨p.qA,0,tD⟩) 1 p.qC]] d (Cs d p V I)):=ve d (xf.grow u) ho (λm=>hst m _) lV lI;have HO:=zH ho;have ur:=zH (And.intro hn (And.intro wl (And.intro ws vc)));have yy:=zH wx;have vd:=zH wi;have ue:cm (p.inn A.heap.size d):=⟨ownsRow_below J.out.fields u,ownsRow_below J.out.strs u,ownsRow_below J.out.stmts u,λx hx=>(J.out.exprs x hx).ext (Ext.of_below_size (M:=λ_=>mb) u) (λ_ _ _ h=>h),ownsRow_below J.out.fns u⟩
 obtain⟨⟨a0,a1⟩,_,zp⟩:=cB wj;obtain⟨⟨e0,e1,e2,e3⟩,_,zr⟩:=mY wk;clear hD ud u wi wj wk ho hn wl ws vc wx hst xf xT xF J
 go_upto_region 4 with(fail)
 clear e0 e1 e2 e3
 go_wp2_with (go_at_call 93;refine yv.out.mono ?_;rintro e w6 ⟨s6,fA,fC,rfl,hv,hi,hf,vf⟩;unfold Mo.cells;have HV:=zH hv;have HI:=zH hi;have HF:=zH hf;have yW:=zH vf;have uv:=vd.out.trans (vf.mono vd.out.size);have xj:=zH uv;have vh:=(uv.block N (by rw[G.out];omega)).trans yd.out;have vi:=(uv.block (N+1) (by rw[G.out];omega)).trans ye.out;have zc:=zH vh;have zd:=zH vi;obtain⟨⟨b0,b1⟩,⟨d0,d1⟩,zv⟩:=cB vh;obtain⟨⟨g0,g1,g2,g3⟩,⟨f0,f1,f2,f3⟩,An⟩:=mY vi;clear hv hi hf vf uv vh vi)
 (try simp only[db,Exit.then]);have xl:∀W u0 u1,Ext (·=N) W ((W.setCell ⟨N,0,tD⟩ u0).setCell ⟨N,1,tD⟩ u1):=λW u0 u1=>ah (ah (Ext.refl _ _) _) _;have xo:∀W u0 u1 u2 u3,Ext (·=N+1) W ((((W.setCell ⟨N+1,0,tD⟩ u0).setCell ⟨N+1,1,tD⟩ u1).setCell ⟨N+1,2,tD⟩ u2).setCell ⟨N+1,3,tD⟩ u3):=λW u0 u1 u2 u3=>ah (ah (ah (ah (Ext.refl _ _) _) _) _) _;refine dv (dB rfl _ _ N (N+1) 25 113 _ _ (0,0) (0,0) _ _ rfl ((xo _ _ _ _ _).heap (bv zc.out) (show¬N=N+1 by omega)) rfl (jd ((xl _ _ _).heap zd.out (show¬N+1=N by omega))) fk (by kernel_rfl) ph (by kernel_rfl)) rfl ?_;have vj:Ext (λq=>q=N\/q=N+1) w6 _:=((xl w6 (tP (tB ⟨p.pA,0,tD⟩) 1 p.pC) (tP (tB ⟨fA,0,tD⟩) 1 fC)).mono (λq h=> .inl h)).trans (xo _ (Z U 0) (Z U 0) (Z U 0) (Z U 0)) (λq h=> .inl (.inr h));have As:N+2<=d.heap.size:=by rw[<-G.out];exact vd.out.size
 have xp:Ext (λq=>q=N\/q=N+1) d _:=(Ext.of_below_size yW.out).trans vj (λq h=> .inl h);have ux:∀{e:gx}{size n:bx}{v:cd}{xs:bm cd},d.ownsRow A.heap.size e size v n xs->_:=λ{e size n v xs} h=>af (e:=e) (size:=size) (n:=n) (v:=v) (xs:=xs) h xp (λq hq e=>by have:=(au h hq).1;have:=G.out;omega);have vm:∀{e:gx}{size n:bx}{v:cd}{xs:bm cd},w6.ownsRow d.heap.size e size v n xs->_:=λ{e size n v xs} h=>af (e:=e) (size:=size) (n:=n) (v:=v) (xs:=xs) h vj (λq hq e=>by have:=(au h hq).1;omega);have zj:p.inn A.heap.size _:=⟨ux ue.out.fields,ux ue.out.strs,ux ue.out.stmts,λs hs=>(ue.out.exprs s hs).ext xp (λq h1 _ e=>by have:=G.out;omega),ux ue.out.fns⟩
 refine⟨p,V,I,s6,fA,fC,yy.out,rfl,Er (Cr zj ur.out.2.2.2 (by have:=HO.out.ss;omega)) ur.out.1 ur.out.2.1 ur.out.2.2.1 (vm HV.out) (vm HI.out) (vm HF.out) (by omega) lI, ?_⟩;rw[hN];exact yb.out.trans ((xj.out.mono (by rw[G.out];omega)).trans (vj.below (cY (by rw[G.out];omega) xj.out.size) (λq h=>by omega)))
def rZ (d f:bx->bp):bx->bm AC->bm Tok
 |_,[]=>[]
 |i,g::r=>⟨g.1,g.2.1,g.2.2,d i,f i⟩::rZ d f (i+1) r
theorem ww {ln cl:bx->bp}:∀(R:bm AC)(T:bm Tok)(i:bx),T.map Tok.sig=R->(∀(k:bx)(t:Tok),T[k]?=tB t->t.ln=ln (i+k)/\t.cl=cl (i+k))->T=rZ ln cl i R
 |[],T,i,h,_=>by unfold rZ;simpa using h
 |g::R,[],_,h,_=>by simp at h
 |g::R,t::T,i,h,f=>by
  rw[lP] at h;obtain⟨q,u⟩:=List.cons.inj h;unfold rZ;obtain⟨a,b,c,d,e⟩:=t;have h0:=f 0 _ rfl;rw[mx] at h0;rw[<-ww R T (i+1) u (λk t v=>by rw[show i+1+k=i+(k+1) by omega];exact f (k+1) t (by simpa using v)),<-q,<-h0.1,<-h0.2];rfl
theorem FD (R:bm AC)(T:bm Tok)(h:T.map Tok.sig=R):∃ln cl:bx->bp,T=rZ ln cl 0 R:=
 ⟨λi=>(T[i]?.map Tok.ln).getD 0,λi=>(T[i]?.map Tok.cl).getD 0,ww R T 0 h (λk t d=>by rw[cV,d];exact⟨rfl,rfl⟩)⟩
theorem C8 {A:bm Tok}{e:Tok}(h:(A.all λt=>t.kind != 5)=tE)(v:e.kind=5):Bc (A++[e]):=by
 intro k t d;rw[cw,ie];rw[List.getElem?_append] at d
 by_cases f:k<A.length
 ·rw[cR f] at d
  have:=js.1 h t (cf d);have D:t.kind≠5:=by simpa using this
  constructor
  ·intro u;exact fW u D
  ·intro u;omega
 ·rw[cE f] at d
  have G:k-A.length=0:=by
   cases J:k-A.length with
   |zero=>rfl
   |succ q=>rw[J] at d;simp at d
  rw[G] at d;obtain rfl:e=t:=by simpa using d
  constructor
  ·intro _;omega
  ·intro _;exact v
theorem Bn {s:aE}(h:(s.data.toList.all λb=>b != 47)=tE):om s:=by
 intro i;unfold eY
 by_cases d:i<s.size
 ·rw[dif_pos d]
  have f:s[i]'d∈s.data.toList:=by
   have:s[i]'d=s.data[i]'d:=rfl;rw[this];simp
  have:=js.1 h _ f;intro e;have q:(s[i]'d).toNat=47:=by omega
  have u:s[i]'d=47:=UInt8.toNat_inj.1 q;rw[u] at this;exact fW this (by decide)
 ·rw[dif_neg d];decide
def bS:aE:=⟨#[83]⟩
def Hr:aE:=⟨#[110]⟩
def Eu:aE:=⟨#[97]⟩
def IG:aE:=⟨#[98]⟩
theorem Ev {m:bx}{p:Pg}{L:bx}{X:Fx}{V:bm Ty}{I:bm gB}(ss:bm Sm)(h:p.ss=ss)(d:kN m p L X [] [] [] ss V I):kN m p L X [] [] [] p.ss V I:=by rw[h];exact d
theorem Bo {m:bx}{p:Pg}{L:bx}{X:Fx}{V:bm Ty}{I:bm gB}{S:bm (aE×bx)}(y:Ty)(nm:aE)(d f:bp)(hst:ow p nm=0)(D:V.length+2<=1000)(u:I.length+1<=1000):
  ∀W O q,Mk m p L X (V++[y]) I S O q W->gd ac 217 #[tR (tB ⟨m,0,tD⟩),tW (⟨7,0,nm,d,f⟩:Ex).cells,tW #[tU y.1,tM y.2],Z U (V.length:bp)] W λe w'=>e= ub (Z U (V.length:bp))/\dx m p L X (V++[y]) (I++[⟨12,(V.length:bp),0,0,0,d,f⟩]) S O W w':=λW O q h=>by
 have:=zl 0 nm d f y (V.length:bp) W h (by simp;omega) u;have v:AJ (V.length:bp) (V++[y])=(V.length:bp):=by unfold AJ;rw[cR (by omega)]
 have A:En (V.length:bp) (V++[y]) (tE,nm)=V++[y]:=by unfold En;rw[cR (by omega)]
 rw[v,A,hst] at this;exact this
theorem zo {m:bx}{p:Pg}{L:bx}{X:Fx}{V:bm Ty}{I:bm gB}{S:bm (aE×bx)}(y:Ty)(nm:aE)(d f:bp)(j:bx)(z:aE×bx)(A:S[j]?=tB z)(D:(z.1==nm)=tE)(G:∀q y,j<q->S[q]?=tB y->(y.1==nm)=tG)(u:Ty)(J:(V++[y])[z.2]?=tB u)(hp:u.1=tE)(ud:V.length+2<=1000)(uc:I.length+1<=1000):
  ∀W O v,Mk m p L X (V++[y]) I S O v W->gd ac 217 #[tR (tB ⟨m,0,tD⟩),tW (⟨2,0,nm,d,f⟩:Ex).cells,tW #[tU y.1,tM y.2],Z U (V.length:bp)] W λe w'=>e= ub (Z U (V.length:bp))/\dx m p L X (V++[y]) (I++[⟨9,(V.length:bp),(z.2:bp),0,0,d,f⟩]) S O W w':=λW O v h=>
 xP 0 nm d f y (V.length:bp) j z A D G u J (by omega) hp W h (by simp;omega) uc
theorem Bp {m:bx}{p:Pg}{L:bx}{X:Fx}{V:bm Ty}{I:bm gB}{S:bm (aE×bx)}(n:bp)(d f:bp)(u:V.length+1<=1000)(v:I.length+1<=1000):
  ∀W O q,Mk m p L X V I S O q W->gd ac 217 #[tR (tB ⟨m,0,tD⟩),tW (⟨1,n,⟨#[]⟩,d,f⟩:Ex).cells,tW #[tU X.rt.1,tM X.rt.2],Z U (-1)] W λe w'=>e= ub (Z U (V.length:bp))/\dx m p L X (V++[bI]) (I++[⟨1,(V.length:bp),0,0,n,d,f⟩]) S O W w':=λW O q h=>by
 have:=zk n ⟨#[]⟩ d f X.rt (-1) W h u v;have A:AJ (-1) V=(V.length:bp):=by unfold AJ;rw[cE (by omega)]
 have D:En (-1) V bI=V++[bI]:=by unfold En;rw[cE (by omega)]
 rw[A,D] at this;exact this
theorem Ht (nm:aE)(S:bm (aE×bx))(h:(S.drop 1).all (λy=> !(y.1==nm))=tE):∀q y,0<q->S[q]?=tB y->(y.1==nm)=tG:=by
 intro q y u d;have f:y∈S.drop 1:=by
  obtain⟨k,rfl⟩:∃k,q=1+k:=⟨q-1,by omega⟩
  have:(S.drop 1)[k]?=tB y:=by rw[qv];exact d
  exact cf this
 have:=js.1 h y f;simpa using this
theorem xR {p:Pg}(h:p.fs.map Fd.shp=[(Hr,(tE,bS))]):∃d,p.fs=[d]/\d.ty=(tE,bS)/\d.nm=Hr:=by
 match hfs:p.fs,h with
 |[d],h=>
  simp only[lP,List.map_nil,tn,pc,Fd.shp,cU] at h;exact⟨d,rfl,h.2,h.1⟩
 |[],h=>simp at h
 |_::_::_,h=>simp at h
end Go.Proofs.YtjomgckjhcfbgaaGreat
