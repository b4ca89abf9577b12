/- Walks. -/
import Derived.Deep.WholeRow
import Derived.Test.YtjomgckjhcfbgaaGreatU5
set_option maxRecDepth 100000
set_option maxHeartbeats 64000000
set_option linter.all false
namespace Go.Proofs.YtjomgckjhcfbgaaGreat
open Go.RowKit
open Go.Proofs.Tryz renaming prog→am,underlying25→fx,underlying35→gb,underlying113→pw,underlying223→rg
open _root_.List renaming getElem?_eq_getElem→ap,length_append→bo,mem_of_getElem?→cd,length_singleton→cr,mem_singleton→cU,map_append→dp,length_map→dy,append_nil→ej,flatMap_cons→fW,mem_map→gi,all_eq_true→gA,drop_eq_getElem_cons→jn,map_cons→mA,map_nil→pm,getElem?_drop→re,getElem?_append→rh,getElem?_map→rm
open Go.RowKit.Below renaming refl→aq,heap_alloc→cJ
open _root_ renaming Int→aw,Nat→bh,List→bj,ByteArray→bm,if_neg→bx,decide_eq_false→cv,Option→cG,if_pos→cI,Array→eA,absurd→fL,False→me,and_true→pf
open Go.RowKit renaming Below→aE,Hid→cj,intOf→de
open Go renaming heap_setCell_same→bk,cell_of_row→bw,run_storeCells_new→cx,Value→cA,storeCells→dt,bodyPost_ret→er,maxLen→eC,Addr→fS,Calls→ge,TypeId→gt,heap_alloc2_new→jp,heap_alloc2_old→kp,info_parts→kB
open _root_.Nat renaming le_refl→cg,lt_of_lt_of_le→cH,zero_add→cL,zero_le→cN,le_trans→eJ,add_zero→ki
open Go.Value renaming oneCell'→ct,ownBlock→et,int→eS,string→fz,string→tS,slice→tU,pointer→tW,bool→ua,agg→ub,int→Z
open _root_.Option.some renaming inj→cE,injEq→dd
open Go.Addr renaming add_lit→cY
open Go.Exit renaming inBlock→dk
open Go.Addr.mk renaming injEq→eR
open Go.Value.slice renaming injEq→fm
open _root_.Option renaming map_eq_some_iff→ip,some→tG,none→tM
open _root_.Prod.mk renaming injEq→qs
open _root_.Bool renaming true→tP,false→tR
open Go.Obj renaming cells→uc
open Go.Ending renaming returned→ud
open Go.IntKind renaming i64→U
open Tryz
theorem Ee:(am.info? 9).map (λi=>(i.zero,i.size,i.bytes))=tG (tG (tS ⟨#[]⟩),1,16):=by kernel_rfl
theorem kg {α:Type}(f:α->cA)(S:bj α):(S.map f).length=S.length*1:=by simp
theorem jk {α:Type}{f:α->cA}{w:World}{B:bh}{ao:cG fS}{S:bj α}(h:aJ (λx=>#[f x]) 1 w B ao S):∀b,ao=tG b->∀j u,(S.map f)[j]?=tG u->w.cell? (b.add j)=tG u:=by
 intro b q j u g;rw[rm] at g;obtain⟨x,d,rfl⟩:=ip.1 g;obtain⟨v,y,o,_,t⟩:=h (by intro e;rw[e] at d;simp at d);rw[q] at o;obtain rfl:=cE o;have:=t j x d 0 _ rfl;rw[ki,Nat.mul_one] at this;rw[cY];exact this
theorem wB {α:Type}{f:α->cA}{w:World}{base n:bh}{e:gt}{v:cA}{S:bj α}(d:w.ownsRow base e 1 v n (S.map f))(g:n=S.length){ao:cG fS}{c:bh}(h:v= tU ao n c):aJ (λx=>#[f x]) 1 w w.heap.size ao S:=by
 subst h;refine fH (cells:=λx=>#[f x]) (m:=1) (λ_=>rfl) (base:=base) (e:=e) (n:=n) (c:=c) ?_ g;have:∀S:bj α,(S.flatMap λx=>(#[f x]:eA cA).toList)=S.map f:=λS=>by
  induction S with
  |nil=>rfl
  |cons a S ih=>rw[fW,ih];rfl
 rw[this];exact d
def Jb (p:Pg)(X:Fx)(s:Sl)(d e:bh)(f g:cA):eA cA:=
 #[tU (tG ⟨p.pA,0,tM⟩) 1 p.pC,tU (tG ⟨p.qA,0,tM⟩) 1 p.qC,ua X.rt.1,tS X.rt.2,tS X.nm,X.pr,tU s.vA d s.vC,X.r7,X.r8,X.r9,X.fr,tU s.iA e s.iC,f,g,Z U 0,Z U 0,Z U 0,Z U 0,X.hs,X.os]
theorem oN {m:bh}{p:Pg}{L:bh}{X:Fx}{V2:bj Ty}{I2:bj gV}{S:bj (bm×bh)}{O J:bh->Prop}{j:Sl}{w W1 w5 WF R g:World}{nm:bm}{v:bh}{t o:cG fS}{c9 u:bh}
  (ue:aE w.heap.size w W1)(vd:Ext (λq=>q=m\/O q) W1 w5)(vf:∀k,J k->O k\/W1.heap.size<=k)(d:Mk m p L X V2 I2 S J j w5)(up:Ext (·=m) w5 WF)
  (ur:WF.heap[m]?=tG (uc (Jb p X j V2.length I2.length (tU t (S.length+1) c9) (tU j.wA S.length j.wC)) 236 (0,0)))
  (A:WF.ownsRow w5.heap.size 9 1 (tU t (S.length+1) c9) (S.length+1) ((S++[(nm,v)]).map λx:bm×bh=>fz x.1))
  (uv:aE WF.heap.size WF g)(h8:WF.heap.size<=R.heap.size)
  (E:g.ownsRow R.heap.size 3 1 (tU o (S.length+1) u) (S.length+1) ((S++[(nm,v)]).map λx:bm×bh=>eS .i64 (x.2:aw)))(vt:S.length+1<=1000):
  dN m p L X V2 I2 (S++[(nm,v)]) O w (g.setCell ⟨m,13,tM⟩ (tU o (S.length+1) u)):=by
 obtain⟨G,K⟩:=zE (g.setCell ⟨m,13,tM⟩ (tU o (S.length+1) u));rw[K];have vu:=aa d.row;have vh:=aa ur;have vx:=up.size;have vm:=(uv.block m vh).trans ur;have ux:Ext (·=m) g G:=by rw[<-K];exact Ext.set1 g m 13 _
 have vp:G.heap[m]?=tG (uc (GG p X {j with sA:=t,sC:=c9,wA:=o,wC:=u} V2.length I2.length (S.length+1)) 236 (0,0)):=by rw[<-K];exact bk g m 13 _ _ _ vm
 have vc:Ext (·=m) WF G:=(Ext.of_below_size (M:=(·=m)) uv).trans ux (λq h=> .inl h);have y:Ext (·=m) w5 G:=up.trans vc (λq h=> .inl h);have z:(S++[(nm,v)]).length=S.length+1:=by simp
 have vq:=ah A vc (λk f e=>by have:=(ai A f).1;omega);have vr:=ah E ux (λk f e=>by have:=(ai E f).1;omega);refine⟨J,{j with sA:=t,sC:=c9,wA:=o,wC:=u},⟨by rw[z];exact vp,d.pg.ext y (λk f e=>by have:=d.hm;omega),d.hm,ah d.vars y (λk f e=>by have:=(ai d.vars f).1;omega),ah d.ins y (λk f e=>by have:=(ai d.ins f).1;omega),d.dis,d.ov,d.oi,λk f=>⟨(d.ol k f).1,cH (d.ol k f).2 y.size⟩,wB vq z.symm rfl,wB vr z.symm rfl,λa _ e=> ?_,d.lV,d.lI,by rw[z];omega,by rw[z];exact⟨xR A,xR E⟩⟩, ?_,λk f=> ?_⟩
 ·rcases e with e|e
  ·have h1:=(ai A (k:=a.block) (by rw[show t=tG a from e];rfl)).1
   exact⟨by omega,λh=>by have:=(d.ol _ h).2;omega⟩
  ·have h1:=(ai E (k:=a.block) (by rw[show o=tG a from e];rfl)).1
   exact⟨by omega,λh=>by have:=(d.ol _ h).2;omega⟩
 ·exact((Ext.of_below_size (M:=λq=>q=m\/O q) ue).trans vd (λq h=> .inl h)).trans y (λq h=> .inl (.inl h))
 ·rcases vf k f with h|h
  ·exact .inl h
  ·have:=ue.size;exact .inr (by omega)
theorem Aa {m:bh}{p:Pg}{L:bh}{X:Fx}{V:bj Ty}{I:bj gV}{S:bj (bm×bh)}{O:bh->Prop}{s:Sl}(A6:X.os= tU tM 0 0)(y:Ty)(nm:bm)(g cp:bh)(ex:Ex)(hg:g<L/\∀(j:bh)(u:cA),ex.cells.toList[j]?=tG u->∀W,jI p L W->W.cell? ⟨g,j,tM⟩=tG u)(d:aw)(V2:bj Ty)(I2:bj gV)(Cd:V.length+1<=1000)(Ax:S.length+1<=1000)
  (Bk:∀W O s,Mk m p L X (V++[y]) I S O s W->ge am 217 #[tW (tG ⟨m,0,tM⟩),ub ex.cells,ub #[ua y.1,tS y.2],Z U (V.length:aw)] W λe w'=>e= ud (Z U d)/\dN m p L X V2 I2 S O W w')(ln cl:aw)(w:World)(h:Mk m p L X V I S O s w):
  ge am 180 #[tW (tG ⟨m,0,tM⟩),ub #[Z U 1,ua y.1,tS y.2,tS nm,tU (tG ⟨g,0,tM⟩) 1 cp,tU tM 0 0,tU tM 0 0,Z U ln,Z U cl]] w λe w'=>e= ud (.tuple #[])/\dN m p L X V2 I2 (S++[(nm,V.length)]) O w w':=by
 obtain⟨N,hN⟩:=zE w.heap.size;obtain⟨W1,AD⟩:=zE (w.alloc (uc #[Z U 1,ua y.1,tS y.2,tS nm,tU (tG ⟨g,0,tM⟩) 1 cp,tU tM 0 0,tU tM 0 0,Z U ln,Z U cl] 282));have AT:=iR AD hN;have AE:W1.heap[N]?=tG (uc #[Z U 1,ua y.1,tS y.2,tS nm,tU (tG ⟨g,0,tM⟩) 1 cp,tU tM 0 0,tU tM 0 0,Z U ln,Z U cl] 282 (0,0)):=by rw[<-AD,<-hN];exact alloc_at _ _
 have C5:=aa AE;have h1:Mk m p L X V I S O s W1:=h.grow (by rw[hN];exact AT);have Bm:aE w.heap.size w W1:=by rw[hN];exact AT
 have C6:=aa h1.row;have C7:m<N:=by have:=aa h.row;omega
 have Bs:¬(N=m\/O N):=by rintro(h1|h1);omega;have:=(h.ol N h1).2;omega
 have Cl:W1.cell? ⟨m,15,tM⟩=tG (Z U 0):=(rowAt h1.row 15 rfl).1;have Cp:W1.cell? ⟨m,19,tM⟩=tG (tU tM 0 0):=by rw[<-A6];exact(rowAt h1.row 19 rfl).1
 obtain⟨⟨a0,a1,a2,a3,a4,a5,a6,a7,a8⟩,_,_⟩:=fV AE;have CA:=zH AD;have AF:=zH Bm;have By:=zH AE;have BE:=zH Bs;have Dd:=zH hN;have CC:=zH (nk y W1 h1 Cd);have CD:=zH Bk;have HG:=zH hg;clear h h1 AD AT AE Bm Bs A6 Bk hg;go_enter func180,ntmps180
 go_upto_region 1 with(fail)
 rw[CA.out]
 go_upto_region 6 with(go_at_call 131;refine CC.out.mono ?_;rintro e w4 ⟨rfl,AH⟩;have CH:=zH AH;clear AH)
 obtain⟨O4,s4,k4,x4,o4⟩:=CH.out;have AW:=x4.heap By.out BE.out;have BT:=aa AW;have AH:=aa k4.row;clear a0 a1 a2 a3 a4 a5 a6 a7 a8 Cl Cp;obtain⟨S1,A0⟩:=zE ((λw'=>aE w4.heap.size w4 w'):World->Prop);have AI:S1 w4.drew:=by rw[<-A0];exact(aq _ _).drew
 have BY:∀W,S1 W->W.cell? ⟨N,1,tM⟩=tG (ua y.1)/\W.cell? ⟨N,2,tM⟩=tG (tS y.2)/\W.cell? ⟨N,4,tM⟩=tG (tU (tG ⟨g,0,tM⟩) 1 cp)/\W.cell? ⟨g,0,tM⟩=tG (Z U ex.kind)/\W.cell? ⟨g,1,tM⟩=tG (Z U ex.n)/\W.cell? ⟨g,2,tM⟩=tG (tS ex.nm)/\W.cell? ⟨g,3,tM⟩=tG (tS ⟨#[]⟩)/\W.cell? ⟨g,4,tM⟩=tG (tU tM 0 0)/\W.cell? ⟨g,5,tM⟩=tG (Z U ex.ln)/\W.cell? ⟨g,6,tM⟩=tG (Z U ex.cl):=λW E=>by
  rw[<-A0] at E;have r1:=(E.block N BT).trans AW;have kk:=(k4.grow E).pg;exact⟨(rowAt r1 1 rfl).1,(rowAt r1 2 rfl).1,(rowAt r1 4 rfl).1,HG.out.2 0 _ rfl W kk,HG.out.2 1 _ rfl W kk,HG.out.2 2 _ rfl W kk,HG.out.2 3 _ rfl W kk,HG.out.2 4 _ rfl W kk,HG.out.2 5 _ rfl W kk,HG.out.2 6 _ rfl W kk⟩
 have xj:=zH BY;have B5:Mk m p L X (V++[y]) I S O4 s4 w4.drew:=k4.grow (aq _ _).drew;have hV:=CD.out w4.drew O4 s4 B5;unfold Ex.cells at hV;have HV:=zH hV;clear A0 BY hV;refine aj 8 S1 (by kernel_rfl) ?_;refine zT 0 rfl xj.out ?_;(try go_simp);refine zT 1 rfl xj.out ?_;(try go_simp);refine zT 2 rfl xj.out ?_;(try go_simp);refine zT 3 rfl xj.out ?_;(try go_simp);refine zT 4 rfl xj.out ?_;(try go_simp);refine zT 5 rfl xj.out ?_;(try go_simp);refine zT 6 rfl xj.out ?_;(try go_simp);refine zT 7 rfl xj.out ?_;(try go_simp);refine zK rfl λK' t=> ?_;go_simp;go_at_call 217;refine HV.out.mono ?_;rintro e w5 ⟨rfl,O5,s5,k5,x5,o5⟩;refine t _ _ ?_;clear t;refine⟨by kernel_rfl, ?_⟩;have A1:Ext (λq=>q=m\/O q) W1 w5:=x4.trans (((Ext.refl _ _).drew).trans x5 (λq h=> .inl h)) (λq hq=>by
  rcases hq with h|h
  ·exact .inl (.inl h)
  ·rcases o4 q h with h|h
   ·exact .inl (.inr h)
   ·exact .inr h)
 have yy:=A1.heap By.out BE.out;have AK:=aa yy;have B6:=aa k5.row;have B7:∀k,O5 k->O k\/W1.heap.size<=k:=λk hk=>by
  rcases o5 k hk with h|h
  ·exact o4 k h
  ·have:=x4.size;exact .inr (eJ this h)
 obtain⟨i0,vy,we,wg,wj⟩:=kB Ee;have B8:=k5.cS.1;have B9:(S.length:aw)<=(s5.sC:aw):=by omega
 have vc:=zH k5;have Dg:=zH yy;have AM:=zH A1;have AN:=zH B7;clear k4 x4 o4 AW BT AH AI B5 x5 o5 A1 B7
 go_upto_region 7 with(fail)
 obtain⟨S7,yW⟩:=zE ((λw'=>aE w5.heap.size w5 w'):World->Prop);have AI:S7 w5.drew:=by rw[<-yW];exact(aq _ _).drew
 have xo:∀W,S7 W->aE w5.heap.size w5 W:=λW E=>by rw[<-yW] at E;exact E
 have AS:∀W,aE w5.heap.size w5 W->S7 W:=λW E=>by rw[<-yW];exact E
 rcases hA:s5.sA with _|⟨b,A2,fp⟩
 ·have zc:∀W,S7 W->W.cell? ⟨m,12,tM⟩=tG (tU tM S.length s5.sC)/\W.cell? ⟨N,3,tM⟩=tG (tS nm):=λW E=>by
   have r1:=((xo W E).block N AK).trans yy;have r2:=(k5.grow (xo W E)).row;exact⟨by rw[<-hA];exact(rowAt r2 12 rfl).1,(rowAt r1 3 rfl).1⟩
  have v:=zH zc;have CM:=zH xo;have zj:=zH AS;clear zc xo AS yW yy k5;refine aj 22 S7 (by kernel_rfl) ?_;refine zT 0 rfl v.out ?_;(try go_simp);refine zT 1 rfl v.out ?_;(try go_simp);refine zT 2 rfl v.out ?_;(try go_simp);refine zT 3 rfl v.out ?_;(try go_simp);refine zT 4 rfl v.out ?_;(try go_simp);refine zT 5 rfl v.out ?_;(try go_simp);refine zT 6 rfl v.out ?_;(try go_simp);refine zT 7 rfl v.out ?_;(try go_simp);refine zT 8 rfl v.out ?_;(try go_simp);refine zT 9 rfl v.out ?_;(try go_simp);refine zT 10 rfl v.out ?_;(try go_simp);refine zT 11 rfl v.out ?_;(try go_simp);refine zT 12 rfl v.out ?_;(try go_simp);refine zT 13 rfl v.out ?_;(try go_simp);refine zT 14 rfl v.out ?_;(try go_simp);refine zT 15 rfl v.out ?_;(try go_simp);refine zT 16 rfl v.out ?_;(try go_simp);refine zT 17 rfl v.out ?_;(try go_simp);refine zO 18 rfl λK' t=> ?_;go_simp;obtain⟨G,hG⟩:=zE w5.heap.size;obtain⟨z,J⟩:=zE ((w5.alloc (uc #[tS nm] 9)).drew);(try rw[hG]);(try rw[J]);have A:aE w5.heap.size w5 z:=by rw[<-J];exact((aq _ _).alloc (cg _) _).drew
  have vd:z.heap[G]?=tG (uc #[tS nm] 9 (0,0)):=by rw[<-J,<-hG];exact alloc_at _ _
  have uv:S7 z:=zj.out _ A;refine t _ _ uv ?_;clear t;(try go_simp);refine zO 19 rfl λK' t=> ?_;have ux:aJ (λx:bm×bh=>#[tS x.1]) 1 z z.heap.size tM S:=by rw[<-hA];exact(vc.out.grow A).seen
  have xp:cj (S.length=0):=by
   by_cases h:S=[]
   ·unfold cj;rw[h];rfl
   ·obtain⟨_,_,h1,_⟩:=ux h;cases h1
  have vf:=jk (f:=λx:bm×bh=>fz x.1) ux;refine bO (.tmp 54) (.tmp 57) 223 rfl 9 i0 _ 1 16 rg vy we wg wj rfl (by decide) tM S.length S.length (S.map λx:bm×bh=>fz x.1) rfl (λ_=>⟨xp.out,xp.out⟩) (kg _ _) vf ⟨G,0,tM⟩ 1 1 [tS nm] rfl rfl (λjj uu hu=>by rw[cY,cL,bw _ _ _ _ _ _ vd];simpa using hu) (by simp[ct]) (by omega) (by unfold eC;omega) (by omega) ?_;intro v9 w9 up vh;have vm:Ext (λ_=>me) z w9:=Ext.of_grown vh (λq hq=>by cases hq);have K:aE w5.heap.size w5 w9:=A.trans (vm.below A.size (λq h=>h.elim));have ur:S7 w9:=zj.out _ K;obtain⟨xt,c9,vr⟩:=aC up;subst vr;refine t _ _ ur ?_;clear t;(try go_simp);refine zT 20 rfl v.out ?_;(try go_simp);refine zT 21 rfl v.out ?_;(try go_simp);have xF:=vc.out.grow K;have xT:=(rowAt xF.row 12 rfl).2;obtain⟨x0,x1⟩:=v.out w9 ur;refine zK rfl λK' t=> ?_;go_simp;refine t _ _ ?_;clear t;refine⟨by kernel_rfl, ?_⟩;obtain⟨WF,wk⟩:=zE (w9.setCell ⟨m,12,tM⟩ (tU xt (S.length+1) c9));(try rw[wk]);have yb:Ext (·=m) w9 WF:=by rw[<-wk];exact Ext.set1 w9 m 12 _
  have yd:WF.heap[m]?=tG (uc (Jb p X s5 V2.length I2.length (tU xt (S.length+1) c9) (tU s5.wA S.length s5.wC)) 236 (0,0)):=by rw[<-wk];exact bk w9 m 12 _ _ _ xF.row
  have A3:m<z.heap.size:=by have:=A.size;omega
  have zp:WF.ownsRow w5.heap.size 9 1 (tU xt (S.length+1) c9) (S.length+1) ((S++[(nm,V.length)]).map λx:bm×bh=>fz x.1):=by
   rw[dp];exact aY (ah up yb (λk hk e=>by have:=(ai up hk).1;omega)) A.size
  have ye:Ext (·=m) w5 WF:=(Ext.of_below_size (M:=(·=m)) K).trans yb (λq h=> .inl h);have zs:aJ (λx:bm×bh=>#[Z U (x.2:aw)]) 1 WF WF.heap.size s5.wA S:=vc.out.whic.stay ye (λa A4 e=>(vc.out.ns a A4 (.inr e)).1);have wl:=aa yd;have zv:=zH ye;have vp:=zH yd;have An:=zH zp;have At:=zH zs;have CN:=vc.out.cS.2;have CT:(S.length:aw)<=(s5.wC:aw):=by omega
  clear yb yd A3 zp ye zs wk xF xT x0 x1 up vh vm K ur vf ux vd A J uv hG B6 AK AI i0 vy we wg wj B8 B9;obtain⟨i0,vy,we,wg,wj⟩:=kB fe
  go_upto_region 8 with(fail)
  obtain⟨R,uv⟩:=zE ((λw'=>aE WF.heap.size WF w'):World->Prop);have C4:R WF.drew:=by rw[<-uv];exact(aq _ _).drew
  have vq:∀W,R W->aE WF.heap.size WF W:=λW E=>by rw[<-uv] at E;exact E
  have ws:∀W,aE WF.heap.size WF W->R W:=λW E=>by rw[<-uv];exact E
  rcases xf:s5.wA with _|⟨b2,yi,yk⟩
  ·have vt:∀W,R W->W.cell? ⟨m,13,tM⟩=tG (tU tM S.length s5.wC):=λW E=>by
    rw[<-xf];exact(rowAt (((vq W E).block m wl).trans vp.out) 13 rfl).1
   have o:=zH vt;have vu:=zH ws;have A5:=zH vq;clear vt ws vq uv;refine aj 21 R (by kernel_rfl) ?_;refine zT 0 rfl o.out ?_;(try go_simp);refine zT 1 rfl o.out ?_;(try go_simp);refine zT 2 rfl o.out ?_;(try go_simp);refine zT 3 rfl o.out ?_;(try go_simp);refine zT 4 rfl o.out ?_;(try go_simp);refine zT 5 rfl o.out ?_;(try go_simp);refine zT 6 rfl o.out ?_;(try go_simp);refine zT 7 rfl o.out ?_;(try go_simp);refine zT 8 rfl o.out ?_;(try go_simp);refine zT 9 rfl o.out ?_;(try go_simp);refine zT 10 rfl o.out ?_;(try go_simp);refine zT 11 rfl o.out ?_;(try go_simp);refine zT 12 rfl o.out ?_;(try go_simp);refine zT 13 rfl o.out ?_;(try go_simp);refine zT 14 rfl o.out ?_;(try go_simp);refine zT 15 rfl o.out ?_;(try go_simp);refine zT 16 rfl o.out ?_;(try go_simp);refine zO 17 rfl λK' t=> ?_;go_simp;obtain⟨G,hG⟩:=zE WF.heap.size;obtain⟨z,J⟩:=zE ((WF.alloc (uc #[Z U (V.length:aw)] 3)).drew);(try rw[hG]);(try rw[J]);have A:aE WF.heap.size WF z:=by rw[<-J];exact((aq _ _).alloc (cg _) _).drew
   have vd:z.heap[G]?=tG (uc #[Z U (V.length:aw)] 3 (0,0)):=by rw[<-J,<-hG];exact alloc_at _ _
   have yp:R z:=vu.out _ A;refine t _ _ yp ?_;clear t;(try go_simp);refine zO 18 rfl λK' t=> ?_;have ux:aJ (λx:bm×bh=>#[Z U (x.2:aw)]) 1 z z.heap.size tM S:=by rw[<-xf];exact At.out.stay (Ext.of_below_size (M:=λ_=>me) A) (λ_ _ _ h=>h)
   have xp:cj (S.length=0):=by
    by_cases h:S=[]
    ·unfold cj;rw[h];rfl
    ·obtain⟨_,_,h1,_⟩:=ux h;cases h1
   have vf:=jk (f:=λx:bm×bh=>eS .i64 (x.2:aw)) ux;refine bO (.tmp 76) (.tmp 78) 35 rfl 3 i0 _ 1 8 gb vy we wg wj rfl (by decide) tM S.length S.length (S.map λx:bm×bh=>eS .i64 (x.2:aw)) rfl (λ_=>⟨xp.out,xp.out⟩) (kg _ _) vf ⟨G,0,tM⟩ 1 1 [Z U (V.length:aw)] rfl rfl (λjj uu hu=>by rw[cY,cL,bw _ _ _ _ _ _ vd];simpa using hu) (by simp[ct]) (by omega) (by unfold eC;omega) (by omega) ?_;intro v9 ue up vh;have vm:Ext (λ_=>me) z ue:=Ext.of_grown vh (λq hq=>by cases hq);have K:aE WF.heap.size WF ue:=A.trans (vm.below A.size (λq h=>h.elim));have ur:R ue:=vu.out _ K;obtain⟨yq,cW,vr⟩:=aC up;subst vr;refine t _ _ ur ?_;clear t;(try go_simp);refine zT 19 rfl o.out ?_;(try go_simp);refine zT 20 rfl o.out ?_;(try go_simp);have yr:=(K.block m wl).trans vp.out;have xT:=(rowAt yr 13 rfl).2;have x0:=o.out ue ur;refine zK rfl λK' t=> ?_;go_simp;refine t _ _ ?_;clear t;refine⟨by kernel_rfl, ?_⟩;have vx:dN m p L X V2 I2 (S++[(nm,V.length)]) O w (ue.setCell ⟨m,13,tM⟩ (tU yq (S.length+1) cW)):=oN AF.out AM.out AN.out vc.out zv.out vp.out An.out K (by have:=A.size;exact A.size) (by rw[dp];exact up) Ax;have yv:=zH vx;clear vx;go_wp2
   go_end0
   exact⟨rfl,yv.out⟩
  ·have vt:∀W,R W->W.cell? ⟨m,13,tM⟩=tG (tU (tG ⟨b2,yi,yk⟩) S.length s5.wC):=λW E=>by
    rw[<-xf];exact(rowAt (((vq W E).block m wl).trans vp.out) 13 rfl).1
   have o:=zH vt;have vu:=zH ws;have A5:=zH vq;clear vt ws vq uv;refine aj 21 R (by kernel_rfl) ?_;refine zT 0 rfl o.out ?_;(try go_simp);refine zT 1 rfl o.out ?_;(try go_simp);refine zT 2 rfl o.out ?_;(try go_simp);refine zT 3 rfl o.out ?_;(try go_simp);refine zT 4 rfl o.out ?_;(try go_simp);refine zT 5 rfl o.out ?_;(try go_simp);refine zT 6 rfl o.out ?_;(try go_simp);refine zT 7 rfl o.out ?_;(try go_simp);refine zT 8 rfl o.out ?_;(try go_simp);refine zT 9 rfl o.out ?_;(try go_simp);refine zT 10 rfl o.out ?_;(try go_simp);refine zT 11 rfl o.out ?_;(try go_simp);refine zT 12 rfl o.out ?_;(try go_simp);refine zT 13 rfl o.out ?_;(try go_simp);refine zT 14 rfl o.out ?_;(try go_simp);refine zT 15 rfl o.out ?_;(try go_simp);refine zT 16 rfl o.out ?_;(try go_simp);refine zO 17 rfl λK' t=> ?_;go_simp;obtain⟨G,hG⟩:=zE WF.heap.size;obtain⟨z,J⟩:=zE ((WF.alloc (uc #[Z U (V.length:aw)] 3)).drew);(try rw[hG]);(try rw[J]);have A:aE WF.heap.size WF z:=by rw[<-J];exact((aq _ _).alloc (cg _) _).drew
   have vd:z.heap[G]?=tG (uc #[Z U (V.length:aw)] 3 (0,0)):=by rw[<-J,<-hG];exact alloc_at _ _
   have yp:R z:=vu.out _ A;refine t _ _ yp ?_;clear t;(try go_simp);refine zO 18 rfl λK' t=> ?_;have ux:aJ (λx:bm×bh=>#[Z U (x.2:aw)]) 1 z z.heap.size (tG ⟨b2,yi,yk⟩) S:=by rw[<-xf];exact At.out.stay (Ext.of_below_size (M:=λ_=>me) A) (λ_ _ _ h=>h)
   have vf:=jk (f:=λx:bm×bh=>eS .i64 (x.2:aw)) ux;refine bO (.tmp 76) (.tmp 78) 35 rfl 3 i0 _ 1 8 gb vy we wg wj rfl (by decide) (tG ⟨b2,yi,yk⟩) S.length S.length (S.map λx:bm×bh=>eS .i64 (x.2:aw)) rfl (λh=>by cases h) (kg _ _) vf ⟨G,0,tM⟩ 1 1 [Z U (V.length:aw)] rfl rfl (λjj uu hu=>by rw[cY,cL,bw _ _ _ _ _ _ vd];simpa using hu) (by simp[ct]) (by omega) (by unfold eC;omega) (by omega) ?_;intro v9 ue up vh;have vm:Ext (λ_=>me) z ue:=Ext.of_grown vh (λq hq=>by cases hq);have K:aE WF.heap.size WF ue:=A.trans (vm.below A.size (λq h=>h.elim));have ur:R ue:=vu.out _ K;obtain⟨yq,cW,vr⟩:=aC up;subst vr;refine t _ _ ur ?_;clear t;(try go_simp);refine zT 19 rfl o.out ?_;(try go_simp);refine zT 20 rfl o.out ?_;(try go_simp);have yr:=(K.block m wl).trans vp.out;have xT:=(rowAt yr 13 rfl).2;have x0:=o.out ue ur;refine zK rfl λK' t=> ?_;go_simp;refine t _ _ ?_;clear t;refine⟨by kernel_rfl, ?_⟩;have vx:dN m p L X V2 I2 (S++[(nm,V.length)]) O w (ue.setCell ⟨m,13,tM⟩ (tU yq (S.length+1) cW)):=oN AF.out AM.out AN.out vc.out zv.out vp.out An.out K (by have:=A.size;exact A.size) (by rw[dp];exact up) Ax;have yv:=zH vx;clear vx;go_wp2
   go_end0
   exact⟨rfl,yv.out⟩
 ·have zc:∀W,S7 W->W.cell? ⟨m,12,tM⟩=tG (tU (tG ⟨b,A2,fp⟩) S.length s5.sC)/\W.cell? ⟨N,3,tM⟩=tG (tS nm):=λW E=>by
   have r1:=((xo W E).block N AK).trans yy;have r2:=(k5.grow (xo W E)).row;exact⟨by rw[<-hA];exact(rowAt r2 12 rfl).1,(rowAt r1 3 rfl).1⟩
  have v:=zH zc;have CM:=zH xo;have zj:=zH AS;clear zc xo AS yW yy k5;refine aj 22 S7 (by kernel_rfl) ?_;refine zT 0 rfl v.out ?_;(try go_simp);refine zT 1 rfl v.out ?_;(try go_simp);refine zT 2 rfl v.out ?_;(try go_simp);refine zT 3 rfl v.out ?_;(try go_simp);refine zT 4 rfl v.out ?_;(try go_simp);refine zT 5 rfl v.out ?_;(try go_simp);refine zT 6 rfl v.out ?_;(try go_simp);refine zT 7 rfl v.out ?_;(try go_simp);refine zT 8 rfl v.out ?_;(try go_simp);refine zT 9 rfl v.out ?_;(try go_simp);refine zT 10 rfl v.out ?_;(try go_simp);refine zT 11 rfl v.out ?_;(try go_simp);refine zT 12 rfl v.out ?_;(try go_simp);refine zT 13 rfl v.out ?_;(try go_simp);refine zT 14 rfl v.out ?_;(try go_simp);refine zT 15 rfl v.out ?_;(try go_simp);refine zT 16 rfl v.out ?_;(try go_simp);refine zT 17 rfl v.out ?_;(try go_simp);refine zO 18 rfl λK' t=> ?_;go_simp;obtain⟨G,hG⟩:=zE w5.heap.size;obtain⟨z,J⟩:=zE ((w5.alloc (uc #[tS nm] 9)).drew);(try rw[hG]);(try rw[J]);have A:aE w5.heap.size w5 z:=by rw[<-J];exact((aq _ _).alloc (cg _) _).drew
  have vd:z.heap[G]?=tG (uc #[tS nm] 9 (0,0)):=by rw[<-J,<-hG];exact alloc_at _ _
  have uv:S7 z:=zj.out _ A;refine t _ _ uv ?_;clear t;(try go_simp);refine zO 19 rfl λK' t=> ?_;have ux:aJ (λx:bm×bh=>#[tS x.1]) 1 z z.heap.size (tG ⟨b,A2,fp⟩) S:=by rw[<-hA];exact(vc.out.grow A).seen
  have vf:=jk (f:=λx:bm×bh=>fz x.1) ux;refine bO (.tmp 54) (.tmp 57) 223 rfl 9 i0 _ 1 16 rg vy we wg wj rfl (by decide) (tG ⟨b,A2,fp⟩) S.length S.length (S.map λx:bm×bh=>fz x.1) rfl (λh=>by cases h) (kg _ _) vf ⟨G,0,tM⟩ 1 1 [tS nm] rfl rfl (λjj uu hu=>by rw[cY,cL,bw _ _ _ _ _ _ vd];simpa using hu) (by simp[ct]) (by omega) (by unfold eC;omega) (by omega) ?_;intro v9 w9 up vh;have vm:Ext (λ_=>me) z w9:=Ext.of_grown vh (λq hq=>by cases hq);have K:aE w5.heap.size w5 w9:=A.trans (vm.below A.size (λq h=>h.elim));have ur:S7 w9:=zj.out _ K;obtain⟨xt,c9,vr⟩:=aC up;subst vr;refine t _ _ ur ?_;clear t;(try go_simp);refine zT 20 rfl v.out ?_;(try go_simp);refine zT 21 rfl v.out ?_;(try go_simp);have xF:=vc.out.grow K;have xT:=(rowAt xF.row 12 rfl).2;obtain⟨x0,x1⟩:=v.out w9 ur;refine zK rfl λK' t=> ?_;go_simp;refine t _ _ ?_;clear t;refine⟨by kernel_rfl, ?_⟩;obtain⟨WF,wk⟩:=zE (w9.setCell ⟨m,12,tM⟩ (tU xt (S.length+1) c9));(try rw[wk]);have yb:Ext (·=m) w9 WF:=by rw[<-wk];exact Ext.set1 w9 m 12 _
  have yd:WF.heap[m]?=tG (uc (Jb p X s5 V2.length I2.length (tU xt (S.length+1) c9) (tU s5.wA S.length s5.wC)) 236 (0,0)):=by rw[<-wk];exact bk w9 m 12 _ _ _ xF.row
  have A3:m<z.heap.size:=by have:=A.size;omega
  have zp:WF.ownsRow w5.heap.size 9 1 (tU xt (S.length+1) c9) (S.length+1) ((S++[(nm,V.length)]).map λx:bm×bh=>fz x.1):=by
   rw[dp];exact aY (ah up yb (λk hk e=>by have:=(ai up hk).1;omega)) A.size
  have ye:Ext (·=m) w5 WF:=(Ext.of_below_size (M:=(·=m)) K).trans yb (λq h=> .inl h);have zs:aJ (λx:bm×bh=>#[Z U (x.2:aw)]) 1 WF WF.heap.size s5.wA S:=vc.out.whic.stay ye (λa A4 e=>(vc.out.ns a A4 (.inr e)).1);have wl:=aa yd;have zv:=zH ye;have vp:=zH yd;have An:=zH zp;have At:=zH zs;have CN:=vc.out.cS.2;have CT:(S.length:aw)<=(s5.wC:aw):=by omega
  clear yb yd A3 zp ye zs wk xF xT x0 x1 up vh vm K ur vf ux vd A J uv hG B6 AK AI i0 vy we wg wj B8 B9;obtain⟨i0,vy,we,wg,wj⟩:=kB fe
  go_upto_region 8 with(fail)
  obtain⟨R,uv⟩:=zE ((λw'=>aE WF.heap.size WF w'):World->Prop);have C4:R WF.drew:=by rw[<-uv];exact(aq _ _).drew
  have vq:∀W,R W->aE WF.heap.size WF W:=λW E=>by rw[<-uv] at E;exact E
  have ws:∀W,aE WF.heap.size WF W->R W:=λW E=>by rw[<-uv];exact E
  rcases xf:s5.wA with _|⟨b2,yi,yk⟩
  ·have vt:∀W,R W->W.cell? ⟨m,13,tM⟩=tG (tU tM S.length s5.wC):=λW E=>by
    rw[<-xf];exact(rowAt (((vq W E).block m wl).trans vp.out) 13 rfl).1
   have o:=zH vt;have vu:=zH ws;have A5:=zH vq;clear vt ws vq uv;refine aj 21 R (by kernel_rfl) ?_;refine zT 0 rfl o.out ?_;(try go_simp);refine zT 1 rfl o.out ?_;(try go_simp);refine zT 2 rfl o.out ?_;(try go_simp);refine zT 3 rfl o.out ?_;(try go_simp);refine zT 4 rfl o.out ?_;(try go_simp);refine zT 5 rfl o.out ?_;(try go_simp);refine zT 6 rfl o.out ?_;(try go_simp);refine zT 7 rfl o.out ?_;(try go_simp);refine zT 8 rfl o.out ?_;(try go_simp);refine zT 9 rfl o.out ?_;(try go_simp);refine zT 10 rfl o.out ?_;(try go_simp);refine zT 11 rfl o.out ?_;(try go_simp);refine zT 12 rfl o.out ?_;(try go_simp);refine zT 13 rfl o.out ?_;(try go_simp);refine zT 14 rfl o.out ?_;(try go_simp);refine zT 15 rfl o.out ?_;(try go_simp);refine zT 16 rfl o.out ?_;(try go_simp);refine zO 17 rfl λK' t=> ?_;go_simp;obtain⟨G,hG⟩:=zE WF.heap.size;obtain⟨z,J⟩:=zE ((WF.alloc (uc #[Z U (V.length:aw)] 3)).drew);(try rw[hG]);(try rw[J]);have A:aE WF.heap.size WF z:=by rw[<-J];exact((aq _ _).alloc (cg _) _).drew
   have vd:z.heap[G]?=tG (uc #[Z U (V.length:aw)] 3 (0,0)):=by rw[<-J,<-hG];exact alloc_at _ _
   have yp:R z:=vu.out _ A;refine t _ _ yp ?_;clear t;(try go_simp);refine zO 18 rfl λK' t=> ?_;have ux:aJ (λx:bm×bh=>#[Z U (x.2:aw)]) 1 z z.heap.size tM S:=by rw[<-xf];exact At.out.stay (Ext.of_below_size (M:=λ_=>me) A) (λ_ _ _ h=>h)
   have xp:cj (S.length=0):=by
    by_cases h:S=[]
    ·unfold cj;rw[h];rfl
    ·obtain⟨_,_,h1,_⟩:=ux h;cases h1
   have vf:=jk (f:=λx:bm×bh=>eS .i64 (x.2:aw)) ux;refine bO (.tmp 76) (.tmp 78) 35 rfl 3 i0 _ 1 8 gb vy we wg wj rfl (by decide) tM S.length S.length (S.map λx:bm×bh=>eS .i64 (x.2:aw)) rfl (λ_=>⟨xp.out,xp.out⟩) (kg _ _) vf ⟨G,0,tM⟩ 1 1 [Z U (V.length:aw)] rfl rfl (λjj uu hu=>by rw[cY,cL,bw _ _ _ _ _ _ vd];simpa using hu) (by simp[ct]) (by omega) (by unfold eC;omega) (by omega) ?_;intro v9 ue up vh;have vm:Ext (λ_=>me) z ue:=Ext.of_grown vh (λq hq=>by cases hq);have K:aE WF.heap.size WF ue:=A.trans (vm.below A.size (λq h=>h.elim));have ur:R ue:=vu.out _ K;obtain⟨yq,cW,vr⟩:=aC up;subst vr;refine t _ _ ur ?_;clear t;(try go_simp);refine zT 19 rfl o.out ?_;(try go_simp);refine zT 20 rfl o.out ?_;(try go_simp);have yr:=(K.block m wl).trans vp.out;have xT:=(rowAt yr 13 rfl).2;have x0:=o.out ue ur;refine zK rfl λK' t=> ?_;go_simp;refine t _ _ ?_;clear t;refine⟨by kernel_rfl, ?_⟩;have vx:dN m p L X V2 I2 (S++[(nm,V.length)]) O w (ue.setCell ⟨m,13,tM⟩ (tU yq (S.length+1) cW)):=oN AF.out AM.out AN.out vc.out zv.out vp.out An.out K (by have:=A.size;exact A.size) (by rw[dp];exact up) Ax;have yv:=zH vx;clear vx;go_wp2
   go_end0
   exact⟨rfl,yv.out⟩
  ·have vt:∀W,R W->W.cell? ⟨m,13,tM⟩=tG (tU (tG ⟨b2,yi,yk⟩) S.length s5.wC):=λW E=>by
    rw[<-xf];exact(rowAt (((vq W E).block m wl).trans vp.out) 13 rfl).1
   have o:=zH vt;have vu:=zH ws;have A5:=zH vq;clear vt ws vq uv;refine aj 21 R (by kernel_rfl) ?_;refine zT 0 rfl o.out ?_;(try go_simp);refine zT 1 rfl o.out ?_;(try go_simp);refine zT 2 rfl o.out ?_;(try go_simp);refine zT 3 rfl o.out ?_;(try go_simp);refine zT 4 rfl o.out ?_;(try go_simp);refine zT 5 rfl o.out ?_;(try go_simp);refine zT 6 rfl o.out ?_;(try go_simp);refine zT 7 rfl o.out ?_;(try go_simp);refine zT 8 rfl o.out ?_;(try go_simp);refine zT 9 rfl o.out ?_;(try go_simp);refine zT 10 rfl o.out ?_;(try go_simp);refine zT 11 rfl o.out ?_;(try go_simp);refine zT 12 rfl o.out ?_;(try go_simp);refine zT 13 rfl o.out ?_;(try go_simp);refine zT 14 rfl o.out ?_;(try go_simp);refine zT 15 rfl o.out ?_;(try go_simp);refine zT 16 rfl o.out ?_;(try go_simp);refine zO 17 rfl λK' t=> ?_;go_simp;obtain⟨G,hG⟩:=zE WF.heap.size;obtain⟨z,J⟩:=zE ((WF.alloc (uc #[Z U (V.length:aw)] 3)).drew);(try rw[hG]);(try rw[J]);have A:aE WF.heap.size WF z:=by rw[<-J];exact((aq _ _).alloc (cg _) _).drew
   have vd:z.heap[G]?=tG (uc #[Z U (V.length:aw)] 3 (0,0)):=by rw[<-J,<-hG];exact alloc_at _ _
   have yp:R z:=vu.out _ A;refine t _ _ yp ?_;clear t;(try go_simp);refine zO 18 rfl λK' t=> ?_;have ux:aJ (λx:bm×bh=>#[Z U (x.2:aw)]) 1 z z.heap.size (tG ⟨b2,yi,yk⟩) S:=by rw[<-xf];exact At.out.stay (Ext.of_below_size (M:=λ_=>me) A) (λ_ _ _ h=>h)
   have vf:=jk (f:=λx:bm×bh=>eS .i64 (x.2:aw)) ux;refine bO (.tmp 76) (.tmp 78) 35 rfl 3 i0 _ 1 8 gb vy we wg wj rfl (by decide) (tG ⟨b2,yi,yk⟩) S.length S.length (S.map λx:bm×bh=>eS .i64 (x.2:aw)) rfl (λh=>by cases h) (kg _ _) vf ⟨G,0,tM⟩ 1 1 [Z U (V.length:aw)] rfl rfl (λjj uu hu=>by rw[cY,cL,bw _ _ _ _ _ _ vd];simpa using hu) (by simp[ct]) (by omega) (by unfold eC;omega) (by omega) ?_;intro v9 ue up vh;have vm:Ext (λ_=>me) z ue:=Ext.of_grown vh (λq hq=>by cases hq);have K:aE WF.heap.size WF ue:=A.trans (vm.below A.size (λq h=>h.elim));have ur:R ue:=vu.out _ K;obtain⟨yq,cW,vr⟩:=aC up;subst vr;refine t _ _ ur ?_;clear t;(try go_simp);refine zT 19 rfl o.out ?_;(try go_simp);refine zT 20 rfl o.out ?_;(try go_simp);have yr:=(K.block m wl).trans vp.out;have xT:=(rowAt yr 13 rfl).2;have x0:=o.out ue ur;refine zK rfl λK' t=> ?_;go_simp;refine t _ _ ?_;clear t;refine⟨by kernel_rfl, ?_⟩;have vx:dN m p L X V2 I2 (S++[(nm,V.length)]) O w (ue.setCell ⟨m,13,tM⟩ (tU yq (S.length+1) cW)):=oN AF.out AM.out AN.out vc.out zv.out vp.out An.out K (by have:=A.size;exact A.size) (by rw[dp];exact up) Ax;have yv:=zH vx;clear vx;go_wp2
   go_end0
   exact⟨rfl,yv.out⟩
def DC (m:bh)(p:Pg)(L:bh)(X:Fx)(V:bj Ty)(I:bj gV)(S:bj (bm×bh))(s:Sm)(V2:bj Ty)(I2:bj gV)(d:bj (bm×bh)):Prop:=
 ∀(W:World)(O:bh->Prop)(f:Sl),Mk m p L X V I S O f W->ge am 180 #[tW (tG ⟨m,0,tM⟩),ub s.cells] W λe w'=>e= ud (.tuple #[])/\dN m p L X V2 I2 d O W w'
inductive kL (m:bh) (p:Pg) (L:bh) (X:Fx):bj Ty->bj gV->bj (bm×bh)->bj Sm->bj Ty->bj gV->Prop
 |nil (V:bj Ty) (I:bj gV) (S:bj (bm×bh)):kL m p L X V I S [] V I
 |cons (V V1 V2:bj Ty) (I I1 I2:bj gV) (S S1:bj (bm×bh)) (s:Sm) (l:bj Sm):DC m p L X V I S s V1 I1 S1->kL m p L X V1 I1 S1 l V2 I2->kL m p L X V I S (s::l) V2 I2
def Jc (m:bh)(p:Pg)(L:bh)(X:Fx)(V2:bj Ty)(I2:bj gV)(O:bh->Prop)(w:World)(k:cA)(wr:World):Prop:=
 ∃(j:bh) (V:bj Ty) (I:bj gV) (S:bj (bm×bh)) (d:bh->Prop) (s:Sl),k= Z U (j:aw)/\j<=p.ss.length/\kL m p L X V I S (p.ss.drop j) V2 I2/\Mk m p L X V I S d s wr/\Ext (λq=>q=m\/O q) w wr/\∀k,d k->O k\/w.heap.size<=k
theorem uS {m:bh}{p:Pg}{L:bh}{X:Fx}{V V2:bj Ty}{I I2:bj gV}{O:bh->Prop}{s:Sl}(w:World)(h:Mk m p L X V I [] O s w)(u:kL m p L X V I [] p.ss V2 I2)(we:p.ss.length<=1000)(ue:p.ss≠[]):
  ge am 132 #[tW (tG ⟨m,0,tM⟩),tU p.bA p.ss.length p.bC] w λe w'=>e= ud (.tuple #[])/\dN m p L X V2 I2 [] O w w':=by
 obtain⟨b,wg,K,wj,_⟩:=h.pg.st ue;have wk:=aa h.row;have up:w.cell? ⟨m,12,tM⟩=tG (tU s.sA 0 s.sC):=(rowAt h.row 12 rfl).1;have H:=zH h;have HA:=zH K;have HK:=zH u;have HL:=h.hm;rw[K];clear h K u ue;go_enter func132,ntmps132
 go_upto_region 2 with(fail)
 clear up
 go_loopw [5] (λk wr=>Jc m p L X V2 I2 O w k wr) (λk _=>p.ss.length-(de k).toNat)
 case atStart=>exact⟨0,V,I,[],O,s,rfl,cN _,HK.out,H.out,Ext.refl _ _,λk u=> .inl u⟩
 case round=>
  obtain⟨j,V1,I1,S1,R,f,rfl,hj,A,g,hx,ho⟩:=hrel;have vr:=zH g;have E:=zH hx;have G:=zH ho
  by_cases v:j<p.ss.length
  ·have wl:(j:aw)<(p.ss.length:aw):=by omega
   obtain⟨x,d⟩:∃x,p.ss[j]?=tG x:=⟨_,ap v⟩
   have ur:p.ss.drop j=x::p.ss.drop (j+1):=by
    rw[jn v];have:p.ss[j]=x:=by rw[ap v] at d;exact cE d
    rw[this]
   rw[ur] at A;cases A with
   |cons _ V3 _ _ I3 _ _ S3 _ _ hst uv=>
    have ux:=cd d;obtain⟨⟨ao,n,cp,hE⟩,_⟩:=g.pg.sm ux;obtain⟨b',ws,h1,h2,o⟩:=g.pg.st (by intro e;rw[e] at v;simp at v);rw[HA.out] at h1;simp only[dd,eR,pf] at h1;obtain⟨rfl,rfl⟩:=h1;have k0:=o j x d 0 _ rfl;have k1:=o j x d 1 _ rfl;have k2:=o j x d 2 _ rfl;have k3:=o j x d 3 _ rfl;have k4:=o j x d 4 _ rfl;have k5:=o j x d 5 _ rfl;have k6:=o j x d 6 _ rfl;have k7:=o j x d 7 _ rfl;have k8:=o j x d 8 _ rfl;rw[ki] at k0;rw[hE] at k4;have xf:b<wr.heap.size:=cH h2 g.pg.lo;have xj:j<=p.bC:=by have:=g.pg.cb;omega
    have J:=hst wr R f g;unfold Sm.cells at J;rw[hE] at J;have vt:=zH J;have vu:=zH uv;clear g hx ho d ur hst uv ux hE o J
    go_wp2_with (go_at_call 180;refine vt.out.mono ?_;rintro en w5 ⟨rfl,O5,s5,vc,vd,vf⟩;have vh:=zH vc;have vm:=zH vd;have vp:=zH vf;clear vc vd vf)
    go_roundw
    case rel=>
     have xo:dN m p L X V3 I3 S3 O w w5:=dN.trans E.out G.out ⟨O5,s5,vh.out,vm.out,vp.out⟩;refine⟨j+1,V3,I3,S3,O5,s5,by go_num,v,vu.out,vh.out,E.out.trans vm.out (λq t=> ?_),λk u=> ?_⟩
     ·rcases t with h|h
      ·exact .inl (.inl h)
      ·rcases G.out q h with h|h
       ·exact .inl (.inr h)
       ·exact .inr h
     ·rcases vp.out k u with h|h
      ·exact G.out k h
      ·exact .inr (eJ E.out.size h)
    case measure=>simp[de];omega
  ·have vx:j=p.ss.length:=by omega
   have vy:p.ss.drop j=[]:=by rw[vx];simp
   rw[vy] at A;cases A;have y:=g.row;have xp:=aa y;have f12:wr.frozen? ⟨m,12,tM⟩=tR:=(rowAt y 12 rfl).2;have up:wr.cell? ⟨m,12,tM⟩=tG (tU f.sA S1.length f.sC):=(rowAt y 12 rfl).1;have f13:wr.frozen? ⟨m,13,tM⟩=tR:=(rowAt y 13 rfl).2;have xt:wr.cell? ⟨m,13,tM⟩=tG (tU f.wA S1.length f.wC):=(rowAt y 13 rfl).1;have xF:=g.cS;clear g hx y ho;go_wp2
   go_end0
   have z:Ext (·=m) wr ((wr.setCell ⟨m,12,tM⟩ (tU f.sA 0 f.sC)).setCell ⟨m,13,tM⟩ (tU f.wA 0 f.wC)):=(Ext.set1 wr m 12 _).trans (Ext.set1 _ m 13 _) (λq h=> .inl h);have k:=vr.out;have vq:∀q,R q->q≠m:=λq h=>by have:=(k.ol q h).1;omega
   refine⟨rfl,R,f,⟨?_,k.pg.ext z (λq t e=>by omega),k.hm,ah k.vars z (λq t e=>vq q (k.ov q t) e),ah k.ins z (λq t e=>vq q (k.oi q t) e),k.dis,k.ov,k.oi,λq t=>⟨(k.ol q t).1,cH (k.ol q t).2 z.size⟩,λh=>fL rfl h,λh=>fL rfl h,λa h=>fL rfl h,k.lV,k.lI,by simp,⟨cN _,cN _⟩⟩,E.out.trans z (λq h=> .inl (.inl h)),G.out⟩;exact bk _ m 13 _ _ _ (bk wr m 12 _ _ _ k.row)
def gV.ins (i:gV):Ins:=⟨i.op,i.d,i.a,0,i.f,i.n,⟨#[]⟩,tU tM 0 0,tU tM 0 0,0,0,i.ln,i.cl,[]⟩
def Ef (y:Ty):Vr:=⟨y.1,y.2,0⟩
def nN (p:Pg)(V:bj Ty)(I:bj gV)(s:Sl):Fn:=
 ⟨⟨p.nm,0,s.vA,V.length,s.vC,p.ret.1,p.ret.2,0,tM,0,0,s.iA,s.iC,I.map gV.ins⟩,V.map Ef,[],I.map λ_=>[]⟩
def GH (p:Pg):St:=⟨⟨p.snm,p.fA,p.fs.length,p.fC,p.sl,p.sc⟩,p.fs⟩
def jJ (p:Pg)(V:bj Ty)(I:bj gV)(s:Sl)(fA:bh)(fC:bh):Mo:=⟨tG ⟨p.pA,0,tM⟩,p.pC,tG ⟨fA,0,tM⟩,fC,[GH p],[nN p V I s]⟩
def X0 (p:Pg):Fx:=⟨p.ret,p.nm,Z U 0,ua p.ret.1,tS p.ret.2,Z U 0,tU tM 0 0,tU tM 0 0,tU tM 0 0⟩
def H9 (p:Pg)(d e:bh)(s:Sl):bj cA:=[tS p.nm,Z U 0,tU s.vA d s.vC,ua p.ret.1,tS p.ret.2,Z U 0,tU tM 0 0,tU s.iA e s.iC]
theorem Eg (I:bj gV):I.flatMap IP=(I.map gV.ins).flatMap λx=>x.cells.toList:=by
 induction I with
 |nil=>rfl
 |cons a I ih=>rw[fW,mA,fW,ih];rfl
theorem Eh (V:bj Ty):V.flatMap IQ=(V.map Ef).flatMap λx=>x.cells.toList:=by
 induction V with
 |nil=>rfl
 |cons a V ih=>rw[fW,mA,fW,ih];rfl
theorem FI {p:Pg}{L:bh}{V:bj Ty}{I:bj gV}{s:Sl}{w:World}{fA fC v z q:bh}(g:jI p L w)(A:p.nm.size<=eC)(E:p.snm.size<=eC)(G:∀f∈p.fs,f.nm.size<=eC)
  (J:w.ownsRow v 34 3 (tU s.vA V.length s.vC) V.length (V.flatMap IQ))(hi:w.ownsRow z 42 13 (tU s.iA I.length s.iC) I.length (I.flatMap IP))
  (K:w.ownsRow q 38 8 (tU (tG ⟨fA,0,tM⟩) 1 fC) 1 (H9 p V.length I.length s))(lV:V.length<=1000)(lI:I.length<=1000):(jJ p V I s fA fC).inn w:=by
 have t:aJ Vr.cells 3 w w.heap.size s.vA (V.map Ef):=fH (cells:=Vr.cells) (m:=3) (λ_=>rfl) (by rw[<-Eh];exact J) (by simp);have R:cZ w w.heap.size s.iA (I.map gV.ins):=fH (cells:=Ins.cells) (m:=13) (λ_=>rfl) (by rw[<-Eg];exact hi) (by simp);have ur:eC=9223372036854775807:=rfl;refine⟨λ_=>⟨p.pA,0,rfl,cH g.pA g.lo,λi x d k u hu=> ?_⟩,fH (cells:=Fn.cells) (m:=8) (λ_=>rfl) (l:=[nN p V I s]) (n:=1) (c:=fC) (base:=q) (e:=38) ?_ rfl,λx d=> ?_,λx d=> ?_,by simp[jJ,eC],by simp[jJ,eC]⟩
 ·cases i with
  |succ i=>simp[jJ] at d
  |zero=>
   obtain rfl:GH p=x:=by simpa[jJ] using d
   have:=g.s k u hu;simpa using this
 ·simp only[fW,List.flatMap_nil,ej]
  have he:(nN p V I s).cells.toList=H9 p V.length I.length s:=by simp[nN,Fn.cells,dx.cells,H9]
  rw[he];exact K
 ·obtain rfl:x=GH p:=by simpa[jJ] using d
  exact⟨rfl,λue=>(let ⟨b,up,j,o,h3⟩:=g.fd ue;⟨b,up,j,cH o g.lo,h3⟩),by have:=g.lfs;show p.fs.length<=_;omega,E,G⟩
 ·obtain rfl:x=nN p V I s:=by simpa[jJ] using d
  refine⟨⟨R,λx d=> ?_,by simp only[nN,dy];omega,⟨V.map Ef,by simp[nN],t⟩,by simp only[nN];omega,by simp[nN,eC],⟨[],rfl,λh=>fL rfl h⟩⟩,A,by simp[nN],t,rfl,λh=>fL rfl h,by simp[nN],λk i l j o=> ?_⟩
  ·simp only[nN,gi] at d
   obtain⟨y,_,rfl⟩:=d;exact⟨⟨⟨tM,0,rfl⟩,tM,0,0,rfl⟩,tM,0,rfl,λh=>fL rfl h⟩
  ·simp only[nN,rm,ip] at j o
   obtain⟨y,_,rfl⟩:=j;obtain⟨_,_,rfl⟩:=o;exact⟨tM,0,rfl,λh=>fL rfl h⟩
def DD (w:World)(p:Pg)(V:bj Ty)(I:bj gV)(e:Ending)(w':World):Prop:=
 ∃s fA fC,e= ud (.tuple #[ub (jJ p V I s fA fC).cells,ub #[Z U 0,Z U 0,Z U 0,Z U 0]])/\w'.ownsRow w.heap.size 34 3 (tU s.vA V.length s.vC) V.length (V.flatMap IQ)/\w'.ownsRow w.heap.size 42 13 (tU s.iA I.length s.iC) I.length (I.flatMap IP)/\w'.ownsRow w.heap.size 38 8 (tU (tG ⟨fA,0,tM⟩) 1 fC) 1 (H9 p V.length I.length s)/\aE w.heap.size w w'
theorem Cj:(am.info? 38).map (λi=>(i.zero,i.size,i.bytes))=tG (tG (ub #[tS ⟨#[]⟩,Z U 0,tU tM 0 0,ua tR,tS ⟨#[]⟩,Z U 0,tU tM 0 0,tU tM 0 0]),8,128):=by kernel_rfl
theorem nO {w:World}:∀(c:eA cA),c.size=4->(dt ⟨w.heap.size,0,tM⟩ [Z U 0,Z U 0,Z U 0,Z U 0] 0).run am (w.alloc (uc c 113))= .ok () (w.alloc (uc #[Z U 0,Z U 0,Z U 0,Z U 0] 113)):=λc d=>
 cx (P:=am) w 113 c #[Z U 0,Z U 0,Z U 0,Z U 0] (by show _=tG 4;kernel_rfl) d (by simp[ct])
theorem FJ {p:Pg}{w:World}:∀(c:eA cA),c.size=7->(dt ⟨w.heap.size,0,tM⟩ [tS p.nm,tU tM 0 0,ua p.ret.1,tS p.ret.2,tU p.bA p.ss.length p.bC,Z U p.gl,Z U p.gc] 0).run am (w.alloc (uc c 233))= .ok () (w.alloc (uc #[tS p.nm,tU tM 0 0,ua p.ret.1,tS p.ret.2,tU p.bA p.ss.length p.bC,Z U p.gl,Z U p.gc] 233)):=λc d=>
 cx (P:=am) w 233 c #[tS p.nm,tU tM 0 0,ua p.ret.1,tS p.ret.2,tU p.bA p.ss.length p.bC,Z U p.gl,Z U p.gc] (by show _=tG 7;kernel_rfl) d (by simp[ct])
theorem FK {a:cG fS}{c1:bh}{w:World}:∀(c:eA cA),c.size=2->(dt ⟨w.heap.size,0,tM⟩ [tU a 1 c1,tU tM 0 0] 0).run am (w.alloc (uc c 25))= .ok () (w.alloc (uc #[tU a 1 c1,tU tM 0 0] 25)):=λc d=>
 cx (P:=am) w 25 c #[tU a 1 c1,tU tM 0 0] (by show _=tG 2;kernel_rfl) d (by simp[ct])
structure I6 (N E:bh)(p:Pg)(L:bh)(w W:World)(out:cA):Prop where
 pg:jI p L W
 lN:L<=N
 r0:W.heap[N]?=tG (uc p.cells 179 (0,0))
 r1:W.heap[N+1]?=tG (uc #[tU tM 0 0,tU tM 0 0] 25 (0,0))
 r2:W.heap[N+2]?=tG (uc #[Z U 0,Z U 0,Z U 0,Z U 0] 113 (0,0))
 rE:W.heap[E]?=tG (uc #[tU (tG ⟨p.pA,0,tM⟩) 1 p.pC,out] 25 (0,0))
 hE:N+2<E
 low:aE N w W
def Jl (N E:bh)(p:Pg)(L:bh)(V:bj Ty)(I:bj gV)(w:World)(k:cA)(W:World):Prop:=
 (k= Z U 0/\I6 N E p L w W (tU tM 0 0))\/(k= Z U 1/\∃s fA fC,I6 N E p L w W (tU (tG ⟨fA,0,tM⟩) 1 fC)/\W.ownsRow (E+1) 34 3 (tU s.vA V.length s.vC) V.length (V.flatMap IQ)/\W.ownsRow (E+1) 42 13 (tU s.iA I.length s.iC) I.length (I.flatMap IP)/\W.ownsRow (E+1) 38 8 (tU (tG ⟨fA,0,tM⟩) 1 fC) 1 (H9 p V.length I.length s))
theorem uT {p:Pg}{L:bh}{V:bj Ty}{I:bj gV}(w:World)(h:jI p L w)(ho:GD p)(hst:∀m,kL m p L (X0 p) [] [] [] p.ss V I)(lV:V.length<=300)(lI:I.length<=1000):
  ge am 93 #[ub p.cells] w (DD w p V I):=by
 obtain⟨N,y⟩:=zE w.heap.size;have Cl:L<=N:=by have:=h.lo;omega
 obtain⟨o,R⟩:=zE (((w.alloc (uc #[tU (tG ⟨p.pA,0,tM⟩) 1 p.pC,tU (tG ⟨p.qA,0,tM⟩) 1 p.qC] 179)).alloc (uc #[tU tM 0 0,tU tM 0 0] 25)).alloc (uc #[Z U 0,Z U 0,Z U 0,Z U 0] 113));have xp:aE N w o:=by rw[<-R,<-y];exact(((aq _ _).alloc (cg _) _).alloc (by simp) _).alloc (by simp;omega) _
 have zp:o.heap.size=N+3:=by rw[<-R];simp[y]
 have xt:o.heap[N]?=tG (uc #[tU (tG ⟨p.pA,0,tM⟩) 1 p.pC,tU (tG ⟨p.qA,0,tM⟩) 1 p.qC] 179 (0,0)):=by
  rw[<-R];refine(cJ _ _ N (by simp;omega)).trans ?_;rw[<-y];exact kp _ _ _
 have vc:o.heap[N+1]?=tG (uc #[tU tM 0 0,tU tM 0 0] 25 (0,0)):=by
  rw[<-R];refine(cJ _ _ (N+1) (by simp;omega)).trans ?_;rw[<-y];exact jp _ _ _
 have vd:o.heap[N+2]?=tG (uc #[Z U 0,Z U 0,Z U 0,Z U 0] 113 (0,0)):=by
  rw[<-R];have:=alloc_at ((w.alloc (uc #[tU (tG ⟨p.pA,0,tM⟩) 1 p.pC,tU (tG ⟨p.qA,0,tM⟩) 1 p.qC] 179)).alloc (uc #[tU tM 0 0,tU tM 0 0] 25)) (uc #[Z U 0,Z U 0,Z U 0,Z U 0] 113);simpa[y] using this
 have xF:=h.grow (show aE w.heap.size w o by rw[y];exact xp);have Cp:cj (zP 130 #[ub #[tU (tG ⟨p.pA,0,tM⟩) 1 p.pC,tU (tG ⟨p.qA,0,tM⟩) 1 p.qC]] o (ub #[Z U 0,Z U 0,Z U 0,Z U 0])):=uR o xF ho;have CA:=zH xF;have HO:=zH ho;have CC:=zH hst;have CD:=zH R;have CH:=zH xp;have ur:=zH zp;have zs:=zH xt;have xT:=zH vc;have yb:=zH vd;obtain⟨⟨z,A⟩,_,zv⟩:=dz xt;unfold Pg.cells;clear h ho hst R xp xt vc vd xF zp;go_enter func93,ntmps93
 go_upto_region 1 with(fail)
 rw[CD.out]
 go_upto_region 2 with(go_at_call 130;refine Cp.out.mono ?_;rintro en w4 ⟨rfl,An⟩;have CM:=nO (w:=w4);have vt:=zH An;clear An)
 obtain⟨D,hD⟩:=zE w4.heap.size;obtain⟨W5,vf⟩:=zE (w4.alloc (uc #[Z U 0,Z U 0,Z U 0,Z U 0] 113));rw[hD,vf];have At:=il vf;have Ax:W5.heap[D]?=tG (uc #[Z U 0,Z U 0,Z U 0,Z U 0] 113 (0,0)):=by rw[<-vf,<-hD];exact alloc_at _ _
 have yd:aE o.heap.size o W5:=vt.out.trans (At.mono vt.out.size);have AD:D+1=W5.heap.size:=by rw[<-vf];simp[hD]
 have CN:N+2<D:=by have:=vt.out.size;have:=ur.out;omega
 clear CM z A hD vf At zv;have AE:=(yd.block N (by rw[ur.out];omega)).trans zs.out;obtain⟨⟨z,A⟩,_,CT⟩:=dz AE;obtain⟨⟨e0,e1,e2,e3⟩,_,C4⟩:=mP Ax;have C5:=FK (a:=tG ⟨p.pA,0,tM⟩) (c1:=p.pC) (w:=W5);obtain⟨E,hE⟩:=zE W5.heap.size;have ye:=zH yd;have AF:=zH AD;clear yd Ax AE AD
 go_upto_region 6 with(fail)
 clear C5;obtain⟨W6,vu⟩:=zE (W5.alloc (uc #[tU (tG ⟨p.pA,0,tM⟩) 1 p.pC,tU tM 0 0] 25));rw[vu];(try rw[hE]);have AH:=il vu;have AI:W6.heap[E]?=tG (uc #[tU (tG ⟨p.pA,0,tM⟩) 1 p.pC,tU tM 0 0] 25 (0,0)):=by rw[<-vu,<-hE];exact alloc_at _ _
 have uv:aE o.heap.size o W6:=ye.out.trans (AH.mono ye.out.size);have C6:cj (I6 N E p L w W6 (tU tM 0 0)):=⟨CA.out.grow uv,Cl,(uv.block N (by rw[ur.out];omega)).trans zs.out,(uv.block (N+1) (by rw[ur.out];omega)).trans xT.out,(uv.block (N+2) (by rw[ur.out];omega)).trans yb.out,AI,by have:=AF.out;omega,CH.out.trans (uv.mono (by rw[ur.out];omega))⟩
 clear AH AI uv vu e0 e1 e2 e3 z A C4 CT CN AF ye hE vt
 go_loopw [6] (λk wr=>Jl N E p L V I w k wr) (λk _=>1-(de k).toNat)
 case atStart=>exact .inl ⟨rfl,C6.out⟩
 case round=>
  obtain⟨J,AK⟩:=zE wr;rw[AK] at hrel⊢;clear AK wr;rcases hrel with⟨rfl,j⟩|⟨rfl,s,fA,fC,j,hv,hi,u⟩
  ·have vx:=j.pg
   obtain⟨⟨z,A⟩,_,AM⟩:=dz j.r0;have u:=vx.f;have q0:=u 0 _ rfl;have q1:=u 1 _ rfl;have q2:=u 2 _ rfl;have q3:=u 3 _ rfl;have q4:=u 4 _ rfl;have q5:=u 5 _ rfl;have q6:=u 6 _ rfl;have E3:p.qA<J.heap.size:=cH vx.qA vx.lo;have C7:=FJ (p:=p) (w:=J);have d:=zH j;clear j vx u
   go_upto_region 9 with(fail)
   clear C7 z A q0 q1 q2 q3 q4 q5 q6;obtain⟨FB,vh⟩:=zE J.heap.size;obtain⟨W7,vm⟩:=zE (J.alloc (uc #[tS p.nm,tU tM 0 0,ua p.ret.1,tS p.ret.2,tU p.bA p.ss.length p.bC,Z U p.gl,Z U p.gc] 233));rw[vh,vm];have yi:=il vm;have yk:W7.heap[FB]?=tG (uc #[tS p.nm,tU tM 0 0,ua p.ret.1,tS p.ret.2,tU p.bA p.ss.length p.bC,Z U p.gl,Z U p.gc] 233 (0,0)):=by rw[<-vm,<-vh];exact alloc_at _ _
   have AN:=(yi.block N AM).trans d.out.r0;have AS:W7.heap.size=FB+1:=by rw[<-vm];simp[vh]
   obtain⟨⟨z,A⟩,_,Dd⟩:=dz AN;obtain⟨⟨g0,g1,g2,g3,g4,g5,g6⟩,_,Dg⟩:=eZ yk;obtain⟨M,hM⟩:=zE W7.heap.size;have AT:=zH yi;have AW:=zH yk;have Do:=zH AS;have yp:=zH vh;clear vm yi yk AN AS vh
   go_upto_region 11 with(fail)
   obtain⟨W8,vy⟩:=zE (W7.alloc (uc (GG p (X0 p) ⟨tM,0,tM,0,tM,0,tM,0⟩ 0 0 0) 236));have we:=vy;unfold GG X0 at we;simp only at we;rw[we];(try rw[hM]);have wg:=il vy;have A0:W8.heap[M]?=tG (uc (GG p (X0 p) ⟨tM,0,tM,0,tM,0,tM,0⟩ 0 0 0) 236 (0,0)):=by rw[<-vy,<-hM];exact alloc_at _ _
   have yq:aE J.heap.size J W8:=AT.out.trans (wg.mono AT.out.size);have E4:FB+1=M:=by have:=Do.out;omega
   have Ds:L<=M:=by have:=d.out.pg.lo;have:=yp.out;omega
   have A1:Mk M p L (X0 p) [] [] [] (λ_=>me) ⟨tM,0,tM,0,tM,0,tM,0⟩ W8:=⟨A0,d.out.pg.grow yq,Ds,World.ownsRow_nil _ _ _ _,World.ownsRow_nil _ _ _ _,λk h=>by simp[et] at h,λk h=>by simp[et] at h,λk h=>by simp[et] at h,λk h=>h.elim,λh=>fL rfl h,λh=>fL rfl h,λa h=>fL rfl h,by simp,by simp,by simp,by simp⟩
   have DA:=zH (uS W8 A1 (CC.out M) HO.out.ss HO.out.ne);have A2:=zH yq;have E6:=zH ((wg.block FB (by omega)).trans AW.out);have A3:=(wg.block FB (by omega)).trans AW.out;clear z A g0 g1 g2 g3 g4 g5 g6 Dg Dd;obtain⟨⟨g0,g1,g2,g3,g4,g5,g6⟩,_,DB⟩:=eZ A3;clear vy we wg A0 yq A1 A3
   go_loopw [9] (λk wr=>k= Z U 0/\wr=W8) (λ_ _=>0)
   case atStart=>exact⟨rfl,rfl⟩
   case round=>
    obtain⟨rfl,hq⟩:=hrel;rw[hq];clear hq wr
    go_upto_region 16 with(go_at_call 132;refine DA.out.mono ?_;rintro en w9 ⟨rfl,O9,g,yr,A4,A5⟩;have vp:=zH yr;have A6:=zH A4;have E7:=zH A5;have v:=yr.row;clear yr A4 A5)
    have DE:w9.cell? ⟨M,15,tM⟩=tG (Z U 0):=(rowAt v 15 rfl).1;have c4:w9.cell? ⟨M,4,tM⟩=tG (tS p.nm):=(rowAt v 4 rfl).1;have c5:w9.cell? ⟨M,5,tM⟩=tG (Z U 0):=(rowAt v 5 rfl).1;have c6:w9.cell? ⟨M,6,tM⟩=tG (tU g.vA V.length g.vC):=(rowAt v 6 rfl).1;have c7:w9.cell? ⟨M,7,tM⟩=tG (ua p.ret.1):=(rowAt v 7 rfl).1;have c8:w9.cell? ⟨M,8,tM⟩=tG (tS p.ret.2):=(rowAt v 8 rfl).1;have c9:w9.cell? ⟨M,9,tM⟩=tG (Z U 0):=(rowAt v 9 rfl).1;have DG:w9.cell? ⟨M,10,tM⟩=tG (tU tM 0 0):=(rowAt v 10 rfl).1;have ux:w9.cell? ⟨M,11,tM⟩=tG (tU g.iA I.length g.iC):=(rowAt v 11 rfl).1;have DH:=aa v;clear v g0 g1 g2 g3 g4 g5 g6 DB;have Fc:decide ((300:aw)<(V.length:aw))=tR:=cv (by omega);have Fi:decide ((3000:aw)<(I.length:aw))=tR:=cv (by omega);have Fk:(V.length:aw)<=300:=by omega
    have Fl:(I.length:aw)<=3000:=by omega
    go_upto_region 20 with(fail)
    have wj:w9.heap[E]?=tG (uc #[tU (tG ⟨p.pA,0,tM⟩) 1 p.pC,tU tM 0 0] 25 (0,0)):=A6.out.heap ((A2.out.block E (aa d.out.rE)).trans d.out.rE) (by have:=aa d.out.rE;have:=yp.out;rintro(h|h);omega;exact h);have Bk:=aa wj;obtain⟨S1,yv⟩:=zE ((λW'=>aE w9.heap.size w9 W'):World->Prop);have Bm:∀W,S1 W->aE w9.heap.size w9 W:=λW h=>by rw[<-yv] at h;exact h
    have yy:∀W,aE w9.heap.size w9 W->S1 W:=λW h=>by rw[<-yv];exact h
    have Fm:S1 w9.drew:=yy _ (aq _ _).drew;have Bs:∀W,S1 W->W.cell? ⟨E,1,tM⟩=tG (tU tM 0 0)/\W.cell? ⟨M,4,tM⟩=tG (tS p.nm)/\W.cell? ⟨M,5,tM⟩=tG (Z U 0)/\W.cell? ⟨M,6,tM⟩=tG (tU g.vA V.length g.vC)/\W.cell? ⟨M,7,tM⟩=tG (ua p.ret.1)/\W.cell? ⟨M,8,tM⟩=tG (tS p.ret.2)/\W.cell? ⟨M,9,tM⟩=tG (Z U 0)/\W.cell? ⟨M,10,tM⟩=tG (tU tM 0 0)/\W.cell? ⟨M,11,tM⟩=tG (tU g.iA I.length g.iC)/\M<W.heap.size/\E<W.heap.size:=λW hW=>by
     have hb:=Bm W hW;have r1:=(hb.block M DH).trans vp.out.row;have r2:=(hb.block E Bk).trans wj;exact⟨(rowAt r2 1 rfl).1,(rowAt r1 4 rfl).1,(rowAt r1 5 rfl).1,(rowAt r1 6 rfl).1,(rowAt r1 7 rfl).1,(rowAt r1 8 rfl).1,(rowAt r1 9 rfl).1,(rowAt r1 10 rfl).1,(rowAt r1 11 rfl).1,aa r1,aa r2⟩
    have ue:=zH Bs;have By:=zH yy;have DM:=zH wj;obtain⟨i0,DO,DP,DQ,DS⟩:=kB Cj;clear yv Bm yy Bs wj DE c4 c5 c6 c7 c8 c9 DG ux;refine aj 9 S1 (by kernel_rfl) ?_;refine zT 0 rfl ue.out ?_;(try go_simp);refine zT 1 rfl ue.out ?_;(try go_simp);refine zT 2 rfl ue.out ?_;(try go_simp);refine zT 3 rfl ue.out ?_;(try go_simp);refine zT 4 rfl ue.out ?_;(try go_simp);refine zT 5 rfl ue.out ?_;(try go_simp);refine zO 6 rfl λK' K=> ?_;go_simp;obtain⟨G,hG⟩:=zE w9.heap.size;obtain⟨yW,wk⟩:=zE ((w9.alloc (uc #[tS p.nm,Z U 0,tU g.vA V.length g.vC,ua p.ret.1,tS p.ret.2,Z U 0,tU tM 0 0,tU g.iA I.length g.iC] 38)).drew);(try rw[hG]);(try rw[wk]);have vq:aE w9.heap.size w9 yW:=by rw[<-wk];exact((aq _ _).alloc (cg _) _).drew
    have BE:yW.heap[G]?=tG (uc #[tS p.nm,Z U 0,tU g.vA V.length g.vC,ua p.ret.1,tS p.ret.2,Z U 0,tU tM 0 0,tU g.iA I.length g.iC] 38 (0,0)):=by rw[<-wk,<-hG];exact alloc_at _ _
    have D0:=vq.size;refine K _ _ (By.out _ vq) ?_;clear K;(try go_simp);refine zO 7 rfl λK' K=> ?_;refine aI (.tmp 121) (.tmp 126) 23 rfl (E+1) 38 i0 _ 8 128 underlying23 DO DP DQ DS rfl (by decide) (tU tM 0 0) 0 [] rfl (World.ownsRow_nil _ _ _ _) (tG ⟨G,0,tM⟩) 1 1 (H9 p V.length I.length g) rfl rfl (λh=>by cases h) (λad D1 jj uu hu=>by
     obtain rfl:(⟨G,0,tM⟩:fS)=ad:=by simpa using D1
     rw[cY,cL,bw _ _ _ _ _ _ BE];simpa[H9] using hu) (by simp[H9,ct]) (by unfold eC;omega) (by omega) (by omega) ?_
    intro Fo up wl BT D2;have BY:Ext (λ_=>me) yW up:=Ext.of_grown BT (λq hq=>by cases hq);have ws:aE w9.heap.size w9 up:=vq.trans (BY.below vq.size (λq h=>h.elim));have B5:S1 up:=By.out _ ws;obtain⟨xf,ux,D3,Fr,Ft⟩:=fZ (n:=0) (by simpa using wl);subst D3;refine K _ _ B5 ?_;clear K;(try go_simp);refine zT 8 rfl ue.out ?_;(try go_simp);have xj:=(ws.block E Bk).trans DM.out;have D4:=(rowAt xj 1 rfl).2;have Ek:=(rowAt xj 1 rfl).1;refine zK rfl λK' K=> ?_;go_simp;refine K _ _ ?_;clear K;refine⟨by kernel_rfl, ?_⟩;obtain⟨WF,vr⟩:=zE (up.setCell ⟨E,1,tM⟩ (tU (tG ⟨xf,0,tM⟩) (0+1) ux));have zc:=vr;simp only[cL] at zc;(try rw[vr]);(try rw[zc]);have zj:Ext (·=E) up WF:=by rw[<-vr];exact Ext.set1 up E 1 _
    have B6:WF.heap[E]?=tG (uc #[tU (tG ⟨p.pA,0,tM⟩) 1 p.pC,tU (tG ⟨xf,0,tM⟩) 1 ux] 25 (0,0)):=by rw[<-vr];exact bk up E 1 _ _ _ xj
    have xo:Ext (·=E) w9 WF:=(Ext.of_below_size ws).trans zj (λq h=> .inl h);have x:Ext (λq=>q=E\/q=M) J WF:=((Ext.of_below_size A2.out).trans (A6.out.mono (λq h=>by rcases h with h|h;exact .inr h;exact h.elim)) (λq h=> .inl h)).trans (xo.mono (λq h=> .inl h)) (λq h=> .inl h);have FA:=aa d.out.rE;have FF:=yp.out;have EV:=d.out.hE;have E0:=d.out.lN;have B7:=d.out.pg.ext x (λk t h=>by rcases h with h|h<;>omega);have B8:I6 N E p L w WF (tU (tG ⟨xf,0,tM⟩) 1 ux):=⟨B7,E0,x.heap d.out.r0 (by rintro(h|h)<;>omega),x.heap d.out.r1 (by rintro(h|h)<;>omega),x.heap d.out.r2 (by rintro(h|h)<;>omega),B6,EV,d.out.low.trans (x.below (by omega) (λq h=>by rcases h with h|h<;>omega))⟩
    have E2:cj (Jl N E p L V I w (Z U 1) WF):= .inr ⟨rfl,g,xf,ux,B8,aY (ah vp.out.vars xo (λk t e=>by have:=(ai vp.out.vars t).1;omega)) (by omega),aY (ah vp.out.ins xo (λk t e=>by have:=(ai vp.out.ins t).1;omega)) (by omega),ah (by simpa using wl) zj (λk t e=>by have:=(ai wl t).1;omega)⟩;clear vr zc zj B6 xo x B7 B8 wl BT D2 BY ws B5 D4 Ek xj BE wk vq hG D0;go_wp2;go_roundw
    case rel=>exact E2.out
    case measure=>simp[de]
  ·obtain⟨⟨z,A⟩,_,AM⟩:=dz j.r0
   obtain⟨⟨m0,m1⟩,_,FG⟩:=dz j.rE;obtain⟨⟨e0,e1⟩,⟨f0,f1⟩,F0⟩:=dz j.r1;obtain⟨⟨d0,d1,d2,d3⟩,⟨g0,g1,g2,g3⟩,zv⟩:=mP j.r2;have vc:=j.r1;have vd:=j.r2;have q4:=j.pg.f 4 _ rfl;have d:=zH j;have HV:=zH hv;have HI:=zH hi;have HF:=zH u;have xT:=zH vc;have yb:=zH vd;clear j hv hi u vc vd;go_wp2;(try simp only[dk,Exit.then]);have B9:∀W u0 u1,Ext (·=N+1) W ((W.setCell ⟨N+1,0,tM⟩ u0).setCell ⟨N+1,1,tM⟩ u1):=λW u0 u1=>ae (ae (Ext.refl _ _) _) _;have Cd:∀W u0 u1 u2 u3,Ext (·=N+1+1) W ((((W.setCell ⟨N+1+1,0,tM⟩ u0).setCell ⟨N+1+1,1,tM⟩ u1).setCell ⟨N+1+1,2,tM⟩ u2).setCell ⟨N+1+1,3,tM⟩ u3):=λW u0 u1 u2 u3=>ae (ae (ae (ae (Ext.refl _ _) _) _) _) _;refine er (dF rfl _ _ (N+1) (N+1+1) 25 113 _ _ (0,0) (0,0) _ _ rfl ((Cd _ _ _ _ _).heap (bf xT.out) (show¬N+1=N+1+1 by omega)) rfl (jw ((B9 _ _ _).heap yb.out (show¬N+1+1=N+1 by omega))) fx (by kernel_rfl) pw (by kernel_rfl)) rfl ?_;have x:=((B9 J (tU (tG ⟨p.pA,0,tM⟩) 1 p.pC) (tU (tG ⟨fA,0,tM⟩) 1 fC)).mono (λq h=>Or.inl h)).trans ((Cd _ (Z U 0) (Z U 0) (Z U 0) (Z U 0)).mono (λq h=>Or.inr h)) (λq (h:q=N+1\/q=N+1+1)=> .inl h);have hE:=d.out.hE;have F1:=d.out.lN;have Ge:=d.out.low.size;have Gk:=y;refine⟨s,fA,fC,rfl,aY (ah HV.out x (λk t h=>by have:=(ai HV.out t).1;rcases h with h|h<;>omega)) (by omega),aY (ah HI.out x (λk t h=>by have:=(ai HI.out t).1;rcases h with h|h<;>omega)) (by omega),aY (ah HF.out x (λk t h=>by have:=(ai HF.out t).1;rcases h with h|h<;>omega)) (by omega), ?_⟩;rw[y];exact d.out.low.trans (x.below (by omega) (λq h=>by rcases h with h|h<;>omega))
theorem sm_at {p:Pg}{L:bh}{t:World}(h:jI p L t){s:Sm}{e:Ex}(q:s∈p.ss)(o:s.es=[e]):∃g cp,s.E= tU (tG ⟨g,0,tM⟩) 1 cp/\g<L/\∀(j:bh)(u:cA),e.cells.toList[j]?=tG u->∀W,jI p L W->W.cell? ⟨g,j,tM⟩=tG u:=by
 rcases h.ex s q with⟨f,_⟩|⟨g,cap,f,v,J⟩
 ·rw[o] at f;cases f
 ·refine⟨g,cap,by rw[f,o];rfl,v,λj u x W y=> ?_⟩
  rcases y.ex s q with⟨d,_⟩|⟨z,K,d,R,A⟩
  ·rw[o] at d;cases d
  ·have G:g=z:=by
    rw[f] at d;simp only[fm,dd,eR] at d;exact d.1.1
   subst G;have:=A 0 e (by rw[o];rfl) j u x;simpa using this
section
variable {m:bh}{p:Pg}{L:bh}{X:Fx}{V V2:bj Ty}{I I2:bj gV}{S:bj (bm×bh)}
theorem Ei {s:Sm}{e:Ex}{d:aw}(j:X.os= tU tM 0 0)(o:s∈p.ss)(q:s.kind=8)(t:s.es=[e])(u:I2.length+1<=1000)
  (v:∀W O f,Mk m p L X V I S O f W->ge am 217 #[tW (tG ⟨m,0,tM⟩),ub e.cells,ub #[ua X.rt.1,tS X.rt.2],Z U (-1)] W λe w'=>e= ud (Z U d)/\dN m p L X V2 I2 S O W w'):
  DC m p L X V I S s V2 (I2++[⟨18,0,d,0,0,s.ln,s.cl⟩]) S:=λW O f h=>by
 obtain⟨g,cp,x,y,z⟩:=sm_at h.pg o t;have:=Ci j s.ty.1 s.ty.2 s.nm g cp e ⟨y,z⟩ d V2 I2 u v s.ln s.cl W h;unfold Sm.cells;rw[q,x];exact this
theorem Cm {s:Sm}{e:Ex}{d:aw}(j:X.os= tU tM 0 0)(o:s∈p.ss)(q:s.kind=1)(t:s.es=[e])(u:V.length+1<=1000)(v:S.length+1<=1000)
  (x:∀W O f,Mk m p L X (V++[s.ty]) I S O f W->ge am 217 #[tW (tG ⟨m,0,tM⟩),ub e.cells,ub #[ua s.ty.1,tS s.ty.2],Z U (V.length:aw)] W λe w'=>e= ud (Z U d)/\dN m p L X V2 I2 S O W w'):
  DC m p L X V I S s V2 I2 (S++[(s.nm,V.length)]):=λW O f h=>by
 obtain⟨g,cp,y,z,A⟩:=sm_at h.pg o t;have:=Aa j s.ty s.nm g cp e ⟨z,A⟩ d V2 I2 u v x s.ln s.cl W h;unfold Sm.cells;rw[q,y];exact this
theorem Cn {s:Sm}{j:bh}{z:bm×bh}(d:X.os= tU tM 0 0)(e:s∈p.ss)(f:s.kind=9)(g:I.length+1<=1000)(o:S[j]?=tG z)(t:(z.1==s.nm)=tP)(u:∀q y,j<q->S[q]?=tG y->(y.1==s.nm)=tR):
  DC m p L X V I S s V (I++[⟨13,0,(z.2:aw),0,0,s.ln,s.cl⟩]) S:=λW O x h=>by
 obtain⟨⟨ao,n,cp,v⟩,_⟩:=h.pg.sm e;have:=zZ d s.ty.1 s.ty.2 s.nm ao n cp j z o t u g s.ln s.cl W h;unfold Sm.cells;rw[f,v];exact this
end
def Ab (w:World)(K:Pg->bj Ty->bj gV->Prop)(e:Ending)(w':World):Prop:=
 ∃p V I s fA fC,K p V I/\e= ud (.tuple #[ub (jJ p V I s fA fC).cells,ub #[Z U 0,Z U 0,Z U 0,Z U 0]])/\(jJ p V I s fA fC).inn w'/\aE w.heap.size w w'
theorem xY (s:bm)(R:bj BD)(n0:bh)(Q:bj qD->Prop)(snm nm:bm)(l:bj (bm×Ty))(y:Ty)(K:Pg->bj Ty->bj gV->Prop)(w:World)(hs:s.size<=1000000)(yb:oF s)(h0:s.size≠0)(hR:lH s n0 (gG s s.size 0)=tG R)
  (hT:∀T:bj Tok,T.map Tok.sig=R++[(5,⟨#[]⟩,0)]->∃uv,Q uv/\sK T snm l nm y uv)
  (hK:∀(p:Pg),Q (p.ss.map Sm.shp)->p.snm=snm->p.fs.map Fd.shp=l->p.nm=nm->p.ret=y->GD p/\p.nm.size<=eC/\p.snm.size<=eC/\(∀f∈p.fs,f.nm.size<=eC)/\p.fs.length<=1000000/\∃V I,K p V I/\V.length<=300/\I.length<=1000/\∀m L,kL m p L (X0 p) [] [] [] p.ss V I):
  ge am 52 #[tS s] w (Ab w K):=by
 obtain⟨N,z⟩:=zE w.heap.size;obtain⟨j,u⟩:=zE ((w.alloc (uc #[tU tM 0 0,tU tM 0 0] 25)).alloc (uc #[Z U 0,Z U 0,Z U 0,Z U 0] 113));have vq:=vX u z;have vr:j.heap.size=N+2:=by rw[<-u];simp[z]
 have vt:=vY u z;have vu:=zl u z;have yd:=zH (xQ s R n0 Q snm nm l y j hs yb h0 hR hT);have ye:cj (∀(w:World)(c:eA cA),c.size=4->(dt ⟨w.heap.size,0,tM⟩ [Z U 0,Z U 0,Z U 0,Z U 0] 0).run am (w.alloc (uc c 113))= .ok () (w.alloc (uc #[Z U 0,Z U 0,Z U 0,Z U 0] 113))):=λw=>nO (w:=w);have vx:∀(w:World)(p:Pg)(c:eA cA),c.size=2->(dt ⟨w.heap.size,0,tM⟩ [tU (tG ⟨p.pA,0,tM⟩) 1 p.pC,tU (tG ⟨p.qA,0,tM⟩) 1 p.qC] 0).run am (w.alloc (uc c 179))= .ok () (w.alloc (uc #[tU (tG ⟨p.pA,0,tM⟩) 1 p.pC,tU (tG ⟨p.qA,0,tM⟩) 1 p.qC] 179)):=λw p c hc=>
  cx (P:=am) w 179 c #[tU (tG ⟨p.pA,0,tM⟩) 1 p.pC,tU (tG ⟨p.qA,0,tM⟩) 1 p.qC] (by show _=tG 2;kernel_rfl) hc (by simp[ct])
 have yi:=zH vx;have HK:=zH hK;have yk:=zH u;have yp:=zH vq;have o:=zH vr;have yq:=zH vt;have yr:=zH vu;clear hR hT u vq vr vt vu vx hK;go_enter func52,ntmps52
 go_upto_region 1 with(fail)
 rw[yk.out]
 go_upto_region 2 with(go_at_call 92;refine yd.out.mono ?_;rintro e w3 ⟨uv,hQ,p,rfl,p1,p2,p3,p4,p5,vy,we⟩;unfold Pg.cells;have yv:=zH p1;have yy:=zH p2;have yW:=zH p3;have zc:=zH p4;have zj:=zH p5;have HQ:=zH hQ;have t:=zH vy;have wg:=zH we;clear p1 p2 p3 p4 p5 hQ vy we)
 obtain⟨D,G⟩:=zE w3.heap.size;obtain⟨d,A⟩:=zE ((w3.alloc (uc #[tU (tG ⟨p.pA,0,tM⟩) 1 p.pC,tU (tG ⟨p.qA,0,tM⟩) 1 p.qC] 179)).alloc (uc #[Z U 0,Z U 0,Z U 0,Z U 0] 113));rw[G,A];have g:=E8 A;have wj:aE j.heap.size j d:=wg.out.trans (g.mono wg.out.size);have wk:=vY A G;have wl:=zl A G;obtain⟨J,hn,ws,xf,ux,V,I,xj,lV,lI,hst⟩:=HK.out p (by rw[zj.out];exact HQ.out) yv.out yy.out yW.out zc.out;have xo:=Dz t.out ux (by have:=J.ss;omega);have zp:cj (ge am 93 #[ub #[tU (tG ⟨p.pA,0,tM⟩) 1 p.pC,tU (tG ⟨p.qA,0,tM⟩) 1 p.qC]] d (DD d p V I)):=uT d (xo.grow g) J (λm=>hst m _) lV lI;have HO:=zH J;have ue:=zH (And.intro hn (And.intro ws (And.intro xf ux)));have zs:=zH xj;have vc:=zH wj;have E:cj (p.inn j.heap.size d):=⟨ownsRow_below t.out.fields g,ownsRow_below t.out.strs g,ownsRow_below t.out.stmts g,λx hx=>(t.out.exprs x hx).ext (Ext.of_below_size (M:=λ_=>me) g) (λ_ _ _ h=>h),ownsRow_below t.out.fns g⟩
 obtain⟨⟨a0,a1⟩,_,AD⟩:=dz wk;obtain⟨⟨e0,e1,e2,e3⟩,_,AE⟩:=mP wl;clear G A g wj wk wl J hn ws xf ux xj hst xo yi ye t
 go_upto_region 4 with(fail)
 clear e0 e1 e2 e3
 go_wp2_with (go_at_call 93;refine zp.out.mono ?_;rintro e w6 ⟨s6,fA,fC,rfl,hv,hi,hf,vd⟩;unfold Mo.cells;have HV:=zH hv;have HI:=zH hi;have HF:=zH hf;have zv:=zH vd;have up:=vc.out.trans (vd.mono vc.out.size);have xp:=zH up;have vf:=(up.block N (by rw[o.out];omega)).trans yq.out;have vh:=(up.block (N+1) (by rw[o.out];omega)).trans yr.out;have An:=zH vf;have At:=zH vh;obtain⟨⟨b0,b1⟩,⟨d0,d1⟩,AF⟩:=dz vf;obtain⟨⟨g0,g1,g2,g3⟩,⟨f0,f1,f2,f3⟩,AH⟩:=mP vh;clear hv hi hf vd up vf vh)
 (try simp only[dk,Exit.then]);have xt:∀W u0 u1,Ext (·=N) W ((W.setCell ⟨N,0,tM⟩ u0).setCell ⟨N,1,tM⟩ u1):=λW u0 u1=>ae (ae (Ext.refl _ _) _) _;have xF:∀W u0 u1 u2 u3,Ext (·=N+1) W ((((W.setCell ⟨N+1,0,tM⟩ u0).setCell ⟨N+1,1,tM⟩ u1).setCell ⟨N+1,2,tM⟩ u2).setCell ⟨N+1,3,tM⟩ u3):=λW u0 u1 u2 u3=>ae (ae (ae (ae (Ext.refl _ _) _) _) _) _;refine er (dF rfl _ _ N (N+1) 25 113 _ _ (0,0) (0,0) _ _ rfl ((xF _ _ _ _ _).heap (bf An.out) (show¬N=N+1 by omega)) rfl (jw ((xt _ _ _).heap At.out (show¬N+1=N by omega))) fx (by kernel_rfl) pw (by kernel_rfl)) rfl ?_;have vm:Ext (λq=>q=N\/q=N+1) w6 _:=((xt w6 (tU (tG ⟨p.pA,0,tM⟩) 1 p.pC) (tU (tG ⟨fA,0,tM⟩) 1 fC)).mono (λq h=> .inl h)).trans (xF _ (Z U 0) (Z U 0) (Z U 0) (Z U 0)) (λq h=> .inl (.inr h));have AI:N+2<=d.heap.size:=by rw[<-o.out];exact vc.out.size
 have xT:Ext (λq=>q=N\/q=N+1) d _:=(Ext.of_below_size zv.out).trans vm (λq h=> .inl h);have ur:∀{e:gt}{size n:bh}{v:cA}{xs:bj cA},d.ownsRow j.heap.size e size v n xs->_:=λ{e size n v xs} h=>ah (e:=e) (size:=size) (n:=n) (v:=v) (xs:=xs) h xT (λq hq e=>by have:=(ai h hq).1;have:=o.out;omega);have vp:∀{e:gt}{size n:bh}{v:cA}{xs:bj cA},w6.ownsRow d.heap.size e size v n xs->_:=λ{e size n v xs} h=>ah (e:=e) (size:=size) (n:=n) (v:=v) (xs:=xs) h vm (λq hq e=>by have:=(ai h hq).1;omega);have Ax:p.inn j.heap.size _:=⟨ur E.out.fields,ur E.out.strs,ur E.out.stmts,λs hs=>(E.out.exprs s hs).ext xT (λq h1 _ e=>by have:=o.out;omega),ur E.out.fns⟩
 refine⟨p,V,I,s6,fA,fC,zs.out,rfl,FI (Dz Ax ue.out.2.2.2 (by have:=HO.out.ss;omega)) ue.out.1 ue.out.2.1 ue.out.2.2.1 (vp HV.out) (vp HI.out) (vp HF.out) (by omega) lI, ?_⟩;rw[z];exact yp.out.trans ((xp.out.mono (by rw[o.out];omega)).trans (vm.below (eJ (by rw[o.out];omega) xp.out.size) (λq h=>by omega)))
def sO (d e:bh->aw):bh->bj BD->bj Tok
 |_,[]=>[]
 |i,g::r=>⟨g.1,g.2.1,g.2.2,d i,e i⟩::sO d e (i+1) r
theorem wF {ln cl:bh->aw}:∀(R:bj BD)(T:bj Tok)(i:bh),T.map Tok.sig=R->(∀(k:bh)(t:Tok),T[k]?=tG t->t.ln=ln (i+k)/\t.cl=cl (i+k))->T=sO ln cl i R
 |[],T,i,h,_=>by unfold sO;simpa using h
 |g::R,[],_,h,_=>by simp at h
 |g::R,t::T,i,h,f=>by
  rw[mA] at h;obtain⟨j,o⟩:=List.cons.inj h;unfold sO;obtain⟨a,b,c,d,e⟩:=t;have h0:=f 0 _ rfl;rw[ki] at h0;rw[<-wF R T (i+1) o (λk t q=>by rw[show i+1+k=i+(k+1) by omega];exact f (k+1) t (by simpa using q)),<-j,<-h0.1,<-h0.2];rfl
theorem GI (R:bj BD)(T:bj Tok)(h:T.map Tok.sig=R):∃ln cl:bh->aw,T=sO ln cl 0 R:=
 ⟨λi=>(T[i]?.map Tok.ln).getD 0,λi=>(T[i]?.map Tok.cl).getD 0,wF R T 0 h (λk t d=>by rw[cL,d];exact⟨rfl,rfl⟩)⟩
theorem Ej {A:bj Tok}{e:Tok}(h:(A.all λt=>t.kind != 5)=tP)(j:e.kind=5):BZ (A++[e]):=by
 intro k t d;rw[bo,cr];rw[rh] at d
 by_cases f:k<A.length
 ·rw[cI f] at d
  have:=gA.1 h t (cd d);have o:t.kind≠5:=by simpa using this
  constructor
  ·intro g;exact fL g o
  ·intro g;omega
 ·rw[bx f] at d
  have u:k-A.length=0:=by
   cases v:k-A.length with
   |zero=>rfl
   |succ q=>rw[v] at d;simp at d
  rw[u] at d;obtain rfl:e=t:=by simpa using d
  constructor
  ·intro _;omega
  ·intro _;exact j
theorem Co {s:bm}(h:(s.data.toList.all λb=>b != 47)=tP):oF s:=by
 intro i;unfold fu
 by_cases hi:i<s.size
 ·rw[dif_pos hi]
  have d:s[i]'hi∈s.data.toList:=by
   have:s[i]'hi=s.data[i]'hi:=rfl;rw[this];simp
  have:=gA.1 h _ d;intro e;have f:(s[i]'hi).toNat=47:=by omega
  have g:s[i]'hi=47:=UInt8.toNat_inj.1 f;rw[g] at this;exact fL this (by decide)
 ·rw[dif_neg hi];decide
def bS:bm:=⟨#[83]⟩
def IR:bm:=⟨#[110]⟩
def GJ:bm:=⟨#[97]⟩
theorem FL {m:bh}{p:Pg}{L:bh}{X:Fx}{V:bj Ty}{I:bj gV}(ss:bj Sm)(h:p.ss=ss)(d:kL m p L X [] [] [] ss V I):kL m p L X [] [] [] p.ss V I:=by rw[h];exact d
theorem Cq {m:bh}{p:Pg}{L:bh}{X:Fx}{V:bj Ty}{I:bj gV}{S:bj (bm×bh)}(y:Ty)(nm:bm)(d f:aw)(hst:oJ p nm=0)(t:V.length+2<=1000)(j:I.length+1<=1000):
  ∀W O g,Mk m p L X (V++[y]) I S O g W->ge am 217 #[tW (tG ⟨m,0,tM⟩),ub (⟨7,0,nm,d,f⟩:Ex).cells,ub #[ua y.1,tS y.2],Z U (V.length:aw)] W λe w'=>e= ud (Z U (V.length:aw))/\dN m p L X (V++[y]) (I++[⟨12,(V.length:aw),0,0,0,d,f⟩]) S O W w':=λW O g h=>by
 have:=zY 0 nm d f y (V.length:aw) W h (by simp;omega) j;have o:BF (V.length:aw) (V++[y])=(V.length:aw):=by unfold BF;rw[cI (by omega)]
 have q:FH (V.length:aw) (V++[y]) (tP,nm)=V++[y]:=by unfold FH;rw[cI (by omega)]
 rw[o,q,hst] at this;exact this
theorem Cr {m:bh}{p:Pg}{L:bh}{X:Fx}{V:bj Ty}{I:bj gV}{S:bj (bm×bh)}(n:aw)(d f:aw)(j:V.length+1<=1000)(o:I.length+1<=1000):
  ∀W O g,Mk m p L X V I S O g W->ge am 217 #[tW (tG ⟨m,0,tM⟩),ub (⟨1,n,⟨#[]⟩,d,f⟩:Ex).cells,ub #[ua X.rt.1,tS X.rt.2],Z U (-1)] W λe w'=>e= ud (Z U (V.length:aw))/\dN m p L X (V++[bM]) (I++[⟨1,(V.length:aw),0,0,n,d,f⟩]) S O W w':=λW O g h=>by
 have:=zV n ⟨#[]⟩ d f X.rt (-1) W h j o;have q:BF (-1) V=(V.length:aw):=by unfold BF;rw[bx (by omega)]
 have t:FH (-1) V bM=V++[bM]:=by unfold FH;rw[bx (by omega)]
 rw[q,t] at this;exact this
theorem IU (nm:bm)(S:bj (bm×bh))(h:(S.drop 1).all (λy=> !(y.1==nm))=tP):∀q y,0<q->S[q]?=tG y->(y.1==nm)=tR:=by
 intro q y f d;have e:y∈S.drop 1:=by
  obtain⟨k,rfl⟩:∃k,q=1+k:=⟨q-1,by omega⟩
  have:(S.drop 1)[k]?=tG y:=by rw[re];exact d
  exact cd this
 have:=gA.1 h y e;simpa using this
def El:bm:=⟨#[115,116,114,117,99,116,32,83,32,123,32,83,32,42,110,59,32,125,59,32,105,110,116,32,109,97,105,110,40,41,32,123,32,83,32,42,97,32,61,32,110,101,119,32,83,59,32,102,114,101,101,40,97,41,59,32,114,101,116,117,114,110,32,48,59,32,125]⟩
def Io:bj BD:=[(2,⟨#[115,116,114,117,99,116]⟩,0),(1,⟨#[83]⟩,0),(4,⟨#[123]⟩,0),(1,⟨#[83]⟩,0),(4,⟨#[42]⟩,0),(1,⟨#[110]⟩,0),(4,⟨#[59]⟩,0),(4,⟨#[125]⟩,0),(4,⟨#[59]⟩,0),(2,⟨#[105,110,116]⟩,0),(1,⟨#[109,97,105,110]⟩,0),(4,⟨#[40]⟩,0),(4,⟨#[41]⟩,0),(4,⟨#[123]⟩,0),(1,⟨#[83]⟩,0),(4,⟨#[42]⟩,0),(1,⟨#[97]⟩,0),(4,⟨#[61]⟩,0),(2,⟨#[110,101,119]⟩,0),(1,⟨#[83]⟩,0),(4,⟨#[59]⟩,0),(2,⟨#[102,114,101,101]⟩,0),(4,⟨#[40]⟩,0),(1,⟨#[97]⟩,0),(4,⟨#[41]⟩,0),(4,⟨#[59]⟩,0),(2,⟨#[114,101,116,117,114,110]⟩,0),(3,⟨#[48]⟩,0),(4,⟨#[59]⟩,0),(4,⟨#[125]⟩,0)]
theorem IV:lH El 31 (gG El El.size 0)=tG Io:=by kernel_rfl
def QA (l:bj qD):Prop:=∃d c1 e c2:aw,l=[⟨1,(tP,bS),GJ,[⟨7,0,bS,d,c1⟩]⟩,⟨9,bM,GJ,[]⟩,⟨8,bM,⟨#[]⟩,[⟨1,0,⟨#[]⟩,e,c2⟩]⟩]
def KA (p:Pg)(V:bj Ty)(I:bj gV):Prop:=p.snm=bS/\p.nm=qG/\p.ret=bM/\p.fs.map Fd.shp=[(IR,(tP,bS))]/\V=[(tP,bS),bM]/\∃d c0 e c1 f c2 g c3:aw,I=[⟨12,0,0,0,0,d,c0⟩,⟨13,0,0,0,0,e,c1⟩,⟨1,1,0,0,0,f,c2⟩,⟨18,0,1,0,0,g,c3⟩]
theorem GK (T:bj Tok)(h:T.map Tok.sig=Io++[(5,⟨#[]⟩,0)]):∃g,QA g/\sK T bS [(IR,(tP,bS))] qG bM g:=by
 obtain⟨d,f,j⟩:=GI _ T h;have o:T=[⟨2,⟨#[115,116,114,117,99,116]⟩,0,d 0,f 0⟩,⟨1,⟨#[83]⟩,0,d 1,f 1⟩,⟨4,⟨#[123]⟩,0,d 2,f 2⟩,⟨1,⟨#[83]⟩,0,d 3,f 3⟩,⟨4,⟨#[42]⟩,0,d 4,f 4⟩,⟨1,⟨#[110]⟩,0,d 5,f 5⟩,⟨4,⟨#[59]⟩,0,d 6,f 6⟩,⟨4,⟨#[125]⟩,0,d 7,f 7⟩,⟨4,⟨#[59]⟩,0,d 8,f 8⟩,⟨2,⟨#[105,110,116]⟩,0,d 9,f 9⟩,⟨1,⟨#[109,97,105,110]⟩,0,d 10,f 10⟩,⟨4,⟨#[40]⟩,0,d 11,f 11⟩,⟨4,⟨#[41]⟩,0,d 12,f 12⟩,⟨4,⟨#[123]⟩,0,d 13,f 13⟩,⟨1,⟨#[83]⟩,0,d 14,f 14⟩,⟨4,⟨#[42]⟩,0,d 15,f 15⟩,⟨1,⟨#[97]⟩,0,d 16,f 16⟩,⟨4,⟨#[61]⟩,0,d 17,f 17⟩,⟨2,⟨#[110,101,119]⟩,0,d 18,f 18⟩,⟨1,⟨#[83]⟩,0,d 19,f 19⟩,⟨4,⟨#[59]⟩,0,d 20,f 20⟩,⟨2,⟨#[102,114,101,101]⟩,0,d 21,f 21⟩,⟨4,⟨#[40]⟩,0,d 22,f 22⟩,⟨1,⟨#[97]⟩,0,d 23,f 23⟩,⟨4,⟨#[41]⟩,0,d 24,f 24⟩,⟨4,⟨#[59]⟩,0,d 25,f 25⟩,⟨2,⟨#[114,101,116,117,114,110]⟩,0,d 26,f 26⟩,⟨3,⟨#[48]⟩,0,d 27,f 27⟩,⟨4,⟨#[59]⟩,0,d 28,f 28⟩,⟨4,⟨#[125]⟩,0,d 29,f 29⟩,⟨5,⟨#[]⟩,0,d 30,f 30⟩]:=j;clear h j;subst o;refine⟨_,⟨d 18,f 18,d 27,f 27,rfl⟩, ?_⟩;refine⟨?_,by simp, ?_⟩
 ·exact Ej (A:=[⟨2,⟨#[115,116,114,117,99,116]⟩,0,d 0,f 0⟩,⟨1,⟨#[83]⟩,0,d 1,f 1⟩,⟨4,⟨#[123]⟩,0,d 2,f 2⟩,⟨1,⟨#[83]⟩,0,d 3,f 3⟩,⟨4,⟨#[42]⟩,0,d 4,f 4⟩,⟨1,⟨#[110]⟩,0,d 5,f 5⟩,⟨4,⟨#[59]⟩,0,d 6,f 6⟩,⟨4,⟨#[125]⟩,0,d 7,f 7⟩,⟨4,⟨#[59]⟩,0,d 8,f 8⟩,⟨2,⟨#[105,110,116]⟩,0,d 9,f 9⟩,⟨1,⟨#[109,97,105,110]⟩,0,d 10,f 10⟩,⟨4,⟨#[40]⟩,0,d 11,f 11⟩,⟨4,⟨#[41]⟩,0,d 12,f 12⟩,⟨4,⟨#[123]⟩,0,d 13,f 13⟩,⟨1,⟨#[83]⟩,0,d 14,f 14⟩,⟨4,⟨#[42]⟩,0,d 15,f 15⟩,⟨1,⟨#[97]⟩,0,d 16,f 16⟩,⟨4,⟨#[61]⟩,0,d 17,f 17⟩,⟨2,⟨#[110,101,119]⟩,0,d 18,f 18⟩,⟨1,⟨#[83]⟩,0,d 19,f 19⟩,⟨4,⟨#[59]⟩,0,d 20,f 20⟩,⟨2,⟨#[102,114,101,101]⟩,0,d 21,f 21⟩,⟨4,⟨#[40]⟩,0,d 22,f 22⟩,⟨1,⟨#[97]⟩,0,d 23,f 23⟩,⟨4,⟨#[41]⟩,0,d 24,f 24⟩,⟨4,⟨#[59]⟩,0,d 25,f 25⟩,⟨2,⟨#[114,101,116,117,114,110]⟩,0,d 26,f 26⟩,⟨3,⟨#[48]⟩,0,d 27,f 27⟩,⟨4,⟨#[59]⟩,0,d 28,f 28⟩,⟨4,⟨#[125]⟩,0,d 29,f 29⟩]) (e:=⟨5,⟨#[]⟩,0,d 30,f 30⟩) rfl rfl
 ·refine⟨7,10,29,_,_,_,_,_,_,_,_,_,_,_,_,rfl,rfl,rfl,rfl,rfl,rfl,rfl,.cons 3 5 7 (tP,bS) ⟨1,⟨#[110]⟩,0,d 5,f 5⟩ ⟨4,⟨#[59]⟩,0,d 6,f 6⟩ [] (.ptr ⟨1,⟨#[83]⟩,0,d 3,f 3⟩ ⟨4,⟨#[42]⟩,0,d 4,f 4⟩ rfl rfl rfl rfl) rfl rfl rfl rfl (.nil 7),rfl,rfl,rfl,rfl,rfl,rfl,.int _ rfl rfl,rfl,rfl,rfl,rfl,rfl,rfl,rfl,rfl,rfl, ?_,rfl,rfl,rfl,rfl⟩
  exact .cons 14 21 29 _ _ (.decl ⟨1,⟨#[83]⟩,0,d 14,f 14⟩ ⟨4,⟨#[42]⟩,0,d 15,f 15⟩ ⟨1,⟨#[97]⟩,0,d 16,f 16⟩ ⟨4,⟨#[61]⟩,0,d 17,f 17⟩ ⟨4,⟨#[59]⟩,0,d 20,f 20⟩ ⟨7,0,⟨#[83]⟩,d 18,f 18⟩ 20 rfl rfl rfl rfl rfl rfl rfl rfl rfl (.new ⟨2,⟨#[110,101,119]⟩,0,d 18,f 18⟩ ⟨1,⟨#[83]⟩,0,d 19,f 19⟩ rfl rfl rfl rfl rfl) rfl rfl) (.cons 21 26 29 _ _ (.free ⟨2,⟨#[102,114,101,101]⟩,0,d 21,f 21⟩ ⟨4,⟨#[40]⟩,0,d 22,f 22⟩ ⟨1,⟨#[97]⟩,0,d 23,f 23⟩ ⟨4,⟨#[41]⟩,0,d 24,f 24⟩ ⟨4,⟨#[59]⟩,0,d 25,f 25⟩ rfl rfl rfl rfl rfl rfl rfl rfl rfl rfl) (.cons 26 29 29 _ _ (.ret ⟨2,⟨#[114,101,116,117,114,110]⟩,0,d 26,f 26⟩ ⟨4,⟨#[59]⟩,0,d 28,f 28⟩ ⟨1,0,⟨#[]⟩,d 27,f 27⟩ 28 rfl rfl (.num ⟨3,⟨#[48]⟩,0,d 27,f 27⟩ rfl rfl) rfl rfl) (.nil 29)))
theorem Jd {p:Pg}(h:QA (p.ss.map Sm.shp)):∃d e f:Sm,∃g c1 j c2:aw,p.ss=[d,e,f]/\d.kind=1/\d.ty=(tP,bS)/\d.nm=GJ/\d.es=[⟨7,0,bS,g,c1⟩]/\e.kind=9/\e.nm=GJ/\f.kind=8/\f.es=[⟨1,0,⟨#[]⟩,j,c2⟩]:=by
 obtain⟨g,c1,j,c2,h⟩:=h
 match hss:p.ss,h with
 |[d,e,f],h=>
  simp only[mA,pm,List.cons.injEq,pf,Sm.shp,qD.mk.injEq] at h;obtain⟨⟨o,q,t,u⟩,⟨v,A,x,E⟩,y,G,J,z⟩:=h;exact⟨d,e,f,g,c1,j,c2,rfl,o,q,t,u,v,x,y,z⟩
 |[],h=>simp at h
 |[_],h=>simp at h
 |[_,_],h=>simp at h
 |_::_::_::_::_,h=>simp at h
theorem xZ {p:Pg}(h:p.fs.map Fd.shp=[(IR,(tP,bS))]):∃d,p.fs=[d]/\d.ty=(tP,bS)/\d.nm=IR:=by
 match hfs:p.fs,h with
 |[d],h=>
  simp only[mA,pm,List.cons.injEq,pf,Fd.shp,qs] at h;exact⟨d,rfl,h.2,h.1⟩
 |[],h=>simp at h
 |_::_::_,h=>simp at h
theorem Ac (w:World):ge am 52 #[tS El] w (Ab w KA):=by
 refine xY El Io 31 QA bS qG [(IR,(tP,bS))] bM KA w (by decide) (Co (by kernel_rfl)) (by decide) IV (λT h=>GK T h) (λp hq o K y A=> ?_);obtain⟨q,g,t,u,c1,v,c2,d,x,t1,n1,R,E,n2,G,e3⟩:=Jd hq;obtain⟨fd,J,ue,up⟩:=xZ K;have ur:q∈p.ss:=by rw[d];simp
 have uv:g∈p.ss:=by rw[d];simp
 have ux:t∈p.ss:=by rw[d];simp
 have vc:oJ p bS=0:=by unfold oJ;rw[o];rfl
 have hS:(⟨q.nm,q.ty.1,q.ty.2,0,0⟩:Fd)=⟨GJ,tP,bS,0,0⟩:=by rw[n1,t1]
 refine⟨⟨⟨fd,J,by rw[ue,o]⟩,y,by rw[A];rfl, ?_,by rw[d];simp,λj hj=> ?_,by rw[d];simp,by rw[d];simp[iK,G]⟩,by rw[y];decide,by rw[o];decide,λf hf=> ?_,by rw[J];simp,[(tP,bS),bM],[⟨12,0,0,0,0,u,c1⟩,⟨13,0,0,0,0,g.ln,g.cl⟩,⟨1,1,0,0,0,v,c2⟩,⟨18,0,1,0,0,t.ln,t.cl⟩],⟨o,y,A,K,rfl,u,c1,g.ln,g.cl,v,c2,t.ln,t.cl,rfl⟩,by simp,by simp,λm L=> ?_⟩
 ·rw[d]
  refine .cons _ _ _ _ (.inr (.inr ⟨x,_,R,.inr (.inr ⟨rfl,o,t1⟩),by rw[t1,o],rfl,rfl⟩)) (.cons _ _ _ _ (.inr (.inl ⟨E,⟨GJ,tP,bS,0,0⟩, ?_,rfl,rfl⟩)) (.cons _ _ _ _ (.inl ⟨G,_,e3,.inl ⟨rfl,A⟩,rfl⟩) (.nil _)));rw[hS,n2];rfl
 ·rw[d] at hj⊢
  match j,hj with
  |0,_=>rfl
  |1,_=>simp[iK,x]
  |2,_=>simp[iK,x,E]
 ·rw[J,cU] at hf
  rw[hf,up];decide
 ·refine FL _ d ?_
  have g1:=Cm (m:=m) (L:=L) (X:=X0 p) (V:=[]) (I:=[]) (S:=[]) (s:=q) (e:=⟨7,0,bS,u,c1⟩) rfl ur x R (by simp) (by simp) (Cq q.ty bS u c1 vc (by simp) (by simp));rw[t1,n1] at g1;have g2:=Cn (m:=m) (p:=p) (L:=L) (X:=X0 p) (V:=[(tP,bS)]) (I:=[⟨12,0,0,0,0,u,c1⟩]) (S:=[(GJ,0)]) (s:=g) (j:=0) (z:=(GJ,0)) rfl uv E (by simp) rfl (by rw[n2];rfl) (IU _ _ (by rw[n2];rfl));have g3:=Ei (m:=m) (p:=p) (L:=L) (X:=X0 p) (V:=[(tP,bS)]) (I:=[⟨12,0,0,0,0,u,c1⟩,⟨13,0,0,0,0,g.ln,g.cl⟩]) (S:=[(GJ,0)]) (s:=t) (e:=⟨1,0,⟨#[]⟩,v,c2⟩) rfl ux G e3 (by simp) (Cr 0 v c2 (by simp) (by simp));exact .cons _ _ _ _ _ _ _ _ _ _ g1 (.cons _ _ _ _ _ _ _ _ _ _ g2 (.cons _ _ _ _ _ _ _ _ _ _ g3 (.nil _ _ _)))
end Go.Proofs.YtjomgckjhcfbgaaGreat
