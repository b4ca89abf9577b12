/- Walks. -/
import Derived.Test.YtjomgckjhcfbgaaGreatU9
import Derived.Test.YtjomgckjhcfbgaaGreatU17
set_option maxRecDepth 100000
set_option maxHeartbeats 64000000
set_option linter.all false
namespace Go.Proofs.YtjomgckjhcfbgaaGreat
open Go.RowKit
open Go.Proofs.Tryz renaming prog→am,ntmps58→kt,func58→lE
open _root_.List renaming getElem?_eq_getElem→ap,getElem?_eq_some_iff→bl,length_append→bo,length_singleton→cr,take_length→cR,mem_singleton→cU,mem_append→cX,length_map→dy,length_take→ee,append_nil→ej,append_assoc→eq,length_cons→eV,flatMap_cons→fW,flatMap_append→gn,all_eq_true→gA,getElem?_append_right→hZ,cons_append→ij,take_zero→lz,length_pos_iff→ms,length_nil→mC,nodup_append→pn
open Go.RowKit.Below renaming refl→aq
open _root_ renaming Int→aw,Nat→bh,List→bj,if_neg→bx,Option→cG,if_pos→cI,beq_false_of_ne→ef,Array→eA,absurd→fL,beq_self_eq_true→iS,if_true→lj,False→me,Bool→mm
open Go.RowKit renaming Below→aE,Hid→cj,intOf→de
open Go renaming heap_setCell_same→bk,cell_of_row→bw,run_storeCells_new→cx,Value→cA,storeCells→dt,maxLen→eC,Addr→fS,Calls→ge,info_parts→kB
open _root_.Nat renaming le_refl→cg,lt_of_lt_of_le→cH,zero_add→cL,zero_le→cN,le_trans→eJ,min_eq_left→gR,add_zero→ki
open Go.Value renaming slice→ci,oneCell'→ct,string→tS,slice→tU,pointer→tW,bool→ua,agg→ub,int→Z
open _root_.Option.some renaming inj→cE
open Go.Addr renaming add_lit→cY
open Go.Value.slice renaming injEq→fm
open Go.Instr renaming lookup→nr
open _root_.Bool renaming false_eq_true→oS,true→tP,false→tR
open _root_.Prod.mk renaming inj→sf
open _root_.Classical renaming propDecidable→tn
open _root_.Option renaming some→tG,none→tM
open Go.Obj renaming cells→uc
open Go.Ending renaming returned→ud
open Go.IntKind renaming i64→U
open Tryz
section
variable {T Bb MB:bh}{lv:cG fS×bh}{P:bj (aw×aw)}{N:aw}{F:aw×aw->aw}{C C2:bj (bj aw)}{Y Y2:bj (aw×aw)}{at_ at2:aw×aw}{B:bh}{tg:bh->bh}{s:ow}{w0:World}{TT RB hi:bh}{c:dx}{b:bh->bh->bh}
theorem yS (w:World)(h:As T Bb MB lv P N F C Y at_ B tg s w0 TT RB c b hi w)(hN:0<=N/\N<=9000000)(hF:∀x,0<=F x/\F x<=9000000)(f:aw)(hf:bN f)(a1 a2:cG fS)(n1 n2 c1 c2:bh)(i:Ins)(ga:cG fS)(gc:bh)(yp:i.argsV= tU ga i.args.length gc)(AD:∃ao n cap,i.modeV= tU ao n cap)(yq:bN i.d)(wj:bN i.a)(AE:bN i.b)(k:bh)(hk:k<c.ins.length)(AF:c.ins.length<=90000)(AH:c.nvars<=90000)(hl:C.length+130<=1000000)(AW:Y.length+130<=1000000)(yr:i.op=9)(yv:isVar c.nvars i.a=tP)(ws:∀x∈aA F f (bg b k) i,x.all (bL N)=tP):
  ge am 58 #[ub #[tW (tG ⟨T,0,tM⟩),Z U f,tU a1 n1 c1,tU a2 n2 c2,tW (tG ⟨TT,0,tM⟩)],ub i.cells,Z U (k:aw)] w λe w'=>e= ud (.tuple #[])/\aZ T Bb MB lv P N F (C++aA F f (bg b k) i) (Y++(aA F f (bg b k) i).map λ_=>at_) at_ B tg w w':=by
 obtain⟨mo,mn,mc,yy⟩:=AD;obtain⟨op,d,a,bb,ff,nn,vu,argsV,modeV,vx,vy,ln,cl,args⟩:=i;simp only at yp yy yq wj AE yr yv ws⊢;subst yr;subst yp yy;simp only[Ins.cells];obtain⟨D,W1,hD,AI,xo,yW,vp,HO⟩:=jf h f hf a1 a2 n1 n2 c1 c2 9 d a bb ff nn vu ga args.length gc mo mn mc vx vy ln cl;clear h;obtain⟨g,j,xb,A0,A1,A2,xp,xt,xF,w1,w2,w3,w4,w5,w6,w7⟩:=pO hF (f,d) (f,a) (f,bb);have AK:=zH xp;have vt:=zH xt;have A3:=zH xF;obtain⟨bv,xf⟩:=zE (bg b k a);have we:cj (aA F f (bg b k) (⟨9,d,a,bb,ff,nn,vu,tU ga args.length gc,tU mo mn mc,vx,vy,ln,cl,args⟩:Ins)=[[-g,j]]++(if a≠d/\bv=tP then[[-g]] else[])++[[-(g+1),j,j+1]]):=by unfold cj aA;simp only[bx (by decide:¬((9:aw)=12)),bx (by decide:¬((9:aw)=13)),lj,xf,xp,xt,xF]
 have AM:cj (([-g,j]:bj aw).all (bL N)=tP):=ws _ (by rw[we.out];simp);have xT:cj (([-(g+1),j,j+1]:bj aw).all (bL N)=tP):=ws _ (by rw[we.out];simp);have AN:cj (a≠d->bv=tP->[-g].all (bL N)=tP):=λh1 h2=>ws _ (by rw[we.out,cI ⟨h1,h2⟩];simp);have zc:cj (∀C2 Y2 w2,aS T Bb MB lv P N F at_ B tg w0 TT RB c b hi D #[tW (tG ⟨T,0,tM⟩),Z U f,tU a1 n1 c1,tU a2 n2 c2,tW (tG ⟨TT,0,tM⟩)] #[Z U 9,Z U d,Z U a,Z U bb,Z U ff,Z U nn,tS vu,tU ga args.length gc,tU mo mn mc,Z U vx,Z U vy,Z U ln,Z U cl] W1 C2 Y2 w2->zS 108 #[tW (tG ⟨TT,0,tM⟩),Z U (k:aw),Z U a] w2 (ua bv)):=λC2 Y2 w2 h2=>by
  obtain⟨A4,s',h1,_⟩:=h2;rw[<-xf];unfold bg;have A5:=bP.1 yv;have:=nW w2 TT RB c b k a.toNat h1.as_.tz.tab hk (by omega) AF AH;rw[show((a.toNat:bh):aw)=a by omega] at this;exact this
 have A6:=zH xf;clear xf;clear xp xt xF;go_enter lE,kt
 go_upto_region 1 with(fail)
 rw[AI.out];obtain⟨⟨o,q,t,u,v⟩,⟨y,z,A,E,G,J,K,R,z8,z9,ue,up,ur⟩,y2⟩:=(vp.out _ _ _ yW.out).1
 go_region
 clear o q t u v y z A E G J K R z8 z9 ue up ur y2;have yb:=zH (yW.out.grow (aq _ _).drew);obtain⟨⟨o,q,t,u,v⟩,⟨y,z,A,E,G,J,K,R,z8,z9,ue,up,ur⟩,y2⟩:=(vp.out _ _ _ yb.out).1;have zj:=zH (HO.out _ _ _ (d) yq yb.out);rw[show F (f,d)=g from AK.out] at zj
 go_upto_region 3 with(go_at_call 107;refine zj.out.mono ?_;rintro e zp ⟨rfl,wk⟩;have yd:=zH (yb.out.grow wk);clear wk)
 clear o q t u v y z A E G J K R z8 z9 ue up ur y2;obtain⟨⟨o,q,t,u,v⟩,⟨y,z,A,E,G,J,K,R,z8,z9,ue,up,ur⟩,y2⟩:=(vp.out _ _ _ yd.out).1;have zs:=zH (HO.out _ _ _ (a) wj yd.out);rw[show F (f,a)=j from vt.out] at zs;have zv:cj (∀wx,aE zp.heap.size zp wx->ge am 56 #[tW (tG ⟨T,0,tM⟩),tU (tG ⟨wx.heap.size,0,tM⟩) 2 2] (wx.alloc (uc #[Z U (-g),Z U (j)] 3)) _):=λwx hx=>aS.put2 (yd.out.grow hx) hN (-g) (j) AM.out (by(try simp only[bo,cr]);omega) (by(try simp only[bo,cr]);omega)
 go_upto_region 10 with(first|(go_at_call 107;refine zs.out.mono ?_;rintro e Bk ⟨rfl,wk⟩;have An:=zH (zv.out _ wk);clear wk)|(go_at_call 56;(try simp only[w1,w2,w3,w4,w5,w6,w7]);refine An.out.mono ?_;rintro e vq ⟨rfl,ux⟩;have vc:=zH ux;clear ux An))
 clear o q t u v y z A E G J K R z8 z9 ue up ur y2 zv
 by_cases vr:a=d
 ·have t1:(a==d)=tP:=by rw[vr];exact iS _
  have t2:(a != d)=tR:=by rw[bne,t1];rfl
  have wl:cj (aA F f (bg b k) (⟨9,d,a,bb,ff,nn,vu,tU ga args.length gc,tU mo mn mc,vx,vy,ln,cl,args⟩:Ins)=[[-g,j],[-(g+1),j,j+1]]):=by unfold cj;rw[we.out,bx (λh:a≠d/\bv=tP=>h.1 vr)];simp
  clear vr;obtain⟨⟨o,q,t,u,v⟩,⟨y,z,A,E,G,J,K,R,z8,z9,ue,up,ur⟩,y2⟩:=(vp.out _ _ _ vc.out).1
  go_upto_region 12 with(fail)
  clear o q t u v y z A E G J K R z8 z9 ue up ur y2;obtain⟨⟨o,q,t,u,v⟩,⟨y,z,A,E,G,J,K,R,z8,z9,ue,up,ur⟩,y2⟩:=(vp.out _ _ _ vc.out).1;obtain⟨At,vd⟩:=zE vq.heap.size;obtain⟨Ax,vf⟩:=zE (vq.alloc (uc #[Z U (-(g+1))] 3));have uv:=aS.change1 vc.out hN hF f a hf wj a1 a2 n1 n2 c1 c2 (-(g+1)) (by rw[vt.out];exact xT.out) (by(try simp only[bo,cr]);omega) (by(try simp only[bo,cr]);omega);rw[vd,vf,show F (f,a)=j from vt.out] at uv;have vh:=zH uv;have HV:=zH vf;have vm:=zH vd;clear uv vf vd
  go_wp2_with (go_at_call 106;(try rw[vm.out]);(try simp only[w1,w2,w3,w4,w5,w6,w7]);(try rw[HV.out]);refine vh.out.mono ?_;rintro e xj ⟨rfl,ux⟩;have wg:=zH ux;clear ux)
  clear o q t u v y z A E G J K R z8 z9 ue up ur y2 vh HV vm
  go_end0
  refine⟨rfl, ?_⟩;have:=wg.out.wn;rw[wl.out];refine aZ.below xo.out ?_;simpa using this
 ·have t1:(a==d)=tR:=ef vr
  have t2:(a != d)=tP:=by rw[bne,t1];rfl
  cases bv with
  |false=>
   have wl:cj (aA F f (bg b k) (⟨9,d,a,bb,ff,nn,vu,tU ga args.length gc,tU mo mn mc,vx,vy,ln,cl,args⟩:Ins)=[[-g,j],[-(g+1),j,j+1]]):=by unfold cj;rw[we.out,bx (λh:a≠d/\tR=tP=>fL h.2 (by simp))];simp
   clear vr;obtain⟨⟨o,q,t,u,v⟩,⟨y,z,A,E,G,J,K,R,z8,z9,ue,up,ur⟩,y2⟩:=(vp.out _ _ _ vc.out).1;have ye:=zH (zc.out _ _ _ vc.out)
   go_upto_region 12 with(go_at_call 108;refine ye.out.mono ?_;rintro e vq ⟨rfl,rfl⟩)
   clear o q t u v y z A E G J K R z8 z9 ue up ur y2;obtain⟨⟨o,q,t,u,v⟩,⟨y,z,A,E,G,J,K,R,z8,z9,ue,up,ur⟩,y2⟩:=(vp.out _ _ _ vc.out).1;obtain⟨At,vd⟩:=zE vq.heap.size;obtain⟨Ax,vf⟩:=zE (vq.alloc (uc #[Z U (-(g+1))] 3));have uv:=aS.change1 vc.out hN hF f a hf wj a1 a2 n1 n2 c1 c2 (-(g+1)) (by rw[vt.out];exact xT.out) (by(try simp only[bo,cr]);omega) (by(try simp only[bo,cr]);omega);rw[vd,vf,show F (f,a)=j from vt.out] at uv;have vh:=zH uv;have HV:=zH vf;have vm:=zH vd;clear uv vf vd
   go_wp2_with (go_at_call 106;(try rw[vm.out]);(try simp only[w1,w2,w3,w4,w5,w6,w7]);(try rw[HV.out]);refine vh.out.mono ?_;rintro e xj ⟨rfl,ux⟩;have wg:=zH ux;clear ux)
   clear o q t u v y z A E G J K R z8 z9 ue up ur y2 vh HV vm
   go_end0
   refine⟨rfl, ?_⟩;have:=wg.out.wn;rw[wl.out];refine aZ.below xo.out ?_;simpa using this
  |true=>
   have wl:cj (aA F f (bg b k) (⟨9,d,a,bb,ff,nn,vu,tU ga args.length gc,tU mo mn mc,vx,vy,ln,cl,args⟩:Ins)=[[-g,j],[-g],[-(g+1),j,j+1]]):=by unfold cj;rw[we.out,cI ⟨vr,rfl⟩];simp
   have AS:cj ([-g].all (bL N)=tP):=AN.out vr rfl;clear vr;obtain⟨⟨o,q,t,u,v⟩,⟨y,z,A,E,G,J,K,R,z8,z9,ue,up,ur⟩,y2⟩:=(vp.out _ _ _ vc.out).1;have ye:=zH (zc.out _ _ _ vc.out)
   go_upto_region 11 with(go_at_call 108;refine ye.out.mono ?_;rintro e vq ⟨rfl,rfl⟩)
   clear o q t u v y z A E G J K R z8 z9 ue up ur y2;obtain⟨⟨o,q,t,u,v⟩,⟨y,z,A,E,G,J,K,R,z8,z9,ue,up,ur⟩,y2⟩:=(vp.out _ _ _ vc.out).1;obtain⟨At,vd⟩:=zE vq.heap.size;obtain⟨Ax,vf⟩:=zE (vq.alloc (uc #[Z U (-g)] 3));have uv:=aS.put1 vc.out hN (-g) AS.out (by(try simp only[bo,cr]);omega) (by(try simp only[bo,cr]);omega);rw[vd,vf] at uv;have vh:=zH uv;have HV:=zH vf;have vm:=zH vd;clear uv vf vd
   go_upto_region 12 with(go_at_call 56;(try rw[vm.out]);(try simp only[w1,w2,w3,w4,w5,w6,w7]);(try rw[HV.out]);refine vh.out.mono ?_;rintro e xj ⟨rfl,ux⟩;have wg:=zH ux;clear ux)
   clear o q t u v y z A E G J K R z8 z9 ue up ur y2 vh HV vm;obtain⟨⟨o,q,t,u,v⟩,⟨y,z,A,E,G,J,K,R,z8,z9,ue,up,ur⟩,y2⟩:=(vp.out _ _ _ wg.out).1;obtain⟨Bm,yi⟩:=zE xj.heap.size;obtain⟨Bs,yk⟩:=zE (xj.alloc (uc #[Z U (-(g+1))] 3));have uv:=aS.change1 wg.out hN hF f a hf wj a1 a2 n1 n2 c1 c2 (-(g+1)) (by rw[vt.out];exact xT.out) (by(try simp only[bo,cr]);omega) (by(try simp only[bo,cr]);omega);rw[yi,yk,show F (f,a)=j from vt.out] at uv;have vh:=zH uv;have HV:=zH yk;have vm:=zH yi;clear uv yk yi
   go_wp2_with (go_at_call 106;(try rw[vm.out]);(try simp only[w1,w2,w3,w4,w5,w6,w7]);(try rw[HV.out]);refine vh.out.mono ?_;rintro e By ⟨rfl,ux⟩;have AT:=zH ux;clear ux)
   clear o q t u v y z A E G J K R z8 z9 ue up ur y2 vh HV vm
   go_end0
   refine⟨rfl, ?_⟩;have:=AT.out.wn;rw[wl.out];refine aZ.below xo.out ?_;simpa using this
theorem vK (w:World)(h:As T Bb MB lv P N F C Y at_ B tg s w0 TT RB c b hi w)(hN:0<=N/\N<=9000000)(hF:∀x,0<=F x/\F x<=9000000)(f:aw)(hf:bN f)(a1 a2:cG fS)(n1 n2 c1 c2:bh)(i:Ins)(ga:cG fS)(gc:bh)(xo:i.argsV= tU ga i.args.length gc)(zj:∃ao n cap,i.modeV= tU ao n cap)(xp:bN i.d)(xt:bN i.a)(vy:bN i.b)(k:bh)(hk:k<c.ins.length)(zp:c.ins.length<=90000)(zs:c.nvars<=90000)(hl:C.length+130<=1000000)(AH:Y.length+130<=1000000)(xF:i.op=11)(xT:isVar c.nvars i.b=tP)(vt:∀x∈aA F f (bg b k) i,x.all (bL N)=tP):
  ge am 58 #[ub #[tW (tG ⟨T,0,tM⟩),Z U f,tU a1 n1 c1,tU a2 n2 c2,tW (tG ⟨TT,0,tM⟩)],ub i.cells,Z U (k:aw)] w λe w'=>e= ud (.tuple #[])/\aZ T Bb MB lv P N F (C++aA F f (bg b k) i) (Y++(aA F f (bg b k) i).map λ_=>at_) at_ B tg w w':=by
 obtain⟨mo,mn,mc,yb⟩:=zj;obtain⟨op,d,a,g,ff,nn,vf,argsV,modeV,vh,vm,ln,cl,args⟩:=i;simp only at xo yb xp xt vy xF xT vt⊢;subst xF;subst xo yb;simp only[Ins.cells];obtain⟨D,W1,hD,zv,yd,ye,vd,HO⟩:=jf h f hf a1 a2 n1 n2 c1 c2 11 d a g ff nn vf ga args.length gc mo mn mc vh vm ln cl;clear h;obtain⟨xd,xa,j,AI,AK,AM,we,wg,wj,w1,w2,w3,w4,w5,w6,w7⟩:=pO hF (f,d) (f,a) (f,g);have An:=zH we;have yi:=zH wg;have yk:=zH wj;obtain⟨bv,vu⟩:=zE (bg b k g);have vp:cj (aA F f (bg b k) (⟨11,d,a,g,ff,nn,vf,tU ga args.length gc,tU mo mn mc,vh,vm,ln,cl,args⟩:Ins)=[[j],[xa,xa+1]]++(if bv=tP then[[-j]] else[])):=by unfold cj aA;simp only[bx (by decide:¬((11:aw)=12)),bx (by decide:¬((11:aw)=13)),bx (by decide:¬((11:aw)=9)),bx (by decide:¬((11:aw)=10)),bx (by decide:¬((11:aw)=8)),lj,vu,we,wg,wj]
 have At:cj (([j]:bj aw).all (bL N)=tP):=vt _ (by rw[vp.out];simp);have Ax:cj (([xa,xa+1]:bj aw).all (bL N)=tP):=vt _ (by rw[vp.out];simp);have AD:cj (bv=tP->[-j].all (bL N)=tP):=λh2=>vt _ (by rw[vp.out,cI h2];simp);have yp:cj (∀C2 Y2 w2,aS T Bb MB lv P N F at_ B tg w0 TT RB c b hi D #[tW (tG ⟨T,0,tM⟩),Z U f,tU a1 n1 c1,tU a2 n2 c2,tW (tG ⟨TT,0,tM⟩)] #[Z U 11,Z U d,Z U a,Z U g,Z U ff,Z U nn,tS vf,tU ga args.length gc,tU mo mn mc,Z U vh,Z U vm,Z U ln,Z U cl] W1 C2 Y2 w2->zS 108 #[tW (tG ⟨TT,0,tM⟩),Z U (k:aw),Z U g] w2 (ua bv)):=λC2 Y2 w2 h2=>by
  obtain⟨AN,s',h1,_⟩:=h2;rw[<-vu];unfold bg;have AS:=bP.1 xT;have:=nW w2 TT RB c b k g.toNat h1.as_.tz.tab hk (by omega) zp zs;rw[show((g.toNat:bh):aw)=g by omega] at this;exact this
 have AT:=zH vu;clear vu;clear we wg wj;go_enter lE,kt
 go_upto_region 1 with(fail)
 rw[zv.out];obtain⟨⟨o,q,t,u,v⟩,⟨y,z,A,E,G,J,K,R,z8,z9,ue,up,ur⟩,y2⟩:=(vd.out _ _ _ ye.out).1
 go_region
 clear o q t u v y z A E G J K R z8 z9 ue up ur y2;have wk:=zH (ye.out.grow (aq _ _).drew);obtain⟨⟨o,q,t,u,v⟩,⟨y,z,A,E,G,J,K,R,z8,z9,ue,up,ur⟩,y2⟩:=(vd.out _ _ _ wk.out).1;have yq:=zH (HO.out _ _ _ (d) xp wk.out);rw[show F (f,d)=xd from An.out] at yq
 go_upto_region 3 with(go_at_call 107;refine yq.out.mono ?_;rintro e yr ⟨rfl,uv⟩;have wl:=zH (wk.out.grow uv);clear uv)
 clear o q t u v y z A E G J K R z8 z9 ue up ur y2;obtain⟨⟨o,q,t,u,v⟩,⟨y,z,A,E,G,J,K,R,z8,z9,ue,up,ur⟩,y2⟩:=(vd.out _ _ _ wl.out).1;have yv:=zH (HO.out _ _ _ (g) vy wl.out);rw[show F (f,g)=j from yk.out] at yv;have vq:cj (∀wx,aE yr.heap.size yr wx->ge am 56 #[tW (tG ⟨T,0,tM⟩),tU (tG ⟨wx.heap.size,0,tM⟩) 1 1] (wx.alloc (uc #[Z U (j)] 3)) _):=λwx hx=>aS.put1 (wl.out.grow hx) hN (j) At.out (by(try simp only[bo,cr]);omega) (by(try simp only[bo,cr]);omega)
 go_upto_region 20 with(first|(go_at_call 107;refine yv.out.mono ?_;rintro e AW ⟨rfl,uv⟩;have vr:=zH (vq.out _ uv);clear uv)|(go_at_call 56;(try simp only[w1,w2,w3,w4,w5,w6,w7]);refine vr.out.mono ?_;rintro e A0 ⟨rfl,ux⟩;have yy:=zH ux;clear ux vr))
 clear o q t u v y z A E G J K R z8 z9 ue up ur y2 vq;obtain⟨⟨o,q,t,u,v⟩,⟨y,z,A,E,G,J,K,R,z8,z9,ue,up,ur⟩,y2⟩:=(vd.out _ _ _ yy.out).1;have ws:=aS.change0 yy.out hN hF f a hf xt a1 a2 n1 n2 c1 c2 (by rw[yi.out];exact Ax.out) (by(try simp only[bo,cr]);omega) (by(try simp only[bo,cr]);omega);rw[show F (f,a)=xa from yi.out] at ws;have yW:=zH ws;clear ws
 go_upto_region 21 with(go_at_call 106;refine yW.out.mono ?_;rintro e vx ⟨rfl,ux⟩;have vc:=zH ux;clear ux)
 clear o q t u v y z A E G J K R z8 z9 ue up ur y2 yW;cases bv with
 |false=>
  have xf:cj (aA F f (bg b k) (⟨11,d,a,g,ff,nn,vf,tU ga args.length gc,tU mo mn mc,vh,vm,ln,cl,args⟩:Ins)=[[j],[xa,xa+1]]):=by unfold cj;rw[vp.out,bx (by simp)];simp
  obtain⟨⟨o,q,t,u,v⟩,⟨y,z,A,E,G,J,K,R,z8,z9,ue,up,ur⟩,y2⟩:=(vd.out _ _ _ vc.out).1;have xj:=zH (yp.out _ _ _ vc.out)
  go_wp2_with (go_at_call 108;refine xj.out.mono ?_;rintro e vx ⟨rfl,rfl⟩)
  go_end0
  refine⟨rfl, ?_⟩;have:=vc.out.wn;rw[xf.out];refine aZ.below yd.out ?_;simpa using this
 |true=>
  have xf:cj (aA F f (bg b k) (⟨11,d,a,g,ff,nn,vf,tU ga args.length gc,tU mo mn mc,vh,vm,ln,cl,args⟩:Ins)=[[j],[xa,xa+1],[-j]]):=by unfold cj;rw[vp.out,cI rfl];simp
  have AE:cj ([-j].all (bL N)=tP):=AD.out (by first|rfl|trivial);obtain⟨⟨o,q,t,u,v⟩,⟨y,z,A,E,G,J,K,R,z8,z9,ue,up,ur⟩,y2⟩:=(vd.out _ _ _ vc.out).1;have xj:=zH (yp.out _ _ _ vc.out)
  go_upto_region 22 with(go_at_call 108;refine xj.out.mono ?_;rintro e vx ⟨rfl,rfl⟩)
  clear o q t u v y z A E G J K R z8 z9 ue up ur y2;obtain⟨⟨o,q,t,u,v⟩,⟨y,z,A,E,G,J,K,R,z8,z9,ue,up,ur⟩,y2⟩:=(vd.out _ _ _ vc.out).1;have zc:=zH (HO.out _ _ _ (g) vy vc.out);rw[show F (f,g)=j from yk.out] at zc;have vq:cj (∀wx,aE vx.heap.size vx wx->ge am 56 #[tW (tG ⟨T,0,tM⟩),tU (tG ⟨wx.heap.size,0,tM⟩) 1 1] (wx.alloc (uc #[Z U (-j)] 3)) _):=λwx hx=>aS.put1 (vc.out.grow hx) hN (-j) AE.out (by(try simp only[bo,cr]);omega) (by(try simp only[bo,cr]);omega)
  go_wp2_with (first|(go_at_call 107;refine zc.out.mono ?_;rintro e A1 ⟨rfl,uv⟩;have vr:=zH (vq.out _ uv);clear uv)|(go_at_call 56;(try simp only[w1,w2,w3,w4,w5,w6,w7]);refine vr.out.mono ?_;rintro e A2 ⟨rfl,ux⟩;have AF:=zH ux;clear ux vr))
  clear o q t u v y z A E G J K R z8 z9 ue up ur y2 vq
  go_end0
  refine⟨rfl, ?_⟩;have:=AF.out.wn;rw[xf.out];refine aZ.below yd.out ?_;simpa using this
theorem vL (w:World)(h:As T Bb MB lv P N F C Y at_ B tg s w0 TT RB c b hi w)(hN:0<=N/\N<=9000000)(hF:∀x,0<=F x/\F x<=9000000)(f:aw)(hf:bN f)(K R:cG fS)(n1 n2 c1 c2:bh)(i:Ins)(g:cG fS)(gc:bh)(vd:i.argsV= tU g i.args.length gc)(ws:∃ao n cap,i.modeV= tU ao n cap)(uv:bN i.d)(xf:bN i.a)(xj:bN i.b)(k:bh)(hk:k<c.ins.length)(xo:c.ins.length<=90000)(xp:c.nvars<=90000)(hl:C.length+130<=1000000)(xt:Y.length+130<=1000000)(vf:i.op=15)(vh:ak w0 g i.args)(vm:i.args.length<=40)(vp:bN i.f)(vq:∀v∈i.args,isVar c.nvars v=tP)(vr:∀x∈aA F f (bg b k) i,x.all (bL N)=tP):
  ge am 58 #[ub #[tW (tG ⟨T,0,tM⟩),Z U f,tU K n1 c1,tU R n2 c2,tW (tG ⟨TT,0,tM⟩)],ub i.cells,Z U (k:aw)] w λe w'=>e= ud (.tuple #[])/\aZ T Bb MB lv P N F (C++aA F f (bg b k) i) (Y++(aA F f (bg b k) i).map λ_=>at_) at_ B tg w w':=by
 obtain⟨j,o,q,vt⟩:=ws;obtain⟨op,d,a,t,u,y,z,argsV,modeV,A,E,G,J,args⟩:=i;simp only at vd vt uv xf xj vf vh vm vp vq vr⊢;subst vf;subst vd vt;simp only[Ins.cells];obtain⟨D,W1,hD,xF,xT,vu,ux,HO⟩:=jf h f hf K R n1 n2 c1 c2 15 d a t u y z g args.length gc j o q A E G J;clear h;have yb:cj (aA F f (bg b k) (⟨15,d,a,t,u,y,z,tU g args.length gc,tU j o q,A,E,G,J,args⟩:Ins)=fI F f (bg b k) (⟨15,d,a,t,u,y,z,tU g args.length gc,tU j o q,A,E,G,J,args⟩:Ins)):=by unfold cj aA;simp only[bx (by decide:¬((15:aw)=12)),bx (by decide:¬((15:aw)=13)),bx (by decide:¬((15:aw)=9)),bx (by decide:¬((15:aw)=10)),bx (by decide:¬((15:aw)=8)),bx (by decide:¬((15:aw)=11)),lj]
 have HF:cj (∀wq,aS T Bb MB lv P N F at_ B tg w0 TT RB c b hi D #[tW (tG ⟨T,0,tM⟩),Z U f,tU K n1 c1,tU R n2 c2,tW (tG ⟨TT,0,tM⟩)] #[Z U 15,Z U d,Z U a,Z U t,Z U u,Z U y,tS z,tU g args.length gc,tU j o q,Z U A,Z U E,Z U G,Z U J] W1 C Y wq->ge am 109 #[ub #[tW (tG ⟨T,0,tM⟩),Z U f,tU K n1 c1,tU R n2 c2,tW (tG ⟨TT,0,tM⟩)],ub #[Z U 15,Z U d,Z U a,Z U t,Z U u,Z U y,tS z,tU g args.length gc,tU j o q,Z U A,Z U E,Z U G,Z U J],Z U (k:aw)] wq λe w'=>e= ud (.tuple #[])/\aS T Bb MB lv P N F at_ B tg w0 TT RB c b hi D #[tW (tG ⟨T,0,tM⟩),Z U f,tU K n1 c1,tU R n2 c2,tW (tG ⟨TT,0,tM⟩)] #[Z U 15,Z U d,Z U a,Z U t,Z U u,Z U y,tS z,tU g args.length gc,tU j o q,Z U A,Z U E,Z U G,Z U J] W1 (C++(fI F f (bg b k) (⟨15,d,a,t,u,y,z,tU g args.length gc,tU j o q,A,E,G,J,args⟩:Ins))) (Y++(fI F f (bg b k) (⟨15,d,a,t,u,y,z,tU g args.length gc,tU j o q,A,E,G,J,args⟩:Ins)).map λ_=>at_) w'):=λwq hm=>by
  obtain⟨yp,s',hg,l1,l2,l3⟩:=hm;have:=Bg wq hg.as_ hN hF f hf K R n1 n2 c1 c2 (⟨15,d,a,t,u,y,z,tU g args.length gc,tU j o q,A,E,G,J,args⟩:Ins) g gc rfl ⟨j,o,q,rfl⟩ vh vm vp uv k hk vq xo xp hl xt (by have:=vr;unfold aA at this;simp only[bx (by decide:¬((15:aw)=12)),bx (by decide:¬((15:aw)=13)),bx (by decide:¬((15:aw)=9)),bx (by decide:¬((15:aw)=10)),bx (by decide:¬((15:aw)=8)),bx (by decide:¬((15:aw)=11)),lj] at this;exact this);simp only[Ins.cells] at this;refine this.mono ?_;rintro e w2 ⟨rfl,yd⟩;exact⟨rfl,aS.of hg l1 l2 l3 yd⟩
 obtain⟨xd,xa,xb,yq,yr,yv,vx,vy,we,w1,w2,w3,w4,w5,w6,w7⟩:=pO hF (f,d) (f,a) (f,t);have ye:=zH vx;have yy:=zH vy;have yW:=zH we;clear vx vy we;go_enter lE,kt
 go_upto_region 1 with(fail)
 rw[xF.out];obtain⟨⟨x0,x1,x2,x3,x4⟩,⟨z0,z1,z2,z3,z4,z5,z6,z7,z8,z9,ue,up,ur⟩,y2⟩:=(ux.out _ _ _ vu.out).1
 go_region
 clear x0 x1 x2 x3 x4 z0 z1 z2 z3 z4 z5 z6 z7 z8 z9 ue up ur y2;have vc:=zH (vu.out.grow (aq _ _).drew);obtain⟨⟨x0,x1,x2,x3,x4⟩,⟨z0,z1,z2,z3,z4,z5,z6,z7,z8,z9,ue,up,ur⟩,y2⟩:=(ux.out _ _ _ vc.out).1;have wg:=zH (HO.out _ _ _ (d) uv vc.out);rw[show F (f,d)=xd from ye.out] at wg
 go_upto_region 3 with(go_at_call 107;refine wg.out.mono ?_;rintro e zc ⟨rfl,wj⟩;have wk:=zH (vc.out.grow wj);clear wj)
 clear x0 x1 x2 x3 x4 z0 z1 z2 z3 z4 z5 z6 z7 z8 z9 ue up ur y2;obtain⟨⟨x0,x1,x2,x3,x4⟩,⟨z0,z1,z2,z3,z4,z5,z6,z7,z8,z9,ue,up,ur⟩,y2⟩:=(ux.out _ _ _ wk.out).1;have yi:=zH (HF.out _ wk.out)
 go_wp2_with (go_at_call 109;refine yi.out.mono ?_;rintro e wz ⟨rfl,wl⟩;have yk:=zH wl;clear wl)
 go_end0
 refine⟨rfl, ?_⟩;have:=yk.out.wn;rw[yb.out];refine aZ.below xT.out ?_;simpa using this
theorem vM (w:World)(h:As T Bb MB lv P N F C Y at_ B tg s w0 TT RB c b hi w)(hN:0<=N/\N<=9000000)(hF:∀x,0<=F x/\F x<=9000000)(f:aw)(hf:bN f)(u y:cG fS)(n1 n2 c1 c2:bh)(i:Ins)(g:cG fS)(gc:bh)(vc:i.argsV= tU g i.args.length gc)(wj:∃ao n cap,i.modeV= tU ao n cap)(vd:bN i.d)(vf:bN i.a)(wk:bN i.b)(k:bh)(hk:k<c.ins.length)(xF:c.ins.length<=90000)(xT:c.nvars<=90000)(hl:C.length+130<=1000000)(yb:Y.length+130<=1000000)(vh:i.op=18)(vm:∀x∈aA F f (bg b k) i,x.all (bL N)=tP):
  ge am 58 #[ub #[tW (tG ⟨T,0,tM⟩),Z U f,tU u n1 c1,tU y n2 c2,tW (tG ⟨TT,0,tM⟩)],ub i.cells,Z U (k:aw)] w λe w'=>e= ud (.tuple #[])/\aZ T Bb MB lv P N F (C++aA F f (bg b k) i) (Y++(aA F f (bg b k) i).map λ_=>at_) at_ B tg w w':=by
 obtain⟨j,o,q,vp⟩:=wj;obtain⟨op,d,a,t,z,A,E,argsV,modeV,G,J,K,R,args⟩:=i;simp only at vc vp vd vf wk vh vm⊢;subst vh;subst vc vp;simp only[Ins.cells];obtain⟨D,W1,hD,wl,ws,vq,uv,HO⟩:=jf h f hf u y n1 n2 c1 c2 18 d a t z A E g args.length gc j o q G J K R;clear h;have xf:cj (aA F f (bg b k) (⟨18,d,a,t,z,A,E,tU g args.length gc,tU j o q,G,J,K,R,args⟩:Ins)=qj (λv=>F (f,v)) a):=by unfold cj aA;simp only[bx (by decide:¬((18:aw)=12)),bx (by decide:¬((18:aw)=13)),bx (by decide:¬((18:aw)=9)),bx (by decide:¬((18:aw)=10)),bx (by decide:¬((18:aw)=8)),bx (by decide:¬((18:aw)=11)),bx (by decide:¬((18:aw)=15)),lj]
 have HF:cj (∀wq,aS T Bb MB lv P N F at_ B tg w0 TT RB c b hi D #[tW (tG ⟨T,0,tM⟩),Z U f,tU u n1 c1,tU y n2 c2,tW (tG ⟨TT,0,tM⟩)] #[Z U 18,Z U d,Z U a,Z U t,Z U z,Z U A,tS E,tU g args.length gc,tU j o q,Z U G,Z U J,Z U K,Z U R] W1 C Y wq->ge am 110 #[ub #[tW (tG ⟨T,0,tM⟩),Z U f,tU u n1 c1,tU y n2 c2,tW (tG ⟨TT,0,tM⟩)],ub #[Z U 18,Z U d,Z U a,Z U t,Z U z,Z U A,tS E,tU g args.length gc,tU j o q,Z U G,Z U J,Z U K,Z U R]] wq λe w'=>e= ud (.tuple #[])/\aS T Bb MB lv P N F at_ B tg w0 TT RB c b hi D #[tW (tG ⟨T,0,tM⟩),Z U f,tU u n1 c1,tU y n2 c2,tW (tG ⟨TT,0,tM⟩)] #[Z U 18,Z U d,Z U a,Z U t,Z U z,Z U A,tS E,tU g args.length gc,tU j o q,Z U G,Z U J,Z U K,Z U R] W1 (C++(qj (λv=>F (f,v)) a)) (Y++(qj (λv=>F (f,v)) a).map λ_=>at_) w'):=λwq hm=>by
  obtain⟨yd,s',hg,l1,l2,l3⟩:=hm;have:=EK wq hg.as_ hN hF f hf u y n1 n2 c1 c2 (⟨18,d,a,t,z,A,E,tU g args.length gc,tU j o q,G,J,K,R,args⟩:Ins) g gc rfl ⟨j,o,q,rfl⟩ vf (by omega) (by omega) (by have:=vm;unfold aA at this;simp only[bx (by decide:¬((18:aw)=12)),bx (by decide:¬((18:aw)=13)),bx (by decide:¬((18:aw)=9)),bx (by decide:¬((18:aw)=10)),bx (by decide:¬((18:aw)=8)),bx (by decide:¬((18:aw)=11)),bx (by decide:¬((18:aw)=15)),lj] at this;exact this);simp only[Ins.cells] at this;refine this.mono ?_;rintro e w2 ⟨rfl,xj⟩;exact⟨rfl,aS.of hg l1 l2 l3 xj⟩
 obtain⟨xd,xa,xb,ye,yi,yk,vr,vt,vu,w1,w2,w3,w4,w5,w6,w7⟩:=pO hF (f,d) (f,a) (f,t);have xo:=zH vr;have yp:=zH vt;have yq:=zH vu;clear vr vt vu;go_enter lE,kt
 go_upto_region 1 with(fail)
 rw[wl.out];obtain⟨⟨x0,x1,x2,x3,x4⟩,⟨z0,z1,z2,z3,z4,z5,z6,z7,z8,z9,ue,up,ur⟩,y2⟩:=(uv.out _ _ _ vq.out).1
 go_region
 clear x0 x1 x2 x3 x4 z0 z1 z2 z3 z4 z5 z6 z7 z8 z9 ue up ur y2;have ux:=zH (vq.out.grow (aq _ _).drew);obtain⟨⟨x0,x1,x2,x3,x4⟩,⟨z0,z1,z2,z3,z4,z5,z6,z7,z8,z9,ue,up,ur⟩,y2⟩:=(uv.out _ _ _ ux.out).1;have vx:=zH (HO.out _ _ _ (d) vd ux.out);rw[show F (f,d)=xd from xo.out] at vx
 go_upto_region 3 with(go_at_call 107;refine vx.out.mono ?_;rintro e yr ⟨rfl,vy⟩;have we:=zH (ux.out.grow vy);clear vy)
 clear x0 x1 x2 x3 x4 z0 z1 z2 z3 z4 z5 z6 z7 z8 z9 ue up ur y2;obtain⟨⟨x0,x1,x2,x3,x4⟩,⟨z0,z1,z2,z3,z4,z5,z6,z7,z8,z9,ue,up,ur⟩,y2⟩:=(uv.out _ _ _ we.out).1;have xp:=zH (HF.out _ we.out)
 go_wp2_with (go_at_call 110;refine xp.out.mono ?_;rintro e wz ⟨rfl,wg⟩;have xt:=zH wg;clear wg)
 go_end0
 refine⟨rfl, ?_⟩;have:=xt.out.wn;rw[xf.out];refine aZ.below ws.out ?_;simpa using this
theorem yT (w:World)(h:As T Bb MB lv P N F C Y at_ B tg s w0 TT RB c b hi w)(hN:0<=N/\N<=9000000)(hF:∀x,0<=F x/\F x<=9000000)(f:aw)(hf:bN f)(a1 a2:cG fS)(n1 n2 c1 c2:bh)(i:Ins)(ga:cG fS)(gc:bh)(vq:i.argsV= tU ga i.args.length gc)(xo:∃ao n cap,i.modeV= tU ao n cap)(vr:bN i.d)(xp:bN i.a)(xt:bN i.b)(k:bh)(hk:k<c.ins.length)(ye:c.ins.length<=90000)(yi:c.nvars<=90000)(hl:C.length+130<=1000000)(yk:Y.length+130<=1000000)(vt:i.op≠12/\i.op≠13/\i.op≠9/\i.op≠10/\i.op≠8/\i.op≠11/\i.op≠15/\i.op≠18):
  ge am 58 #[ub #[tW (tG ⟨T,0,tM⟩),Z U f,tU a1 n1 c1,tU a2 n2 c2,tW (tG ⟨TT,0,tM⟩)],ub i.cells,Z U (k:aw)] w λe w'=>e= ud (.tuple #[])/\aZ T Bb MB lv P N F (C++aA F f (bg b k) i) (Y++(aA F f (bg b k) i).map λ_=>at_) at_ B tg w w':=by
 obtain⟨mo,mn,mc,vu⟩:=xo;obtain⟨op,d,a,bb,ff,nn,vx,argsV,modeV,vy,we,ln,cl,args⟩:=i;simp only at vq vu vr xp xt vt⊢;subst vq vu;simp only[Ins.cells];obtain⟨D,W1,hD,xF,xT,wg,uv,HO⟩:=jf h f hf a1 a2 n1 n2 c1 c2 op d a bb ff nn vx ga args.length gc mo mn mc vy we ln cl;clear h;obtain⟨ux,vc,e9,vd,e8,vf,vh,vm⟩:=vt;have yb:cj (aA F f (bg b k) (⟨op,d,a,bb,ff,nn,vx,tU ga args.length gc,tU mo mn mc,vy,we,ln,cl,args⟩:Ins)=[]):=by unfold cj aA;simp only[ux,vc,e9,vd,e8,vf,vh,vm,if_false]
 have yp:(op==12)=tR:=ef ux;have yq:(op==13)=tR:=ef vc;have b9:(op==9)=tR:=ef e9;have yr:(op==10)=tR:=ef vd;have b8:(op==8)=tR:=ef e8;have yv:(op==11)=tR:=ef vf;have yy:(op==15)=tR:=ef vh;have yW:(op==18)=tR:=ef vm;clear ux vc e9 vd e8 vf vh vm;obtain⟨xd,xa,xb,zc,zj,zp,wj,wk,wl,w1,w2,w3,w4,w5,w6,w7⟩:=pO hF (f,d) (f,a) (f,bb);have yd:=zH wj;have zs:=zH wk;have zv:=zH wl;clear wj wk wl;go_enter lE,kt
 go_upto_region 1 with(fail)
 rw[xF.out];obtain⟨⟨g,j,o,q,t⟩,⟨u,v,y,z,A,E,G,J,K,R,ue,up,ur⟩,y2⟩:=(uv.out _ _ _ wg.out).1
 go_region
 clear g j o q t u v y z A E G J K R ue up ur y2;have vp:=zH (wg.out.grow (aq _ _).drew);obtain⟨⟨g,j,o,q,t⟩,⟨u,v,y,z,A,E,G,J,K,R,ue,up,ur⟩,y2⟩:=(uv.out _ _ _ vp.out).1;have ws:=zH (HO.out _ _ _ (d) vr vp.out);rw[show F (f,d)=xd from yd.out] at ws
 go_upto_region 3 with(go_at_call 107;refine ws.out.mono ?_;rintro e An ⟨rfl,xf⟩;have xj:=zH (vp.out.grow xf);clear xf)
 clear g j o q t u v y z A E G J K R ue up ur y2;obtain⟨⟨g,j,o,q,t⟩,⟨u,v,y,z,A,E,G,J,K,R,ue,up,ur⟩,y2⟩:=(uv.out _ _ _ xj.out).1;go_wp2
 go_end0
 refine⟨rfl, ?_⟩;have:=xj.out.wn;rw[yb.out];refine aZ.below xT.out ?_;simpa using this
end
noncomputable def kZ (d:bj Ins)(k:bh)(v:aw):mm:=@decide (eF d v.toNat k) (tn _)
noncomputable def bq (m:Mo)(f k:bh)(v:aw):mm:=match m.fs[f]? with
 |some g=>kZ g.c.ins k v
 |none=>tR
theorem Bh {d:bj Ins}{k:bh}{v:aw}:kZ d k v=tP↔eF d v.toNat k:=by
 unfold kZ;exact @decide_eq_true_iff _ (tn _)
theorem qN {P:bj (aw×aw)}{o:aw->aw}{e f:aw->mm}{i:Ins}:∀(l:bj aw)(n:bh),(∀a∈l,e a=f a)->nH P o e i n l=nH P o f i n l
 |[],_,_=>rfl
 |a::r,n,h=>by
  unfold nH;rw[qN r (n+1) (λx g=>h x (by simp[g]))];have:dE e i.d i.args n a=dE f i.d i.args n a:=by unfold dE;rw[h a (by simp)]
  rw[this]
theorem yU {P:bj (aw×aw)}{f:aw}{d e:aw->mm}{i:Ins}(o:i.op=9->d i.a=e i.a)(q:i.op=11->d i.b=e i.b)(t:i.op=15->∀a∈i.args,d a=e a):fT P f d i=fT P f e i:=by
 unfold fT
 by_cases g:i.op=9
 ·rw[o g]
  simp[g]
 by_cases h:i.op=11
 ·rw[q h]
  simp[h]
 by_cases j:i.op=15
 ·simp only[qN i.args 0 (t j)]
  simp[j]
 simp[g,h,j]
theorem nZ {P:bj (aw×aw)}{f:aw}{beh:bh->aw->mm}{i:Ins}:∀(l:bj Ins)(k:bh),bZ P f beh k (l++[i])=bZ P f beh k l++(fT P f (beh (k+l.length)) i).map (λc=>(c,(f,((k+l.length:bh):aw))))
 |[],k=>by simp[bZ]
 |x::r,k=>by
  rw[ij];unfold bZ;rw[nZ r (k+1),eq,eV,show k+1+r.length=k+(r.length+1) by omega]
theorem og {f:aw}{p:aw×aw}:∀(l:bj (aw×aw))(k:bh),bB f k (l++[p])=bB f k l++(if p.1=f then[([-(2*((k+l.length:bh):aw)+1),-(2*((k+l.length:bh):aw)+2)],(f,(-1:aw)))] else[])
 |[],k=>by simp[bB]
 |x::r,k=>by
  rw[ij];unfold bB;rw[og r (k+1),eq,eV,show k+1+r.length=k+(r.length+1) by omega]
theorem oh {P:bj (aw×aw)}{beh:bh->bh->aw->mm}{g:Fn}:∀(l:bj Fn)(f:bh),iq P beh f (l++[g])=iq P beh f l++(bB ((f+l.length:bh):aw) 0 P++bZ P ((f+l.length:bh):aw) (beh (f+l.length)) 0 g.c.ins)
 |[],f=>by simp[iq]
 |x::r,f=>by
  rw[ij];unfold iq;rw[oh r (f+1),eq (bB (↑f) 0 P++bZ P (↑f) (beh f) 0 x.c.ins),eV,show f+1+r.length=f+(r.length+1) by omega]
theorem Da {P:bj (aw×aw)}{f:aw}{beh:aw->mm}{i:Ins}(e:i.args.length<=40):(fT P f beh i).length<=124:=by
 have d:=mI (F:=aG 0 P) (o:=λv=>aG 0 P (f,v)) (beh:=beh) (i:=i) i.args 0;rw[ql] at d;unfold fT;simp only
 repeat' split
 all_goals (simp only[bo,eV,mC];omega)
theorem mJ {P:bj (aw×aw)}{f:aw}{beh:bh->aw->mm}:∀(l:bj Ins)(k:bh),(∀i∈l,i.args.length<=40)->(bZ P f beh k l).length<=124*l.length
 |[],_,_=>by simp[bZ]
 |x::r,k,h=>by
  unfold bZ;rw[bo,dy,eV];have d:=Da (P:=P) (f:=f) (beh:=beh k) (h x (by simp));have e:=mJ (P:=P) (f:=f) (beh:=beh) r (k+1) (λi hi=>h i (by simp[hi]));omega
theorem jo {f:aw}:∀(l:bj (aw×aw))(k:bh),(bB f k l).length<=l.length
 |[],_=>by simp[bB]
 |x::r,k=>by
  unfold bB;rw[bo,eV];have:=jo (f:=f) r (k+1)
  by_cases h:x.1=f
  ·rw[cI h];simp;omega
  ·rw[bx h];simp;omega
def aO (l:bj Fn):bh:=(l.map λg=>g.c.ins.length).sum
theorem mK {P:bj (aw×aw)}{beh:bh->bh->aw->mm}:∀(l:bj Fn)(f:bh),(∀g∈l,∀i∈g.c.ins,i.args.length<=40)->(iq P beh f l).length<=P.length*l.length+124*aO l
 |[],_,_=>by simp[iq]
 |x::r,f,h=>by
  unfold iq;have j:=jo (f:=(f:aw)) P 0;have o:=mJ (P:=P) (f:=(f:aw)) (beh:=beh f) x.c.ins 0 (h x (by simp));have q:=mK (P:=P) (beh:=beh) r (f+1) (λg d=>h g (by simp[d]));have e:aO (x::r)=x.c.ins.length+aO r:=by simp[aO]
  rw[bo,bo,eV,e,Nat.mul_succ];omega
theorem qm {d f:bj (aw×aw)}(g:d.Nodup)(j:f.Nodup)(h:∀x∈d,x∉f):(d++f).Nodup:=pn.2 ⟨g,j,λa o b q e=>h a o (by rw[e];exact q)⟩
theorem qO {f:aw}:∀(l:bj Vr)(v:bh),(bK f v l).Nodup
 |[],_=>by simp[bK]
 |x::r,v=>by
  unfold bK;refine qm (by by_cases h:x.ptr=tP<;>simp[h]) (qO r (v+1)) (λy d g=> ?_);obtain⟨k,z,_,_,e⟩:=iE.1 g
  by_cases h:x.ptr=tP
  ·rw[cI h,cU] at d
   rw[d] at e;have:=(sf e).2;omega
  ·rw[bx h] at d;exact fL d (by simp)
theorem yV {f:aw}{g:Fn}:(dD f g).Nodup:=by
 unfold dD;refine qm (qO _ _) (by by_cases h:g.c.rp=tP<;>simp[h]) (λy j d=> ?_);obtain⟨k,z,_,_,e⟩:=iE.1 j
 by_cases h:g.c.rp=tP
 ·rw[cI h,cU] at d
  rw[d] at e;have:=(sf e).2;omega
 ·rw[bx h] at d;exact fL d (by simp)
theorem om {f:aw}{g:Fn}{x:aw×aw}(h:x∈dD f g):x.1=f:=by
 unfold dD at h;rcases cX.1 h with h|h
 ·obtain⟨k,z,_,_,e⟩:=iE.1 h;rw[e]
 ·by_cases d:g.c.rp=tP
  ·rw[cI d,cU] at h;rw[h]
  ·rw[bx d] at h;exact fL h (by simp)
theorem qP:∀(l:bj Fn)(f:bh),(bY f l).Nodup
 |[],_=>by simp[bY]
 |g::r,f=>by
  unfold bY;refine qm yV (qP r (f+1)) (λy d h=> ?_);obtain⟨k,z,_,e⟩:=jl.1 h;have j:=om d;have o:=om e;omega
theorem Mo.ptrs_nodup (m:Mo):m.ptrs.Nodup:=qP _ _
section
variable {T Bb MB:bh}{lv:cG fS×bh}{P:bj (aw×aw)}{N:aw}{F F2:aw×aw->aw}{C:bj (bj aw)}{Y:bj (aw×aw)}{at_:aw×aw}{B:bh}{tg:bh->bh}{s:ow}{w WF:World}
theorem Hq {f v N2:aw}{a9:cG fS}{c9:bh}(h:Wn T Bb MB lv P N F C Y at_ B tg s w)(y:Ext (λq=>q=T\/q=Bb\/q=MB\/(ci lv.1 P.length lv.2).ownBlock=tG q) w WF)
  (hT:WF.heap[T]?=tG (uc (Gt Bb MB (a9,c9) s (P.length+1) Y.length at_) 123 (0,0)))(hB:WF.heap[Bb]?=tG (uc #[Z U N2,tU s.fA C.length s.fC] 191 (0,0)))(hM:mR WF MB (P.length+1) F2)
  (ue:WF.ownsRow B 121 2 (tU a9 (P.length+1) c9) (P.length+1) (P.flatMap qh++[Z U f,Z U v]))(G:∀k,(ci a9 (P.length+1) c9).ownBlock=tG k->(ci lv.1 P.length lv.2).ownBlock=tG k\/w.heap.size<=k)(hl:P.length+1<=30000):
  aZ T Bb MB (a9,c9) (P++[(f,v)]) N2 F2 C Y at_ B tg w WF:=by
 have z:=h.t4;have J:∀k,tg k≠1->tg k≠2->tg k≠3->tg k≠4->¬(k=T\/k=Bb\/k=MB\/(ci lv.1 P.length lv.2).ownBlock=tG k):=λk u E o j K=>by
  rcases K with rfl|rfl|rfl|K
  ·exact u h.t1
  ·exact E h.t2
  ·exact o h.t3
  ·exact j (z k K)
 have up:∀k,tg k≠0->k<w.heap.size:=λk d=>(h.lo k d).2;have A:(P++[(f,v)]).length=P.length+1:=by simp
 have x:∀k,(ci a9 (P.length+1) c9).ownBlock=tG k->tg k≠0->tg k=4:=λk d h0=>by
  rcases G k d with u|u
  ·exact z k u
  ·have:=up k h0;omega
 refine⟨λk=>if (ci a9 (P.length+1) c9).ownBlock=tG k then 4 else tg k,s,⟨?_,hB, ?_, ?_, ?_, ?_,⟨h.cls.1, ?_⟩, ?_, ?_, ?_, ?_, ?_, ?_, ?_,by rw[A];exact hl,h.lC,h.lY⟩, ?_, ?_, ?_⟩
 ·rw[A];exact hT
 ·rw[A];exact hM
 ·rw[A,gn];exact ue
 ·exact ah h.frow y (λk d=>J k (by rw[h.t5 k d];decide) (by rw[h.t5 k d];decide) (by rw[h.t5 k d];decide) (by rw[h.t5 k d];decide))
 ·exact ah h.yrow y (λk d=>J k (by rw[h.t6 k d];decide) (by rw[h.t6 k d];decide) (by rw[h.t6 k d];decide) (by rw[h.t6 k d];decide))
 ·intro k c hc
  obtain⟨ur,uv,u,E,o⟩:=h.cls.2 k c hc;refine⟨ur,uv,u,cu E y (λa t e=>J _ (by rw[o t a e];decide) (by rw[o t a e];decide) (by rw[o t a e];decide) (by rw[o t a e];decide)),λt a e=> ?_⟩;rw[bx (λg=> ?_)]
  ·exact o t a e
  ·obtain⟨b,ux,e1,e2,_⟩:=E t
   rw[e] at e1;obtain rfl:=cE e1;rcases G _ g with j|j
   ·have:=z _ j;have:=o t _ e;omega
   ·simp only at e2 j;omega
 ·show(if _ then 4 else tg T)=1
  rw[bx (λg=>by have:=x T g (by rw[h.t1];decide);have:=h.t1;omega)];exact h.t1
 ·show(if _ then 4 else tg Bb)=2
  rw[bx (λg=>by have:=x Bb g (by rw[h.t2];decide);have:=h.t2;omega)];exact h.t2
 ·show(if _ then 4 else tg MB)=3
  rw[bx (λg=>by have:=x MB g (by rw[h.t3];decide);have:=h.t3;omega)];exact h.t3
 ·intro k d
  rw[A] at d
  show(if _ then 4 else tg k)=4
  rw[cI d]
 ·intro k d
  have j:=h.t5 k d
  show(if _ then 4 else tg k)=5
  rw[bx (λg=>by have:=x k g (by omega);omega)];exact j
 ·intro k d
  have j:=h.t6 k d
  show(if _ then 4 else tg k)=6
  rw[bx (λg=>by have:=x k g (by omega);omega)];exact j
 ·intro k d
  by_cases g:(ci a9 (P.length+1) c9).ownBlock=tG k
  ·exact ai ue g
  ·simp only[bx g] at d
   exact⟨(h.lo k d).1,cH (up k d) y.size⟩
 ·refine y.mono (λq R=> ?_)
  rcases R with rfl|rfl|rfl|R
  ·rw[h.t1];decide
  ·rw[h.t2];decide
  ·rw[h.t3];decide
  ·rw[z q R];decide
 ·intro k d
  by_cases g:(ci a9 (P.length+1) c9).ownBlock=tG k
  ·rcases G k g with j|j
   ·exact .inl (by rw[z _ j];decide)
   ·exact .inr j
  ·simp only[bx g] at d
   exact .inl d
 ·intro k d
  by_cases g:(ci a9 (P.length+1) c9).ownBlock=tG k
  ·simp only[cI g];exact(x k g d).symm
  ·simp only[bx g]
theorem Bi (w:World)(h:Wn T Bb MB lv P N F C Y at_ B tg s w)(hN:0<=N/\N<=8000000)(f v:aw)(hf:bN f)(hv:bN v)(hl:P.length+1<=30000):
  ge am 100 #[tW (tG ⟨T,0,tM⟩),Z U f,Z U v] w λe w'=>e= ud (.tuple #[])/\∃A4,aZ T Bb MB A4 (P++[(f,v)]) (N+2) (λx=>if x=(f,v) then N+1 else F x) C Y at_ B tg w w':=by
 obtain⟨D,hD⟩:=zE w.heap.size;obtain⟨W1,up⟩:=zE (w.alloc (uc #[Z U f,Z U v] 121));have vy:=il up;have we:W1.heap[D]?=tG (uc #[Z U f,Z U v] 121 (0,0)):=by rw[<-up,<-hD];exact alloc_at _ _
 have d:=h.grow vy;have xT:D≠T/\D≠Bb/\D≠MB:=by
  have a1:=(h.lo T (by rw[h.t1];decide)).2;have a2:=(h.lo Bb (by rw[h.t2];decide)).2;have a3:=(h.lo MB (by rw[h.t3];decide)).2;omega
 have yb:T≠Bb/\T≠MB/\Bb≠MB:=by
  have a1:=h.t1;have a2:=h.t2;have a3:=h.t3;exact⟨λe=>by rw[e] at a1;omega,λe=>by rw[e] at a1;omega,λe=>by rw[e] at a2;omega⟩
 have yd:B<=w.heap.size:=by have:=(h.lo T (by rw[h.t1];decide));omega
 have ye:∀k,(ci lv.1 P.length lv.2).ownBlock=tG k->k≠T/\k≠Bb/\k≠MB/\k<D:=λk u=>by
  have a4:=h.t4 k u;have a1:=h.t1;have a2:=h.t2;have a3:=h.t3;have:=(h.lo k (by omega)).2;exact⟨λe=>by rw[e] at a4;omega,λe=>by rw[e] at a4;omega,λe=>by rw[e] at a4;omega,by omega⟩
 obtain⟨i0,yi,yk,yp,yq⟩:=kB wX;obtain⟨S1,ur⟩:=zE ((λw'=>w'.heap[T]?=tG (uc (Gt Bb MB lv s P.length Y.length at_) 123 (0,0))/\w'.heap[D]?=tG (uc #[Z U f,Z U v] 121 (0,0))):World->Prop);have A5:S1 W1.drew:=by rw[<-ur];exact⟨d.row,we⟩
 have wg:cj (∀W,W.heap[T]?=tG (uc (Gt Bb MB lv s P.length Y.length at_) 123 (0,0))->W.heap[D]?=tG (uc #[Z U f,Z U v] 121 (0,0))->S1 W):=λW a b=>by rw[<-ur];exact⟨a,b⟩
 have y:cj (∀w,S1 w->w.cell? ⟨T,1,tM⟩=tG (tU lv.1 P.length lv.2)/\w.cell? ⟨D,0,tM⟩=tG (Z U f)/\w.cell? ⟨D,1,tM⟩=tG (Z U v)/\T<w.heap.size/\D<w.heap.size):=λw g=>by rw[<-ur] at g;exact⟨(rowAt g.1 1 rfl).1,(rowAt g.2 0 rfl).1,(rowAt g.2 1 rfl).1,aa g.1,aa g.2⟩
 have A6:=zH up;have yr:=zH vy;have H:=zH h;have H1:=zH d;have yv:=zH we;have J:=zH ye;have yy:=zH xT;have A:=zH yb;have HD:=zH hD;have Bk:=zH yd;have yW:=aa d.row;clear h up vy d we ur ye xT yb yd;go_enter func100,ntmps100
 go_upto_region 1 with(fail)
 rw[A6.out];refine aj 10 S1 (by kernel_rfl) ?_;refine zT 0 rfl y.out ?_;(try go_simp);refine zT 1 rfl y.out ?_;(try go_simp);refine zT 2 rfl y.out ?_;(try go_simp);refine zT 3 rfl y.out ?_;(try go_simp);refine zT 4 rfl y.out ?_;(try go_simp);refine zT 5 rfl y.out ?_;(try go_simp);refine zO 6 rfl λK' j=> ?_;go_simp;obtain⟨G,hG⟩:=zE W1.heap.size;obtain⟨W8,uv⟩:=zE ((W1.alloc (uc #[Z U f,Z U v] 121)).drew);(try rw[hG]);(try rw[uv]);have ux:aE W1.heap.size W1 W8:=by rw[<-uv];exact((aq _ _).alloc (cg _) _).drew
 have zc:W8.heap[G]?=tG (uc #[Z U f,Z U v] 121 (0,0)):=by rw[<-uv,<-hG];exact alloc_at _ _
 have vc:=(ux.block T yW).trans H1.out.row;have wj:=(ux.block D (aa yv.out)).trans yv.out;have K:aE w.heap.size w W8:=yr.out.trans (ux.mono yr.out.size);refine j _ _ (wg.out _ vc wj) ?_;clear j;(try go_simp);refine zO 7 rfl λK' j=> ?_;have zj:=H.out.grow K;have zp:B<=W8.heap.size:=eJ Bk.out K.size;refine aI (.tmp 14) (.tmp 16) 119 rfl B 121 i0 _ 2 16 underlying119 yi yk yp yq rfl (by decide) (tU lv.1 P.length lv.2) P.length (P.flatMap qh) rfl zj.lrow (tG ⟨G,0,tM⟩) 1 1 [Z U f,Z U v] rfl rfl (λh=>by cases h) (λad Bm jj uu hu=>by
  obtain rfl:(⟨G,0,tM⟩:fS)=ad:=by simpa using Bm
  rw[cY,cL,bw _ _ _ _ _ _ zc];simpa using hu) (by simp[ct]) (by unfold eC;omega) (by omega) zp ?_
 intro v9 w9 wk zs vd;obtain⟨E,c9,Bs⟩:=aC wk;subst Bs;have vf:Ext (λq=>(ci lv.1 P.length lv.2).ownBlock=tG q) W8 w9:=Ext.of_grown zs (λq hq=> .inl hq);have R:=vf.heap vc (λe=>(J.out _ e).1 rfl);have wl:=vf.heap wj (λe=>by have:=(J.out _ e).2.2.2;omega);have zv:S1 w9:=wg.out _ R wl;have By:=(rowAt R 1 rfl).2;have BE:=(rowAt R 1 rfl).1;have BT:=aa R;refine j _ _ zv ?_;clear j;(try go_simp);refine zT 8 rfl y.out ?_;(try go_simp);refine zT 9 rfl y.out ?_;(try go_simp);refine zK rfl λK' j=> ?_;go_simp;refine j _ _ ?_;clear j;refine⟨by kernel_rfl, ?_⟩;obtain⟨o,vh⟩:=zE (w9.setCell ⟨T,1,tM⟩ (tU E (P.length+1) c9));(try rw[vh]);have vm:Ext (·=T) w9 o:=by rw[<-vh];exact Ext.set1 w9 T 1 _
 have An:o.heap[T]?=tG (uc (Gt Bb MB (E,c9) s (P.length+1) Y.length at_) 123 (0,0)):=by rw[<-vh];exact bk w9 T 1 _ _ _ R
 have At:Ext (λq=>q=T\/(ci lv.1 P.length lv.2).ownBlock=tG q) W8 o:=(vf.mono (λq h=> .inr h)).trans vm (λq h=> .inl (.inl h));have vp:Ext (λq=>q=T\/(ci lv.1 P.length lv.2).ownBlock=tG q) w o:=(Ext.of_below_size K).trans At (λq h=> .inl h);have Ax:=vm.heap wl (λe=>yy.out.1 e);have AD:o.heap[Bb]?=tG (uc #[Z U N,tU s.fA C.length s.fC] 191 (0,0)):=vp.heap H.out.bld (by rintro(e|e);exact A.out.1 e.symm;exact(J.out _ e).2.1 rfl);have AE:mR o MB P.length F:=H.out.map.ext vp (by rintro(e|e);exact A.out.2.1 e.symm;exact(J.out _ e).2.2.1 rfl);have AF:=ah wk vm (λk u e=>by
  rcases vd k u with d|d
  ·exact(J.out k d).1 e
  ·have:=aa vc;omega)
 have BY:=zH vp;have vq:=zH An;have AH:=zH Ax;have ws:=zH AD;have B5:=zH AE;have B6:=zH AF;have B7:cj (∀k,(ci E (P.length+1) c9).ownBlock=tG k->(ci lv.1 P.length lv.2).ownBlock=tG k\/w.heap.size<=k):=λk u=>by
  rcases vd k u with d|d
  ·exact .inl d
  ·exact .inr (eJ K.size d)
 have B8:cj (∀k,(ci E (P.length+1) c9).ownBlock=tG k->k≠T/\k≠Bb/\k≠MB):=λk u=>by
  rcases vd k u with d|d
  ·obtain⟨e1,e2,e3,_⟩:=J.out k d;exact⟨e1,e2,e3⟩
  ·have e1:=(H.out.lo T (by rw[H.out.t1];decide)).2
   have e2:=(H.out.lo Bb (by rw[H.out.t2];decide)).2;have e3:=(H.out.lo MB (by rw[H.out.t3];decide)).2;have:=K.size;omega
 clear vh vm An At vp Ax AD AE AF wk zs vd vf R wl zv By BE zj zp vc wj zc uv ux K hG BT yW yi yk yp yq wg y A5
 go_upto_region 2 with(fail)
 have B9:=(rowAt vq.out 2 rfl).1;have CN:=aa vq.out;have CT:=aa ws.out;obtain⟨S2,vr⟩:=zE ((λw'=>w'.heap[T]?=tG (uc (Gt Bb MB (E,c9) s (P.length+1) Y.length at_) 123 (0,0))/\w'.heap[D]?=tG (uc #[Z U f,Z U v] 121 (0,0))):World->Prop);have Cd:S2 o.drew:=by rw[<-vr];exact⟨vq.out,AH.out⟩
 have AI:cj (∀W,W.heap[T]?=tG (uc (Gt Bb MB (E,c9) s (P.length+1) Y.length at_) 123 (0,0))->W.heap[D]?=tG (uc #[Z U f,Z U v] 121 (0,0))->S2 W):=λW a b=>by rw[<-vr];exact⟨a,b⟩
 have t:cj (∀w,S2 w->w.cell? ⟨T,2,tM⟩=tG (.map (tG MB))/\w.cell? ⟨T,0,tM⟩=tG (tW (tG ⟨Bb,0,tM⟩))/\w.cell? ⟨D,0,tM⟩=tG (Z U f)/\w.cell? ⟨D,1,tM⟩=tG (Z U v)/\T<w.heap.size/\D<w.heap.size):=λw g=>by rw[<-vr] at g;exact⟨(rowAt g.1 2 rfl).1,(rowAt g.1 0 rfl).1,(rowAt g.2 0 rfl).1,(rowAt g.2 1 rfl).1,aa g.1,aa g.2⟩
 clear vr B9;refine aj 10 S2 (by kernel_rfl) ?_;refine zT 0 rfl t.out ?_;(try go_simp);refine zT 1 rfl t.out ?_;(try go_simp);refine zT 2 rfl t.out ?_;(try go_simp);refine zT 3 rfl t.out ?_;(try go_simp);refine zT 4 rfl t.out ?_;(try go_simp);refine zT 5 rfl t.out ?_;(try go_simp);refine zT 6 rfl t.out ?_;(try go_simp);refine zT 7 rfl t.out ?_;(try go_simp);refine zT 8 rfl t.out ?_;(try go_simp);refine zO 9 rfl λK' j=> ?_;go_simp;have AK:=zH (xc o.drew (N:=N) (Bb:=Bb) ws.out (by omega));go_at_call 139;refine AK.out.mono ?_;rintro e vt ⟨rfl,xf⟩;have ue:Ext (·=Bb) o.drew vt:=by rw[<-xf];exact Ext.set1 _ _ _ _
 have AM:vt.heap[Bb]?=tG (uc #[Z U (N+1),tU s.fA C.length s.fC] 191 (0,0)):=by rw[<-xf];exact bk o.drew Bb 0 _ _ _ ws.out
 have xj:=ue.heap (show o.drew.heap[T]?=_ from vq.out) (λe=>A.out.1 e);have AN:=ue.heap (show o.drew.heap[D]?=_ from AH.out) (λe=>yy.out.2.1 e);have AS:mR vt MB P.length F:=(B5.out.ext ((Ext.refl (λ_=>me) _).drew) (λh=>h)).ext ue (λe=>A.out.2.2 e.symm);have AT:S2 vt:=AI.out _ xj AN;refine j _ _ AT ?_;clear j;(try go_simp);refine zK rfl λK' j=> ?_;obtain⟨xo,AW,A0,vu⟩:=AS.add hf hv (z:=N+1) (by unfold bN;omega) (by unfold eC;omega);go_simp;(try simp only[AW]);(try go_simp);refine j _ _ ?_;clear j;refine⟨by kernel_rfl, ?_⟩;have xp:=vu.heap AM (λe=>A.out.2.2 e);have vx:=vu.heap xj (λe=>A.out.2.1 e);have c0:=(rowAt vx 0 rfl).1;have Cl:=zH (xc xo xp (by omega));have C4:=aa vx;have Cp:=zH ue;have CA:=zH vu;have CC:=zH xp;have CD:=zH vx;have CH:=zH A0;clear AW A0 vu xp vx AS AT AM xj AN ue xf AK Cd AI t
 go_wp2_with (go_at_call 139;refine Cl.out.mono ?_;rintro e xt ⟨rfl,A1⟩;have A2:=zH A1;clear A1)
 go_end0
 refine⟨rfl,(E,c9), ?_⟩;have xF:Ext (·=Bb) xo xt:=by rw[<-A2.out];exact Ext.set1 _ _ _ _
 have CM:xt.heap[Bb]?=tG (uc #[Z U (N+1+1),tU s.fA C.length s.fC] 191 (0,0)):=by rw[<-A2.out];exact bk xo Bb 0 _ _ _ CC.out
 have A3:Ext (λq=>q=Bb\/q=MB) o xt:=((((Ext.refl (λq=>q=Bb\/q=MB) o).drew).trans (Cp.out.mono (λq h=> .inl h)) (λq h=> .inl h)).trans (CA.out.mono (λq h=> .inr h)) (λq h=> .inl h)).trans (xF.mono (λq h=> .inl h)) (λq h=> .inl h);refine Hq H.out (BY.out.mono (λq h=>by rcases h with h|h;exact .inl h;exact .inr (.inr (.inr h)))|>.trans (A3.mono (λq h=>by rcases h with h|h;exact .inr (.inl h);exact .inr (.inr (.inl h)))) (λq h=> .inl h)) (xF.heap CD.out (λe=>A.out.1 e)) (by rw[show N+2=N+1+1 by omega];exact CM) (CH.out.ext xF (λe=>A.out.2.2 e.symm)) (ah B6.out A3 (λk u e=>by
  obtain⟨_,e2,e3⟩:=B8.out k u;rcases e with e|e
  ·exact e2 e
  ·exact e3 e)) B7.out hl
end
theorem uh {p x:aw×aw}:∀{P:bj (aw×aw)}{k:bh},p∉P->aG k (P++[p]) x=if x=p then 2*((k+P.length:bh):aw)+1 else aG k P x
 |[],k,_=>by
  show aG k [p] x=_
  unfold aG
  by_cases h:p=x
  ·rw[cI h,cI h.symm];simp
  ·rw[bx h,bx (λe=>h e.symm)];rfl
 |q::r,k,d=>by
  rw[ij];unfold aG;have f:p∉r:=λh=>d (by simp[h])
  by_cases h:q=x
  ·rw[cI h,bx (λe=>d (by rw[<-e,<-h];simp)),cI h]
  ·rw[bx h,uh f,eV,bx h,show k+1+r.length=k+(r.length+1) by omega]
theorem oo {f:aw}{x:Vr}:∀(l:bj Vr)(v:bh),bK f v (l++[x])=bK f v l++(if x.ptr=tP then[(f,((v+l.length:bh):aw))] else[])
 |[],v=>by simp[bK]
 |y::r,v=>by
  rw[ij];unfold bK;rw[oo r (v+1),eq,eV,show v+1+r.length=v+(r.length+1) by omega]
theorem kS {g:Fn}:∀(l:bj Fn)(f:bh),bY f (l++[g])=bY f l++dD ((f+l.length:bh):aw) g
 |[],f=>by simp[bY]
 |y::r,f=>by
  rw[ij];unfold bY;rw[kS r (f+1),eq,eV,show f+1+r.length=f+(r.length+1) by omega]
theorem qo {f:aw}:∀(l:bj Vr)(v:bh),(bK f v l).length<=l.length
 |[],_=>by simp[bK]
 |y::r,v=>by
  unfold bK;rw[bo,eV];have:=qo (f:=f) r (v+1)
  by_cases h:y.ptr=tP
  ·rw[cI h];simp;omega
  ·rw[bx h];simp;omega
theorem Db {f:aw}{g:Fn}:(dD f g).length<=g.vs.length+1:=by
 unfold dD;rw[bo];have:=qo (f:=f) g.vs 0
 by_cases h:g.c.rp=tP
 ·rw[cI h];simp;omega
 ·rw[bx h];simp;omega
def Nm (T Bb MB:bh)(at_:aw×aw)(B:bh)(tg:bh->bh)(w0:World)(D:bh)(cc:eA cA)(W1:World)(P:bj (aw×aw))(w:World):Prop:=
 ∃lv d e,Wn T Bb MB lv P (2*(P.length:aw)) (aG 0 P) [] [] at_ B d e w/\aE B w0 w/\w.heap[D]?=tG (uc cc 38 (0,0))/\d D=0/\Ext (λq=>tg q≠0) W1 w/\(∀k,d k≠0->tg k≠0\/W1.heap.size<=k)/\∀k,tg k≠0->d k=tg k
section
variable {T Bb MB:bh}{at_:aw×aw}{B:bh}{tg:bh->bh}{w0 w w' W1:World}{D:bh}{cc:eA cA}{P:bj (aw×aw)}
theorem Nm.grow (h:Nm T Bb MB at_ B tg w0 D cc W1 P w)(d:aE w.heap.size w w'):Nm T Bb MB at_ B tg w0 D cc W1 P w':=by
 obtain⟨lv,g,j,e,o,f,t,u,v,x⟩:=h;exact⟨lv,g,j,e.grow d,o.trans (d.mono (by have:=(e.lo T (by rw[e.t1];decide));omega)),(d.block D (aa f)).trans f,t,u.trans (Ext.of_below_size (M:=λ_=>me) d) (λq h=>h.elim),v,x⟩
theorem Nm.name (h:Nm T Bb MB at_ B tg w0 D cc W1 P w)(f v:aw)(J:bN f)(K:bN v)(R:(f,v)∉P)(hl:P.length+1<=30000):
  ge am 100 #[tW (tG ⟨T,0,tM⟩),Z U f,Z U v] w λe w'=>e= ud (.tuple #[])/\Nm T Bb MB at_ B tg w0 D cc W1 (P++[(f,v)]) w':=by
 obtain⟨lv,up,s',d,h2,t,u,y,z,h7⟩:=h;refine(Bi w d (by omega) f v J K hl).mono ?_;rintro e w2 ⟨rfl,ue,A,s2,E,g,G,g4⟩;have hF:(λx=>if x=(f,v) then 2*(P.length:aw)+1 else aG 0 P x)=aG 0 (P++[(f,v)]):=by
  funext x
  rw[uh R,cL]
 have hN:2*(P.length:aw)+2=2*((P++[(f,v)]).length:aw):=by rw[bo,cr];omega
 rw[hF,hN] at E;refine⟨rfl,ue,A,s2,E,h2.trans (g.below (by have:=(d.lo T (by rw[d.t1];decide));omega) (λq j=>(d.lo q j).1)),g.heap t (λe=>e u), ?_,y.trans g (λq j=>z q j),λk o=> ?_,λk o=> ?_⟩
 ·cases hz:A D with
  |zero=>rfl
  |succ q=>
   rcases G D (by omega) with e|e
   ·exact fL u e
   ·have:=aa t;omega
 ·rcases G k o with e|e
  ·exact z k e
  ·exact .inr (eJ y.size e)
 ·have:=h7 k o
  rw[g4 k (by omega),this]
theorem Gf {x:Vr}{w:World}:∀(c:eA cA),c.size=3->(dt ⟨w.heap.size,0,tM⟩ [ua x.ptr,tS x.tgt,Z U x.cls] 0).run am (w.alloc (uc c 34))= .ok () (w.alloc (uc #[ua x.ptr,tS x.tgt,Z U x.cls] 34)):=λc d=>
 cx (P:=am) w 34 c #[ua x.ptr,tS x.tgt,Z U x.cls] (by show _=tG 3;kernel_rfl) d (by simp[ct])
theorem Bj {lv:cG fS×bh}{s:ow}(w:World)(g:Fn)(d:bh)(h:Wn T Bb MB lv P (2*(P.length:aw)) (aG 0 P) [] [] at_ B tg s w)(vr:aE B w0 w)(hB:w0.heap.size=B)(vt:g.c.nvars=g.vs.length)(uv:aJ Vr.cells 3 w0 w0.heap.size g.c.varsA g.vs)(yb:g.vs.length<=400)(zs:d<=90000)(hP:∀x∈P,x.1<(d:aw))(hl:P.length+500<=30000):
  ge am 55 #[tW (tG ⟨T,0,tM⟩),Z U (d:aw),ub g.c.cells] w λe w'=>e= ud (.tuple #[])/\∃yd,aZ T Bb MB yd (P++dD (d:aw) g) (2*((P++dD (d:aw) g).length:aw)) (aG 0 (P++dD (d:aw) g)) [] [] at_ B tg w w':=by
 obtain⟨D,hD⟩:=zE w.heap.size;have vu:bN (d:aw):=by unfold bN;omega
 have ux:cj (dD (d:aw) g=bK (d:aw) 0 g.vs++(if g.c.rp=tP then[((d:aw),-1)] else[])):=rfl;obtain⟨⟨nm,ye,varsA,nvars,vx,rp,yi,yk,yp,yq,yr,yv,yy,yW⟩,vs,zv,An⟩:=g;simp only at vt uv yb ux⊢;subst vt;simp only[dx.cells];obtain⟨cc,E⟩:=zE (#[tS nm,Z U ye,tU varsA vs.length vx,ua rp,tS yi,Z U yk,tU yp yq yr,tU yv yW.length yy]:eA cA);obtain⟨W1,J⟩:=zE (w.alloc (uc cc 38));have K:=il J;have vy:W1.heap[D]?=tG (uc cc 38 (0,0)):=by rw[<-J,<-hD];exact alloc_at _ _
 have we:B<=w.heap.size:=by have:=(h.lo T (by rw[h.t1];decide));omega
 have hz:tg D=0:=by
  cases hz:tg D with
  |zero=>rfl
  |succ q=>have:=(h.lo D (by omega)).2;omega
 have wg:cj (Nm T Bb MB at_ B tg w0 D cc W1 (P++bK (d:aw) 0 (vs.take 0)) W1):=by
  unfold cj;rw[lz]
  show Nm T Bb MB at_ B tg w0 D cc W1 (P++[]) W1
  rw[ej];exact⟨lv,tg,s,h.grow K,vr.trans (K.mono we),vy,hz,Ext.refl _ _,λk hk=> .inl hk,λ_ _=>rfl⟩
 have zc:cj (∀R w2,Nm T Bb MB at_ B tg w0 D cc W1 R w2->aZ T Bb MB lv P 0 (λ_=>0) [] [] at_ B tg w2 w2\/True):=λ_ _ _=> .inr trivial;have wj:cj (∀R w2,Nm T Bb MB at_ B tg w0 D cc W1 R w2->w2.cell? ⟨D,2,tM⟩=tG (tU varsA vs.length vx)/\w2.cell? ⟨D,3,tM⟩=tG (ua rp)/\D<w2.heap.size/\aJ Vr.cells 3 w2 B varsA vs):=λR w2 h2=>by
  obtain⟨At,Ax,s2,_,h4,h3,_⟩:=h2;rw[<-E] at h3;exact⟨(rowAt h3 2 rfl).1,(rowAt h3 3 rfl).1,aa h3,aJ.below (by rw[<-hB];exact uv) h4 (cg _)⟩
 have wk:cj (∀(v:aw)(l:bj (aw×aw)),(∀x∈l,x.1=(d:aw)/\x.2≠v)->((d:aw),v)∉P++l):=λv l zj f=>by
  rcases cX.1 f with f|f
  ·have:=hP _ f;simp at this
  ·exact(zj _ f).2 rfl
 have wl:cj (∀(j:bh)(x:aw×aw),j<=vs.length->x∈bK (d:aw) 0 (vs.take j)->x.1=(d:aw)/\0<=x.2/\x.2<(j:aw)):=λj x hj o=>by
  obtain⟨k,y,h1,_,rfl⟩:=iE.1 o;have:=(bl.1 h1).1;rw[ee] at this;exact⟨rfl,by simp,by simp;omega⟩
 have ws:cj (∀j,(bK (d:aw) 0 (vs.take j)).length<=vs.length):=λj=>eJ (qo _ _) (by rw[ee];omega);have ue:=zH J;have xf:=zH K;obtain⟨k0,k1,k2,_⟩:=wj.out _ _ wg.out;clear h vr uv hP J K vy we hz zc;rw[E];go_enter func55,ntmps55
 go_upto_region 1 with(fail)
 rw[<-E] at ue;(try rw[ue.out]);rw[E] at ue;(try rw[ue.out])
 go_upto_region 2 with(fail)
 clear k0 k1 k2
 go_loopw [11] (λkk wr=>∃j:bh,j<=vs.length/\kk= Z U (j:aw)/\Nm T Bb MB at_ B tg w0 D cc W1 (P++bK (d:aw) 0 (vs.take j)) wr) (λkk _=>vs.length-(de kk).toNat)
 case atStart=>exact⟨0,cN _,rfl,wg.out⟩
 case round=>
  obtain⟨j,hj,rfl,f⟩:=hrel;have HM:=zH f;obtain⟨k0,k1,k2,k3⟩:=wj.out _ _ f
  by_cases z:j<vs.length
  ·obtain⟨x,o⟩:∃x,vs[j]?=tG x:=⟨_,ap z⟩
   have AD:(j:aw)<(vs.length:aw):=by omega
   obtain⟨b,AE,hA,AF,hc⟩:=k3 (by intro e;rw[e] at z;simp at z);have x0:=hc j x o 0 _ rfl;have x1:=hc j x o 1 _ rfl;have x2:=hc j x o 2 _ rfl;rw[ki] at x0;have AH:b<wr.heap.size:=by obtain⟨_,_,_,h1,h2,_⟩:=f;have:=(h1.lo T (by rw[h1.t1];decide));omega
   subst hA;have hst:=Gf (x:=x) (w:=wr);obtain⟨W2,up⟩:=zE (wr.alloc (uc #[ua x.ptr,tS x.tgt,Z U x.cls] 34));have xj:=il up;have xo:W2.heap[wr.heap.size]?=tG (uc #[ua x.ptr,tS x.tgt,Z U x.cls] 34 (0,0)):=by rw[<-up];exact alloc_at _ _
   have xp:=zH (f.grow xj);have ur:cj (bK (d:aw) 0 (vs.take (j+1))=bK (d:aw) 0 (vs.take j)++(if x.ptr=tP then[((d:aw),(j:aw))] else[])):=by
    unfold cj;rw[aH o,oo,cL,ee,gR (by omega)]
   have xt:=zH up;have vc:=zH xo;have xF:=ws.out j;clear f hc k3 o xj xo up;obtain⟨G,hG⟩:=zE wr.heap.size;rw[hG] at vc
   go_upto_region 4 with(fail)
   clear hst;(try rw[xt.out]);(try rw[hG]);have p0:=(rowAt vc.out 0 rfl).1;have AI:=aa vc.out;clear hG xt x0 x1 x2 k0 k1;cases u:x.ptr with
   |true=>
    rw[u] at p0;have t:=ur.out;rw[u,cI rfl] at t;have vd:=zH t;have vf:=zH (xp.out.name (d:aw) (j:aw) vu (by unfold bN;omega) (wk.out (j:aw) _ (λy hy=>by have:=wl.out j y hj hy;exact⟨this.1,by omega⟩)) (by rw[bo];omega));clear t ur u
    go_wp2_with (go_at_call 100;refine vf.out.mono ?_;rintro e w3 ⟨rfl,A⟩;have vh:=zH A;clear A)
    go_roundw
    case rel=>exact⟨j+1,z,by go_num,by rw[vd.out,<-eq];exact vh.out⟩
    case measure=>simp[de];omega
   |false=>
    rw[u] at p0;have t:=ur.out;rw[u,bx (by simp),ej] at t;have vd:=zH t;clear t ur u;go_wp2;go_roundw
    case rel=>exact⟨j+1,z,by go_num,by rw[vd.out];exact xp.out⟩
    case measure=>simp[de];omega
  ·have vm:j=vs.length:=by omega
   have xT:cj (Nm T Bb MB at_ B tg w0 D cc W1 (P++bK (d:aw) 0 vs) wr):=by
    unfold cj;have:=HM.out;rw[vm,cR] at this;exact this
   have xF:=ws.out j;rw[vm,cR] at xF;have zp:cj (∀x∈bK (d:aw) 0 vs,x.1=(d:aw)/\x.2≠-1):=λx o=>by
    have:=wl.out vs.length x (cg _) (by rw[cR];exact o);exact⟨this.1,by omega⟩
   clear f vm k3;cases rp with
   |true=>
    have vf:=zH (xT.out.name (d:aw) (-1) vu (by unfold bN;omega) (wk.out (-1) _ zp.out) (by rw[bo];omega))
    go_wp2_with (go_at_call 100;refine vf.out.mono ?_;rintro e w3 ⟨rfl,A⟩;have vh:=zH A;clear A)
    go_end0
    obtain⟨vp,vq,s3,q1,_,_,_,q5,q6,q7⟩:=vh.out;refine⟨rfl,vp, ?_⟩;rw[ux.out];simp only[lj,<-eq];exact aZ.below xf.out ⟨vq,s3,q1,q5,q6,q7⟩
   |false=>
    go_wp2
    go_end0
    obtain⟨vp,vq,s3,q1,_,_,_,q5,q6,q7⟩:=xT.out;refine⟨rfl,vp, ?_⟩;rw[ux.out];simp only[if_false,oS,ej];exact aZ.below xf.out ⟨vq,s3,q1,q5,q6,q7⟩
end
theorem Dc {m:Mo}{g:Fn}(d:eU m=0)(h:g∈m.fs):Fits g.c.ins g.vs.length:=by
 obtain⟨_,_,_,_,j,_⟩:=gL d;intro i hi;obtain⟨_,_,o,q,_⟩:=iO ((jG (j g h)).2.2.2.2.2 i hi);refine⟨λr d=>bP.1 (o r d),λe=> ?_⟩;unfold az at e⊢
 by_cases f:qY i.op=tP
 ·rw[cI f];exact bP.1 (q f)
 ·rw[bx f] at e;exact fL e (by simp)
theorem ui {N:aw}{c:bj aw}(h:yN N c):c.all (bL N)=tP:=by
 rw[gA];intro x d;exact Hm (h.2.2 x d)
section
variable {T Bb MB:bh}{lv:cG fS×bh}{P:bj (aw×aw)}{N:aw}{F:aw×aw->aw}{C C2:bj (bj aw)}{Y Y2:bj (aw×aw)}{at_ at2:aw×aw}{B:bh}{tg:bh->bh}{s:ow}{w0:World}{TT RB hi:bh}{c:dx}{b:bh->bh->bh}
theorem yX (w:World)(h:As T Bb MB lv P N F C Y at_ B tg s w0 TT RB c b hi w)(q:0<=N/\N<=9000000)(hF:∀x,0<=F x/\F x<=9000000)(f:aw)(t:bN f)(j o:cG fS)(n1 n2 c1 c2:bh)(i:Ins)(g:cG fS)(gc:bh)(u:i.argsV= tU g i.args.length gc)(y:∃ao n cap,i.modeV= tU ao n cap)(vh:ak w0 g i.args)(vm:i.args.length<=40)(z:bN i.d)(A:bN i.a)(E:bN i.b)(vp:bN i.f)(k:bh)(G:k<c.ins.length)(J:c.ins.length<=90000)(K:c.nvars<=90000)(R:C.length+130<=1000000)(ue:Y.length+130<=1000000)
  (h9:i.op=9->isVar c.nvars i.a=tP)(vq:i.op=11->isVar c.nvars i.b=tP)(vr:i.op=15->∀v∈i.args,isVar c.nvars v=tP)(up:∀x∈aA F f (bg b k) i,x.all (bL N)=tP):
  ge am 58 #[ub #[tW (tG ⟨T,0,tM⟩),Z U f,tU j n1 c1,tU o n2 c2,tW (tG ⟨TT,0,tM⟩)],ub i.cells,Z U (k:aw)] w λe w'=>e= ud (.tuple #[])/\aZ T Bb MB lv P N F (C++aA F f (bg b k) i) (Y++(aA F f (bg b k) i).map λ_=>at_) at_ B tg w w':=by
 by_cases ux:i.op=12
 ·exact vH w h q hF f t j o n1 n2 c1 c2 i g gc u y z A E k G J K R ue ux up
 by_cases vc:i.op=13
 ·exact vI w h q hF f t j o n1 n2 c1 c2 i g gc u y z A E k G J K R ue vc up
 by_cases e9:i.op=9
 ·exact yS w h q hF f t j o n1 n2 c1 c2 i g gc u y z A E k G J K R ue e9 (h9 e9) up
 by_cases vd:i.op=10
 ·exact vJ w h q hF f t j o n1 n2 c1 c2 i g gc u y z A E k G J K R ue vd up
 by_cases e8:i.op=8
 ·exact yR w h q hF f t j o n1 n2 c1 c2 i g gc u y z A E k G J K R ue e8 up
 by_cases ur:i.op=11
 ·exact vK w h q hF f t j o n1 n2 c1 c2 i g gc u y z A E k G J K R ue ur (vq ur) up
 by_cases uv:i.op=15
 ·exact vL w h q hF f t j o n1 n2 c1 c2 i g gc u y z A E k G J K R ue uv vh vm vp (vr uv) up
 by_cases vf:i.op=18
 ·exact vM w h q hF f t j o n1 n2 c1 c2 i g gc u y z A E k G J K R ue vf up
 exact yT w h q hF f t j o n1 n2 c1 c2 i g gc u y z A E k G J K R ue ⟨ux,vc,e9,vd,e8,ur,uv,vf⟩
end
theorem yY (w:World):ge am 54 #[] w λe w'=>e= ud (tW (tG ⟨w.heap.size,0,tM⟩))/\w.alloc (uc #[Z U 0,tU tM 0 0] 191)=w':=by
 go_enter func54,ntmps54;go_wp2;go_ret;exact⟨rfl,rfl⟩
section
variable {T Bb MB:bh}{lv:cG fS×bh}{P:bj (aw×aw)}{N:aw}{F:aw×aw->aw}{C C2:bj (bj aw)}{Y Y2:bj (aw×aw)}{at_ at2:aw×aw}{B:bh}{tg:bh->bh}{s:ow}{w0 w w' W1:World}
def Wo (T Bb MB:bh)(lv:cG fS×bh)(P:bj (aw×aw))(N:aw)(F:aw×aw->aw)(B:bh)(w0:World)(C:bj (bj aw))(Y:bj (aw×aw))(at_:aw×aw)(w:World):Prop:=
 ∃tg s,Wn T Bb MB lv P N F C Y at_ B tg s w/\aE B w0 w
theorem Wo.grow (h:Wo T Bb MB lv P N F B w0 C Y at_ w)(e:aE w.heap.size w w'):Wo T Bb MB lv P N F B w0 C Y at_ w':=by
 obtain⟨tg,s,d,f⟩:=h;exact⟨tg,s,d.grow e,f.trans (e.mono (by have:=(d.lo T (by rw[d.t1];decide));omega))⟩
theorem Wo.of {e:cG fS×bh}{f:bj (aw×aw)}{g:aw}{F2:aw×aw->aw}(h:aE B w0 w)(d:Wn T Bb MB lv P N F C Y at_ B tg s w)(j:aZ T Bb MB e f g F2 C2 Y2 at2 B tg w w'):Wo T Bb MB e f g F2 B w0 C2 Y2 at2 w':=by
 obtain⟨o,t,u,v,y,z⟩:=j;exact⟨o,t,u,h.trans (v.below (by have:=(d.lo T (by rw[d.t1];decide));omega) (λq x=>(d.lo q x).1))⟩
theorem Ie (x y:aw)(h:Wn T Bb MB lv P N F C Y at_ B tg s w):Wn T Bb MB lv P N F C Y (x,y) B tg s ((w.setCell ⟨T,4,tM⟩ (Z U x)).setCell ⟨T,5,tM⟩ (Z U y))/\Ext (·=T) w ((w.setCell ⟨T,4,tM⟩ (Z U x)).setCell ⟨T,5,tM⟩ (Z U y)):=by
 have d:Ext (·=T) w ((w.setCell ⟨T,4,tM⟩ (Z U x)).setCell ⟨T,5,tM⟩ (Z U y)):=ae (ae (Ext.refl _ _) _) _;have q:=h.t1;have g:∀k,tg k≠1->¬k=T:=λk j e=>j (by rw[e];exact q);refine⟨⟨?_,d.heap h.bld (g _ (by rw[h.t2];decide)),h.map.ext d (g _ (by rw[h.t3];decide)),ah h.lrow d (λk f=>g k (by rw[h.t4 k f];decide)),ah h.frow d (λk f=>g k (by rw[h.t5 k f];decide)),ah h.yrow d (λk f=>g k (by rw[h.t6 k f];decide)),⟨h.cls.1,λk c t=> ?_⟩,h.t1,h.t2,h.t3,h.t4,h.t5,h.t6,λk f=>⟨(h.lo k f).1,cH (h.lo k f).2 d.size⟩,h.lP,h.lC,h.lY⟩,d⟩
 ·exact bk _ T 5 _ _ _ (bk w T 4 _ _ _ h.row)
 ·obtain⟨ao,cap,j,u,o⟩:=h.cls.2 k c t
  exact⟨ao,cap,j,cu u d (λa v e=>g _ (by rw[o v a e];decide)),o⟩
end
section
variable {T Bb MB:bh}{lv:cG fS×bh}{P:bj (aw×aw)}{N:aw}{F:aw×aw->aw}{C C2:bj (bj aw)}{Y Y2:bj (aw×aw)}{at_ at2:aw×aw}{B:bh}{tg:bh->bh}{s:ow}{w0 w w' W1:World}{L:bj (bh×Obj)}{TT RB hi:bh}{c:dx}{b:bh->bh->bh}
def Kept (L:bj (bh×Obj))(tg:bh->bh)(w:World):Prop:=∀x∈L,w.heap[x.1]?=tG x.2/\tg x.1=0
theorem Kept.grow (h:Kept L tg w)(e:aE w.heap.size w w'):Kept L tg w':=λx d=>⟨(e.block x.1 (aa (h x d).1)).trans (h x d).1,(h x d).2⟩
theorem Kept.mv {d:bh->bh}(h:Kept L tg w)(j:Ext (λq=>tg q≠0) w w')(o:∀k,d k≠0->tg k≠0\/w.heap.size<=k):Kept L d w':=λx t=>by
 obtain⟨f,g⟩:=h x t;refine⟨j.heap f (λe=>e g), ?_⟩;cases u:d x.1 with
 |zero=>rfl
 |succ q=>
  rcases o x.1 (by omega) with e|e
  ·exact fL g e
  ·have:=aa f;omega
theorem yZ (h:Wn T Bb MB lv P N F C Y at_ B tg s w){k:bh}(d:w.heap.size<=k):tg k=0:=by
 cases e:tg k with
 |zero=>rfl
 |succ q=>have:=(h.lo k (by omega)).2;omega
def nJ (T Bb MB:bh)(lv:cG fS×bh)(P:bj (aw×aw))(N:aw)(F:aw×aw->aw)(B:bh)(w0:World)(L:bj (bh×Obj))(C:bj (bj aw))(Y:bj (aw×aw))(at_:aw×aw)(w:World):Prop:=
 ∃tg s,Wn T Bb MB lv P N F C Y at_ B tg s w/\aE B w0 w/\Kept L tg w
theorem EL (h:Wn T Bb MB lv P N F C Y at_ B tg s w):B<=w.heap.size:=by have:=(h.lo T (by rw[h.t1];decide));omega
theorem nJ.grow (h:nJ T Bb MB lv P N F B w0 L C Y at_ w)(d:aE w.heap.size w w'):nJ T Bb MB lv P N F B w0 L C Y at_ w':=by
 obtain⟨tg,s,e,f,g⟩:=h;exact⟨tg,s,e.grow d,f.trans (d.mono (EL e)),g.grow d⟩
theorem nJ.of {tg:bh->bh}{s:ow}(d:Wn T Bb MB lv P N F C Y at_ B tg s w)(f:aE B w0 w)(g:Kept L tg w)(h:aZ T Bb MB lv P N F C2 Y2 at2 B tg w w'):nJ T Bb MB lv P N F B w0 L C2 Y2 at2 w':=by
 obtain⟨j,o,t,e,u,x⟩:=h;exact⟨j,o,t,f.trans (e.below (EL d) (λq v=>(d.lo q v).1)),g.mv e u⟩
theorem Wo.kept (h:Wo T Bb MB lv P N F B w0 C Y at_ w)(e:aE w.heap.size w w'){k:bh}{o:Obj}(g:w.heap.size<=k)(j:w'.heap[k]?=tG o):nJ T Bb MB lv P N F B w0 [(k,o)] C Y at_ w':=by
 obtain⟨tg,s,d,q⟩:=h;refine⟨tg,s,d.grow e,q.trans (e.mono (EL d)),λx f=> ?_⟩;rw[cU] at f;subst f;exact⟨j,yZ d g⟩
theorem nJ.wo (h:nJ T Bb MB lv P N F B w0 L C Y at_ w):Wo T Bb MB lv P N F B w0 C Y at_ w:=by
 obtain⟨tg,s,d,e,_⟩:=h;exact⟨tg,s,d,e⟩
theorem nJ.setAt (x y:aw)(h:nJ T Bb MB lv P N F B w0 L C Y at_ w):nJ T Bb MB lv P N F B w0 L C Y (x,y) ((w.setCell ⟨T,4,tM⟩ (Z U x)).setCell ⟨T,5,tM⟩ (Z U y)):=by
 obtain⟨tg,s,d,g,j⟩:=h;obtain⟨o,f⟩:=Ie x y d;exact⟨tg,s,o,g.trans (f.below (EL d) (λq e=>by rw[e];exact(d.lo T (by rw[d.t1];decide)).1)),j.mv (f.mono (λq e=>by rw[e,d.t1];decide)) (λk t=> .inl t)⟩
theorem nJ.row (h:nJ T Bb MB lv P N F B w0 L C Y at_ w):(w.cell? ⟨T,4,tM⟩=tG (Z U at_.1)/\w.frozen? ⟨T,4,tM⟩=tR)/\(w.cell? ⟨T,5,tM⟩=tG (Z U at_.2)/\w.frozen? ⟨T,5,tM⟩=tR)/\T<w.heap.size/\w.cell? ⟨T,1,tM⟩=tG (tU lv.1 P.length lv.2)/\w.cell? ⟨T,2,tM⟩=tG (.map (tG MB)):=by
 obtain⟨tg,s,d,_⟩:=h;exact⟨rowAt d.row 4 rfl,rowAt d.row 5 rfl,aa d.row,(rowAt d.row 1 rfl).1,(rowAt d.row 2 rfl).1⟩
theorem nJ.keeps (h:nJ T Bb MB lv P N F B w0 L C Y at_ w){k:bh}{o:Obj}(d:(k,o)∈L):w.heap[k]?=tG o:=by
 obtain⟨tg,s,_,_,e⟩:=h;exact(e _ d).1
theorem nJ.put (h:nJ T Bb MB lv P N F B w0 L C Y at_ w)(f:0<=N/\N<=9000000)(ao:cG fS)(xs:bj aw)(cap:bh)(g:ak w ao xs)(j:xs.all (bL N)=tP)(o:xs.length<=80000)(q:C.length+1<=1000000)(t:Y.length+1<=1000000):
  ge am 56 #[tW (tG ⟨T,0,tM⟩),tU ao xs.length cap] w λe w'=>e= ud (.tuple #[])/\nJ T Bb MB lv P N F B w0 L (C++[xs]) (Y++[at_]) at_ w':=by
 obtain⟨tg,s,d,u,v⟩:=h;refine(jm w d f ao xs cap g j o q t).mono ?_;rintro e w2 ⟨rfl,x⟩;exact⟨rfl,nJ.of d u v x⟩
theorem nJ.look (h:nJ T Bb MB lv P N F B w0 L C Y at_ w){f v:aw}(d:bN f)(e:bN v):(nr 118 (.map (tG MB)) (ub #[Z U f,Z U v]) tR).run am w= .ok (Z U (F (f,v))) w:=by
 obtain⟨tg,s,g,_⟩:=h;exact g.map.look d e
theorem nJ.lrow (h:nJ T Bb MB lv P N F B w0 L C Y at_ w)(f:P≠[]):∃g,lv.1=tG ⟨g,0,tM⟩:=by
 obtain⟨tg,s,j,_⟩:=h;obtain⟨q,o⟩:∃q,P.length=q+1:=⟨P.length-1,by have:=ms.2 f;omega⟩
 have e:=j.lrow;rw[o] at e;rcases e.2 with⟨_,d⟩|⟨g,cap,t,d,_⟩
 ·cases d
 ·simp only[fm] at d
  exact⟨g,d.1⟩
theorem nJ.lcell (h:nJ T Bb MB lv P N F B w0 L C Y at_ w){g i:bh}{p:aw×aw}(j:lv.1=tG ⟨g,0,tM⟩)(o:P[i]?=tG p):w.cell? ⟨g,i*2+0,tM⟩=tG (Z U p.1)/\w.cell? ⟨g,i*2+1,tM⟩=tG (Z U p.2)/\g<w.heap.size:=by
 obtain⟨tg,s,q,_⟩:=h;have d:=q.lrow;rw[j] at d;have t:∀(l:bj (aw×aw))(i:bh)(p:aw×aw),l[i]?=tG p->(l.flatMap qh)[i*2+0]?=tG (Z U p.1)/\(l.flatMap qh)[i*2+1]?=tG (Z U p.2):=by
  intro l
  induction l with
  |nil=>intro i p hi;simp at hi
  |cons x r ih=>
   intro i p hi;cases i with
   |zero=>
    obtain rfl:x=p:=by simpa using hi
    exact⟨rfl,rfl⟩
   |succ i=>
    obtain⟨e,f⟩:=ih i p (by simpa using hi);rw[fW];refine⟨?_, ?_⟩
    ·rw[hZ (by simp[qh];omega),show(i+1)*2+0-(qh x).length=i*2+0 by simp[qh];omega];exact e
    ·rw[hZ (by simp[qh];omega),show(i+1)*2+1-(qh x).length=i*2+1 by simp[qh];omega];exact f
 obtain⟨e,f⟩:=t P i p o;have c1:=d.cells (g:=g) rfl _ _ e;have c2:=d.cells (g:=g) rfl _ _ f;rw[cY] at c1 c2;refine⟨by simpa using c1,by simpa using c2, ?_⟩;exact(ai d (k:=g) rfl).2
def BG (T Bb MB:bh)(lv:cG fS×bh)(P:bj (aw×aw))(N:aw)(F:aw×aw->aw)(B:bh)(w0:World)(TT RB:bh)(c:dx)(b:bh->bh->bh)(hi:bh)(L:bj (bh×Obj))(C:bj (bj aw))(Y:bj (aw×aw))(at_:aw×aw)(w:World):Prop:=
 ∃tg s,As T Bb MB lv P N F C Y at_ B tg s w0 TT RB c b hi w/\Kept L tg w
theorem BG.woL (h:BG T Bb MB lv P N F B w0 TT RB c b hi L C Y at_ w):nJ T Bb MB lv P N F B w0 L C Y at_ w:=by
 obtain⟨tg,s,d,e⟩:=h;exact⟨tg,s,d.wn,d.lo,e⟩
theorem BG.grow (h:BG T Bb MB lv P N F B w0 TT RB c b hi L C Y at_ w)(d:aE w.heap.size w w'):BG T Bb MB lv P N F B w0 TT RB c b hi L C Y at_ w':=by
 obtain⟨tg,s,e,f⟩:=h;exact⟨tg,s,e.grow d,f.grow d⟩
theorem BG.setAt (x y:aw)(h:BG T Bb MB lv P N F B w0 TT RB c b hi L C Y at_ w):BG T Bb MB lv P N F B w0 TT RB c b hi L C Y (x,y) ((w.setCell ⟨T,4,tM⟩ (Z U x)).setCell ⟨T,5,tM⟩ (Z U y)):=by
 obtain⟨tg,s,d,o⟩:=h;obtain⟨t,g⟩:=Ie x y d.wn;have j:Ext (λq=>tg q≠0) w _:=g.mono (λq e=>by rw[e,d.wn.t1];decide);exact⟨tg,s,⟨t,d.tz.mv j (λk f=> .inl f),d.lo.trans (g.below (EL d.wn) (λq e=>by rw[e];exact(d.wn.lo T (by rw[d.wn.t1];decide)).1)),d.hB⟩,o.mv j (λk f=> .inl f)⟩
theorem BG.of {tg:bh->bh}{s:ow}(d:As T Bb MB lv P N F C Y at_ B tg s w0 TT RB c b hi w)(e:Kept L tg w)(f:aZ T Bb MB lv P N F C2 Y2 at2 B tg w w'):BG T Bb MB lv P N F B w0 TT RB c b hi L C2 Y2 at2 w':=by
 obtain⟨g,h,j,o,q,_⟩:=d.mv f;exact⟨g,h,j,e.mv o q⟩
theorem nJ.table2 (h:nJ T Bb MB lv P N F B w0 L C Y at_ w)(q:w0.heap.size=B)(g:aE w.heap.size w w')(t:w.heap.size<=TT)(z:w.heap.size<=RB)(e:mU w' TT RB c b){A:bh}{o:Obj}(u:w.heap.size<=A)(v:w'.heap[A]?=tG o):BG T Bb MB lv P N F B w0 TT RB c b w'.heap.size [(A,o)] C Y at_ w':=by
 obtain⟨tg,s,d,y,E⟩:=h;refine⟨tg,s,⟨d.grow g,⟨e, ?_, ?_,cg _,yZ d t,λk G _=>yZ d (by omega)⟩,y.trans (g.mono (EL d)),q⟩,λx j=> ?_⟩
 ·obtain⟨_,f⟩:=e.tab
  exact aa f
 ·by_cases h0:c.ins.length=0
  ·rw[h0,ki];exact aa e.behind
  ·obtain⟨J,f,_⟩:=e.words (c.ins.length-1) (by omega)
   have:=aa f;omega
 ·rw[cU] at j
  subst j;exact⟨v,yZ d u⟩
end
theorem Gg {i:Ins}(d:i.ok){w:World}:∀(c:eA cA),c.size=13->(dt ⟨w.heap.size,0,tM⟩ i.cells.toList 0).run am (w.alloc (uc c 42))= .ok () (w.alloc (uc i.cells 42)):=λc e=>by
 obtain⟨⟨ao,cap,f⟩,h,n2,j,g⟩:=d;exact cx (P:=am) w 42 c i.cells (by show _=tG 13;kernel_rfl) e (by simp[Ins.cells,f,g,ct])
theorem Gh {f v:aw}{w:World}:∀(c:eA cA),c.size=2->(dt ⟨w.heap.size,0,tM⟩ [Z U f,Z U v] 0).run am (w.alloc (uc c 121))= .ok () (w.alloc (uc #[Z U f,Z U v] 121)):=λc d=>
 cx (P:=am) w 121 c #[Z U f,Z U v] (by show _=tG 2;kernel_rfl) d (by simp[ct])
end Go.Proofs.YtjomgckjhcfbgaaGreat
