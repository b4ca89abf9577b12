/- Walks. -/
import Derived.Test.YtjomgckjhcfbgaaGreatP9
import Derived.Test.YtjomgckjhcfbgaaGreatP17
set_option maxRecDepth 100000
set_option maxHeartbeats 64000000
set_option linter.all false
namespace Go.Proofs.YtjomgckjhcfbgaaGreat
open Go.RowKit
open Go.Proofs.Tryz renaming prog→am,ntmps58→jn,func58→ke,underlying119→oX
open _root_.List renaming getElem?_eq_getElem→ap,length_append→bm,getElem?_eq_some_iff→bo,length_singleton→cj,take_length→cL,mem_singleton→cP,mem_append→dg,length_take→ee,length_cons→eh,append_assoc→ei,length_map→eq,append_nil→eA,flatMap_cons→fm,flatMap_append→fS,cons_append→gh,all_eq_true→gn,getElem?_append_right→gA,length_pos_iff→kq,length_nil→ks,take_zero→oS,nodup_append→pk
open Go.RowKit.Below renaming refl→aq
open _root_ renaming Int→aw,Nat→bj,List→bp,if_neg→bw,Option→cC,if_pos→cH,Array→dl,beq_false_of_ne→eR,absurd→fz,beq_self_eq_true→kO,False→lj,if_true→lk,Bool→ml
open Go.RowKit renaming Below→aE,Hid→cg,intOf→dp
open Go renaming heap_setCell_same→bk,cell_of_row→bt,run_storeCells_new→cr,Value→cw,storeCells→dd,maxLen→du,Addr→fg,Calls→fj,info_parts→m6
open _root_.Nat renaming le_refl→cd,lt_of_lt_of_le→cD,zero_add→cI,zero_le→cM,le_trans→eN,min_eq_left→ix,add_zero→i7
open Go.Value renaming oneCell'→cn,slice→cv,string→tm,slice→tn,pointer→tr,bool→tt,agg→tv,int→Z
open _root_.Option.some renaming inj→cy
open Go.Addr renaming add_lit→cU
open Go.Value.slice renaming injEq→fy
open Go.Instr renaming lookup→mx
open _root_.Bool renaming false_eq_true→nF,true→ti,false→tj
open _root_.Prod.mk renaming inj→rk
open _root_.Classical renaming propDecidable→sE
open _root_.Option renaming some→tf,none→th
open Go.Obj renaming cells→tA
open Go.Ending renaming returned→tB
open Go.IntKind renaming i64→U
open Tryz
section
variable {T Bb MB:bj}{lv:cC fg×bj}{P:bp (aw×aw)}{N:aw}{F:aw×aw->aw}{C C2:bp (bp aw)}{Y Y2:bp (aw×aw)}{at_ at2:aw×aw}{B:bj}{tg:bj->bj}{s:nz}{w0:World}{TT RB hi:bj}{c:dP}{b:bj->bj->bj}
theorem xV (w:World)(h:As T Bb MB lv P N F C Y at_ B tg s w0 TT RB c b hi w)(hN:0<=N/\N<=9000000)(hF:∀x,0<=F x/\F x<=9000000)(f:aw)(hf:bu f)(a1 a2:cC fg)(n1 n2 c1 c2:bj)(i:Ins)(ga:cC fg)(gc:bj)(ws:i.argsV= tn ga i.args.length gc)(yi:∃ao n cap,i.modeV= tn ao n cap)(xf:bu i.d)(vd:bu i.a)(yk:bu i.b)(k:bj)(hk:k<c.ins.length)(yp:c.ins.length<=90000)(yq:c.nvars<=90000)(hl:C.length+130<=1000000)(zj:Y.length+130<=1000000)(xj:i.op=9)(xl:isVar c.nvars i.a=ti)(vm:∀x∈aA F f (aX b k) i,x.all (bH N)=ti):
  fj am 58 #[tv #[tr (tf ⟨T,0,th⟩),Z U f,tn a1 n1 c1,tn a2 n2 c2,tr (tf ⟨TT,0,th⟩)],tv i.cells,Z U (k:aw)] w λe w'=>e= tB (.tuple #[])/\aV T Bb MB lv P N F (C++aA F f (aX b k) i) (Y++(aA F f (aX b k) i).map λ_=>at_) at_ B tg w w':=by
 obtain⟨mo,mn,mc,xo⟩:=yi;obtain⟨op,d,a,bb,ff,nn,up,argsV,modeV,ur,uv,ln,cl,args⟩:=i;simp only at ws xo xf vd yk xj xl vm⊢;subst xj;subst ws xo;simp only[Ins.cells];obtain⟨D,W1,hD,yr,vr,xp,ub,HO⟩:=iL h f hf a1 a2 n1 n2 c1 c2 9 d a bb ff nn up ga args.length gc mo mn mc ur uv ln cl;clear h;obtain⟨g,j,xb,zp,zr,zs,vt,vu,vx,w1,w2,w3,w4,w5,w6,w7⟩:=oG hF (f,d) (f,a) (f,bb);have yv:=zH vt;have ue:=zH vu;have zv:=zH vx;obtain⟨bv,vp⟩:=zE (aX b k a);have ux:cg (aA F f (aX b k) (⟨9,d,a,bb,ff,nn,up,tn ga args.length gc,tn mo mn mc,ur,uv,ln,cl,args⟩:Ins)=[[-g,j]]++(if a≠d/\bv=ti then[[-g]] else[])++[[-(g+1),j,j+1]]):=by unfold cg aA;simp only[bw (by decide:¬((9:aw)=12)),bw (by decide:¬((9:aw)=13)),lk,vp,vt,vu,vx]
 have yy:cg (([-g,j]:bp aw).all (bH N)=ti):=vm _ (by rw[ux.out];simp);have vy:cg (([-(g+1),j,j+1]:bp aw).all (bH N)=ti):=vm _ (by rw[ux.out];simp);have yW:cg (a≠d->bv=ti->[-g].all (bH N)=ti):=λh1 h2=>vm _ (by rw[ux.out,cH ⟨h1,h2⟩];simp);have xr:cg (∀C2 Y2 w2,aN T Bb MB lv P N F at_ B tg w0 TT RB c b hi D #[tr (tf ⟨T,0,th⟩),Z U f,tn a1 n1 c1,tn a2 n2 c2,tr (tf ⟨TT,0,th⟩)] #[Z U 9,Z U d,Z U a,Z U bb,Z U ff,Z U nn,tm up,tn ga args.length gc,tn mo mn mc,Z U ur,Z U uv,Z U ln,Z U cl] W1 C2 Y2 w2->zS 108 #[tr (tf ⟨TT,0,th⟩),Z U (k:aw),Z U a] w2 (tt bv)):=λC2 Y2 w2 h2=>by
  obtain⟨An,s',h1,_⟩:=h2;rw[<-vp];unfold aX;have At:=bJ.1 xl;have:=mY w2 TT RB c b k a.toNat h1.as_.tz.tab hk (by omega) yp yq;rw[show((a.toNat:bj):aw)=a by omega] at this;exact this
 have Ax:=zH vp;clear vp;clear vt vu vx;go_enter ke,jn
 go_upto_region 1 with(fail)
 rw[yr.out];obtain⟨⟨o,q,t,u,v⟩,⟨y,z,A,E,G,J,K,R,W,z9,tD,tE,tG⟩,y2⟩:=(ub.out _ _ _ xp.out).1
 go_region
 clear o q t u v y z A E G J K R W z9 tD tE tG y2;have we:=zH (xp.out.grow (aq _ _).drew);obtain⟨⟨o,q,t,u,v⟩,⟨y,z,A,E,G,J,K,R,W,z9,tD,tE,tG⟩,y2⟩:=(ub.out _ _ _ we.out).1;have xt:=zH (HO.out _ _ _ (d) xf we.out);rw[show F (f,d)=g from yv.out] at xt
 go_upto_region 3 with(go_at_call 107;refine xt.out.mono ?_;rintro e xF ⟨rfl,vf⟩;have wg:=zH (we.out.grow vf);clear vf)
 clear o q t u v y z A E G J K R W z9 tD tE tG y2;obtain⟨⟨o,q,t,u,v⟩,⟨y,z,A,E,G,J,K,R,W,z9,tD,tE,tG⟩,y2⟩:=(ub.out _ _ _ wg.out).1;have xT:=zH (HO.out _ _ _ (a) vd wg.out);rw[show F (f,a)=j from ue.out] at xT;have ya:cg (∀wx,aE xF.heap.size xF wx->fj am 56 #[tr (tf ⟨T,0,th⟩),tn (tf ⟨wx.heap.size,0,th⟩) 2 2] (wx.alloc (tA #[Z U (-g),Z U (j)] 3)) _):=λwx hx=>aN.put2 (wg.out.grow hx) hN (-g) (j) yy.out (by(try simp only[bm,cj]);omega) (by(try simp only[bm,cj]);omega)
 go_upto_region 10 with(first|(go_at_call 107;refine xT.out.mono ?_;rintro e AD ⟨rfl,vf⟩;have yb:=zH (ya.out _ vf);clear vf)|(go_at_call 56;(try simp only[w1,w2,w3,w4,w5,w6,w7]);refine yb.out.mono ?_;rintro e uc ⟨rfl,tP⟩;have tR:=zH tP;clear tP yb))
 clear o q t u v y z A E G J K R W z9 tD tE tG y2 ya
 by_cases ud:a=d
 ·have t1:(a==d)=ti:=by rw[ud];exact kO _
  have t2:(a != d)=tj:=by rw[bne,t1];rfl
  have vh:cg (aA F f (aX b k) (⟨9,d,a,bb,ff,nn,up,tn ga args.length gc,tn mo mn mc,ur,uv,ln,cl,args⟩:Ins)=[[-g,j],[-(g+1),j,j+1]]):=by unfold cg;rw[ux.out,bw (λh:a≠d/\bv=ti=>h.1 ud)];simp
  clear ud;obtain⟨⟨o,q,t,u,v⟩,⟨y,z,A,E,G,J,K,R,W,z9,tD,tE,tG⟩,y2⟩:=(ub.out _ _ _ tR.out).1
  go_upto_region 12 with(fail)
  clear o q t u v y z A E G J K R W z9 tD tE tG y2;obtain⟨⟨o,q,t,u,v⟩,⟨y,z,A,E,G,J,K,R,W,z9,tD,tE,tG⟩,y2⟩:=(ub.out _ _ _ tR.out).1;obtain⟨yd,tS⟩:=zE uc.heap.size;obtain⟨ye,tU⟩:=zE (uc.alloc (tA #[Z U (-(g+1))] 3));have tM:=aN.change1 tR.out hN hF f a hf vd a1 a2 n1 n2 c1 c2 (-(g+1)) (by rw[ue.out];exact vy.out) (by(try simp only[bm,cj]);omega) (by(try simp only[bm,cj]);omega);rw[tS,tU,show F (f,a)=j from ue.out] at tM;have tW:=zH tM;have HV:=zH tU;have ua:=zH tS;clear tM tU tS
  go_wp2_with (go_at_call 106;(try rw[ua.out]);(try simp only[w1,w2,w3,w4,w5,w6,w7]);(try rw[HV.out]);refine tW.out.mono ?_;rintro e vq ⟨rfl,tP⟩;have vc:=zH tP;clear tP)
  clear o q t u v y z A E G J K R W z9 tD tE tG y2 tW HV ua
  go_end0
  refine⟨rfl, ?_⟩;have:=vc.out.wn;rw[vh.out];refine aV.below vr.out ?_;simpa using this
 ·have t1:(a==d)=tj:=eR ud
  have t2:(a != d)=ti:=by rw[bne,t1];rfl
  cases bv with
  |false=>
   have vh:cg (aA F f (aX b k) (⟨9,d,a,bb,ff,nn,up,tn ga args.length gc,tn mo mn mc,ur,uv,ln,cl,args⟩:Ins)=[[-g,j],[-(g+1),j,j+1]]):=by unfold cg;rw[ux.out,bw (λh:a≠d/\tj=ti=>fz h.2 (by simp))];simp
   clear ud;obtain⟨⟨o,q,t,u,v⟩,⟨y,z,A,E,G,J,K,R,W,z9,tD,tE,tG⟩,y2⟩:=(ub.out _ _ _ tR.out).1;have wj:=zH (xr.out _ _ _ tR.out)
   go_upto_region 12 with(go_at_call 108;refine wj.out.mono ?_;rintro e uc ⟨rfl,rfl⟩)
   clear o q t u v y z A E G J K R W z9 tD tE tG y2;obtain⟨⟨o,q,t,u,v⟩,⟨y,z,A,E,G,J,K,R,W,z9,tD,tE,tG⟩,y2⟩:=(ub.out _ _ _ tR.out).1;obtain⟨yd,tS⟩:=zE uc.heap.size;obtain⟨ye,tU⟩:=zE (uc.alloc (tA #[Z U (-(g+1))] 3));have tM:=aN.change1 tR.out hN hF f a hf vd a1 a2 n1 n2 c1 c2 (-(g+1)) (by rw[ue.out];exact vy.out) (by(try simp only[bm,cj]);omega) (by(try simp only[bm,cj]);omega);rw[tS,tU,show F (f,a)=j from ue.out] at tM;have tW:=zH tM;have HV:=zH tU;have ua:=zH tS;clear tM tU tS
   go_wp2_with (go_at_call 106;(try rw[ua.out]);(try simp only[w1,w2,w3,w4,w5,w6,w7]);(try rw[HV.out]);refine tW.out.mono ?_;rintro e vq ⟨rfl,tP⟩;have vc:=zH tP;clear tP)
   clear o q t u v y z A E G J K R W z9 tD tE tG y2 tW HV ua
   go_end0
   refine⟨rfl, ?_⟩;have:=vc.out.wn;rw[vh.out];refine aV.below vr.out ?_;simpa using this
  |true=>
   have vh:cg (aA F f (aX b k) (⟨9,d,a,bb,ff,nn,up,tn ga args.length gc,tn mo mn mc,ur,uv,ln,cl,args⟩:Ins)=[[-g,j],[-g],[-(g+1),j,j+1]]):=by unfold cg;rw[ux.out,cH ⟨ud,rfl⟩];simp
   have zc:cg ([-g].all (bH N)=ti):=yW.out ud rfl;clear ud;obtain⟨⟨o,q,t,u,v⟩,⟨y,z,A,E,G,J,K,R,W,z9,tD,tE,tG⟩,y2⟩:=(ub.out _ _ _ tR.out).1;have wj:=zH (xr.out _ _ _ tR.out)
   go_upto_region 11 with(go_at_call 108;refine wj.out.mono ?_;rintro e uc ⟨rfl,rfl⟩)
   clear o q t u v y z A E G J K R W z9 tD tE tG y2;obtain⟨⟨o,q,t,u,v⟩,⟨y,z,A,E,G,J,K,R,W,z9,tD,tE,tG⟩,y2⟩:=(ub.out _ _ _ tR.out).1;obtain⟨yd,tS⟩:=zE uc.heap.size;obtain⟨ye,tU⟩:=zE (uc.alloc (tA #[Z U (-g)] 3));have tM:=aN.put1 tR.out hN (-g) zc.out (by(try simp only[bm,cj]);omega) (by(try simp only[bm,cj]);omega);rw[tS,tU] at tM;have tW:=zH tM;have HV:=zH tU;have ua:=zH tS;clear tM tU tS
   go_upto_region 12 with(go_at_call 56;(try rw[ua.out]);(try simp only[w1,w2,w3,w4,w5,w6,w7]);(try rw[HV.out]);refine tW.out.mono ?_;rintro e vq ⟨rfl,tP⟩;have vc:=zH tP;clear tP)
   clear o q t u v y z A E G J K R W z9 tD tE tG y2 tW HV ua;obtain⟨⟨o,q,t,u,v⟩,⟨y,z,A,E,G,J,K,R,W,z9,tD,tE,tG⟩,y2⟩:=(ub.out _ _ _ vc.out).1;obtain⟨AE,wk⟩:=zE vq.heap.size;obtain⟨AF,wl⟩:=zE (vq.alloc (tA #[Z U (-(g+1))] 3));have tM:=aN.change1 vc.out hN hF f a hf vd a1 a2 n1 n2 c1 c2 (-(g+1)) (by rw[ue.out];exact vy.out) (by(try simp only[bm,cj]);omega) (by(try simp only[bm,cj]);omega);rw[wk,wl,show F (f,a)=j from ue.out] at tM;have tW:=zH tM;have HV:=zH wl;have ua:=zH wk;clear tM wl wk
   go_wp2_with (go_at_call 106;(try rw[ua.out]);(try simp only[w1,w2,w3,w4,w5,w6,w7]);(try rw[HV.out]);refine tW.out.mono ?_;rintro e AH ⟨rfl,tP⟩;have zd:=zH tP;clear tP)
   clear o q t u v y z A E G J K R W z9 tD tE tG y2 tW HV ua
   go_end0
   refine⟨rfl, ?_⟩;have:=zd.out.wn;rw[vh.out];refine aV.below vr.out ?_;simpa using this
theorem uT (w:World)(h:As T Bb MB lv P N F C Y at_ B tg s w0 TT RB c b hi w)(hN:0<=N/\N<=9000000)(hF:∀x,0<=F x/\F x<=9000000)(f:aw)(hf:bu f)(a1 a2:cC fg)(n1 n2 c1 c2:bj)(i:Ins)(ga:cC fg)(gc:bj)(vr:i.argsV= tn ga i.args.length gc)(xt:∃ao n cap,i.modeV= tn ao n cap)(vt:bu i.d)(vu:bu i.a)(uv:bu i.b)(k:bj)(hk:k<c.ins.length)(xF:c.ins.length<=90000)(xT:c.nvars<=90000)(hl:C.length+130<=1000000)(yq:Y.length+130<=1000000)(vx:i.op=11)(vy:isVar c.nvars i.b=ti)(ue:∀x∈aA F f (aX b k) i,x.all (bH N)=ti):
  fj am 58 #[tv #[tr (tf ⟨T,0,th⟩),Z U f,tn a1 n1 c1,tn a2 n2 c2,tr (tf ⟨TT,0,th⟩)],tv i.cells,Z U (k:aw)] w λe w'=>e= tB (.tuple #[])/\aV T Bb MB lv P N F (C++aA F f (aX b k) i) (Y++(aA F f (aX b k) i).map λ_=>at_) at_ B tg w w':=by
 obtain⟨mo,mn,mc,we⟩:=xt;obtain⟨op,d,a,g,ff,nn,tU,argsV,modeV,tW,ua,ln,cl,args⟩:=i;simp only at vr we vt vu uv vx vy ue⊢;subst vx;subst vr we;simp only[Ins.cells];obtain⟨D,W1,hD,ya,wg,wj,tS,HO⟩:=iL h f hf a1 a2 n1 n2 c1 c2 11 d a g ff nn tU ga args.length gc mo mn mc tW ua ln cl;clear h;obtain⟨xd,xa,j,yr,yv,yy,ux,vc,vd,w1,w2,w3,w4,w5,w6,w7⟩:=oG hF (f,d) (f,a) (f,g);have yb:=zH ux;have wk:=zH vc;have wl:=zH vd;obtain⟨bv,up⟩:=zE (aX b k g);have ub:cg (aA F f (aX b k) (⟨11,d,a,g,ff,nn,tU,tn ga args.length gc,tn mo mn mc,tW,ua,ln,cl,args⟩:Ins)=[[j],[xa,xa+1]]++(if bv=ti then[[-j]] else[])):=by unfold cg aA;simp only[bw (by decide:¬((11:aw)=12)),bw (by decide:¬((11:aw)=13)),bw (by decide:¬((11:aw)=9)),bw (by decide:¬((11:aw)=10)),bw (by decide:¬((11:aw)=8)),lk,up,ux,vc,vd]
 have yd:cg (([j]:bp aw).all (bH N)=ti):=ue _ (by rw[ub.out];simp);have ye:cg (([xa,xa+1]:bp aw).all (bH N)=ti):=ue _ (by rw[ub.out];simp);have yi:cg (bv=ti->[-j].all (bH N)=ti):=λh2=>ue _ (by rw[ub.out,cH h2];simp);have ws:cg (∀C2 Y2 w2,aN T Bb MB lv P N F at_ B tg w0 TT RB c b hi D #[tr (tf ⟨T,0,th⟩),Z U f,tn a1 n1 c1,tn a2 n2 c2,tr (tf ⟨TT,0,th⟩)] #[Z U 11,Z U d,Z U a,Z U g,Z U ff,Z U nn,tm tU,tn ga args.length gc,tn mo mn mc,Z U tW,Z U ua,Z U ln,Z U cl] W1 C2 Y2 w2->zS 108 #[tr (tf ⟨TT,0,th⟩),Z U (k:aw),Z U g] w2 (tt bv)):=λC2 Y2 w2 h2=>by
  obtain⟨yW,s',h1,_⟩:=h2;rw[<-up];unfold aX;have zc:=bJ.1 vy;have:=mY w2 TT RB c b k g.toNat h1.as_.tz.tab hk (by omega) xF xT;rw[show((g.toNat:bj):aw)=g by omega] at this;exact this
 have zd:=zH up;clear up;clear ux vc vd;go_enter ke,jn
 go_upto_region 1 with(fail)
 rw[ya.out];obtain⟨⟨o,q,t,u,v⟩,⟨y,z,A,E,G,J,K,R,W,z9,tD,tE,tG⟩,y2⟩:=(tS.out _ _ _ wj.out).1
 go_region
 clear o q t u v y z A E G J K R W z9 tD tE tG y2;have vf:=zH (wj.out.grow (aq _ _).drew);obtain⟨⟨o,q,t,u,v⟩,⟨y,z,A,E,G,J,K,R,W,z9,tD,tE,tG⟩,y2⟩:=(tS.out _ _ _ vf.out).1;have xf:=zH (HO.out _ _ _ (d) vt vf.out);rw[show F (f,d)=xd from yb.out] at xf
 go_upto_region 3 with(go_at_call 107;refine xf.out.mono ?_;rintro e xj ⟨rfl,tM⟩;have vh:=zH (vf.out.grow tM);clear tM)
 clear o q t u v y z A E G J K R W z9 tD tE tG y2;obtain⟨⟨o,q,t,u,v⟩,⟨y,z,A,E,G,J,K,R,W,z9,tD,tE,tG⟩,y2⟩:=(tS.out _ _ _ vh.out).1;have xl:=zH (HO.out _ _ _ (g) uv vh.out);rw[show F (f,g)=j from wl.out] at xl;have uc:cg (∀wx,aE xj.heap.size xj wx->fj am 56 #[tr (tf ⟨T,0,th⟩),tn (tf ⟨wx.heap.size,0,th⟩) 1 1] (wx.alloc (tA #[Z U (j)] 3)) _):=λwx hx=>aN.put1 (vh.out.grow hx) hN (j) yd.out (by(try simp only[bm,cj]);omega) (by(try simp only[bm,cj]);omega)
 go_upto_region 20 with(first|(go_at_call 107;refine xl.out.mono ?_;rintro e zj ⟨rfl,tM⟩;have ud:=zH (uc.out _ tM);clear tM)|(go_at_call 56;(try simp only[w1,w2,w3,w4,w5,w6,w7]);refine ud.out.mono ?_;rintro e zp ⟨rfl,tP⟩;have xo:=zH tP;clear tP ud))
 clear o q t u v y z A E G J K R W z9 tD tE tG y2 uc;obtain⟨⟨o,q,t,u,v⟩,⟨y,z,A,E,G,J,K,R,W,z9,tD,tE,tG⟩,y2⟩:=(tS.out _ _ _ xo.out).1;have vm:=aN.change0 xo.out hN hF f a hf vu a1 a2 n1 n2 c1 c2 (by rw[wk.out];exact ye.out) (by(try simp only[bm,cj]);omega) (by(try simp only[bm,cj]);omega);rw[show F (f,a)=xa from wk.out] at vm;have xp:=zH vm;clear vm
 go_upto_region 21 with(go_at_call 106;refine xp.out.mono ?_;rintro e ur ⟨rfl,tP⟩;have tR:=zH tP;clear tP)
 clear o q t u v y z A E G J K R W z9 tD tE tG y2 xp;cases bv with
 |false=>
  have vp:cg (aA F f (aX b k) (⟨11,d,a,g,ff,nn,tU,tn ga args.length gc,tn mo mn mc,tW,ua,ln,cl,args⟩:Ins)=[[j],[xa,xa+1]]):=by unfold cg;rw[ub.out,bw (by simp)];simp
  obtain⟨⟨o,q,t,u,v⟩,⟨y,z,A,E,G,J,K,R,W,z9,tD,tE,tG⟩,y2⟩:=(tS.out _ _ _ tR.out).1;have vq:=zH (ws.out _ _ _ tR.out)
  go_wp2_with (go_at_call 108;refine vq.out.mono ?_;rintro e ur ⟨rfl,rfl⟩)
  go_end0
  refine⟨rfl, ?_⟩;have:=tR.out.wn;rw[vp.out];refine aV.below wg.out ?_;simpa using this
 |true=>
  have vp:cg (aA F f (aX b k) (⟨11,d,a,g,ff,nn,tU,tn ga args.length gc,tn mo mn mc,tW,ua,ln,cl,args⟩:Ins)=[[j],[xa,xa+1],[-j]]):=by unfold cg;rw[ub.out,cH rfl];simp
  have yk:cg ([-j].all (bH N)=ti):=yi.out (by first|rfl|trivial);obtain⟨⟨o,q,t,u,v⟩,⟨y,z,A,E,G,J,K,R,W,z9,tD,tE,tG⟩,y2⟩:=(tS.out _ _ _ tR.out).1;have vq:=zH (ws.out _ _ _ tR.out)
  go_upto_region 22 with(go_at_call 108;refine vq.out.mono ?_;rintro e ur ⟨rfl,rfl⟩)
  clear o q t u v y z A E G J K R W z9 tD tE tG y2;obtain⟨⟨o,q,t,u,v⟩,⟨y,z,A,E,G,J,K,R,W,z9,tD,tE,tG⟩,y2⟩:=(tS.out _ _ _ tR.out).1;have xr:=zH (HO.out _ _ _ (g) uv tR.out);rw[show F (f,g)=j from wl.out] at xr;have uc:cg (∀wx,aE ur.heap.size ur wx->fj am 56 #[tr (tf ⟨T,0,th⟩),tn (tf ⟨wx.heap.size,0,th⟩) 1 1] (wx.alloc (tA #[Z U (-j)] 3)) _):=λwx hx=>aN.put1 (tR.out.grow hx) hN (-j) yk.out (by(try simp only[bm,cj]);omega) (by(try simp only[bm,cj]);omega)
  go_wp2_with (first|(go_at_call 107;refine xr.out.mono ?_;rintro e zr ⟨rfl,tM⟩;have ud:=zH (uc.out _ tM);clear tM)|(go_at_call 56;(try simp only[w1,w2,w3,w4,w5,w6,w7]);refine ud.out.mono ?_;rintro e zs ⟨rfl,tP⟩;have yp:=zH tP;clear tP ud))
  clear o q t u v y z A E G J K R W z9 tD tE tG y2 uc
  go_end0
  refine⟨rfl, ?_⟩;have:=yp.out.wn;rw[vp.out];refine aV.below wg.out ?_;simpa using this
theorem uU (w:World)(h:As T Bb MB lv P N F C Y at_ B tg s w0 TT RB c b hi w)(hN:0<=N/\N<=9000000)(hF:∀x,0<=F x/\F x<=9000000)(f:aw)(hf:bu f)(K R:cC fg)(n1 n2 c1 c2:bj)(i:Ins)(g:cC fg)(gc:bj)(tS:i.argsV= tn g i.args.length gc)(vm:∃ao n cap,i.modeV= tn ao n cap)(tM:bu i.d)(vp:bu i.a)(vq:bu i.b)(k:bj)(hk:k<c.ins.length)(vr:c.ins.length<=90000)(vt:c.nvars<=90000)(hl:C.length+130<=1000000)(vu:Y.length+130<=1000000)(tU:i.op=15)(tW:ak w0 g i.args)(ua:i.args.length<=40)(ub:bu i.f)(uc:∀v∈i.args,isVar c.nvars v=ti)(ud:∀x∈aA F f (aX b k) i,x.all (bH N)=ti):
  fj am 58 #[tv #[tr (tf ⟨T,0,th⟩),Z U f,tn K n1 c1,tn R n2 c2,tr (tf ⟨TT,0,th⟩)],tv i.cells,Z U (k:aw)] w λe w'=>e= tB (.tuple #[])/\aV T Bb MB lv P N F (C++aA F f (aX b k) i) (Y++(aA F f (aX b k) i).map λ_=>at_) at_ B tg w w':=by
 obtain⟨j,o,q,ue⟩:=vm;obtain⟨op,d,a,t,u,y,z,argsV,modeV,A,E,G,J,args⟩:=i;simp only at tS ue tM vp vq tU tW ua ub uc ud⊢;subst tU;subst tS ue;simp only[Ins.cells];obtain⟨D,W1,hD,vx,vy,up,tP,HO⟩:=iL h f hf K R n1 n2 c1 c2 15 d a t u y z g args.length gc j o q A E G J;clear h;have we:cg (aA F f (aX b k) (⟨15,d,a,t,u,y,z,tn g args.length gc,tn j o q,A,E,G,J,args⟩:Ins)=jW F f (aX b k) (⟨15,d,a,t,u,y,z,tn g args.length gc,tn j o q,A,E,G,J,args⟩:Ins)):=by unfold cg aA;simp only[bw (by decide:¬((15:aw)=12)),bw (by decide:¬((15:aw)=13)),bw (by decide:¬((15:aw)=9)),bw (by decide:¬((15:aw)=10)),bw (by decide:¬((15:aw)=8)),bw (by decide:¬((15:aw)=11)),lk]
 have HF:cg (∀W,aN T Bb MB lv P N F at_ B tg w0 TT RB c b hi D #[tr (tf ⟨T,0,th⟩),Z U f,tn K n1 c1,tn R n2 c2,tr (tf ⟨TT,0,th⟩)] #[Z U 15,Z U d,Z U a,Z U t,Z U u,Z U y,tm z,tn g args.length gc,tn j o q,Z U A,Z U E,Z U G,Z U J] W1 C Y W->fj am 109 #[tv #[tr (tf ⟨T,0,th⟩),Z U f,tn K n1 c1,tn R n2 c2,tr (tf ⟨TT,0,th⟩)],tv #[Z U 15,Z U d,Z U a,Z U t,Z U u,Z U y,tm z,tn g args.length gc,tn j o q,Z U A,Z U E,Z U G,Z U J],Z U (k:aw)] W λe w'=>e= tB (.tuple #[])/\aN T Bb MB lv P N F at_ B tg w0 TT RB c b hi D #[tr (tf ⟨T,0,th⟩),Z U f,tn K n1 c1,tn R n2 c2,tr (tf ⟨TT,0,th⟩)] #[Z U 15,Z U d,Z U a,Z U t,Z U u,Z U y,tm z,tn g args.length gc,tn j o q,Z U A,Z U E,Z U G,Z U J] W1 (C++(jW F f (aX b k) (⟨15,d,a,t,u,y,z,tn g args.length gc,tn j o q,A,E,G,J,args⟩:Ins))) (Y++(jW F f (aX b k) (⟨15,d,a,t,u,y,z,tn g args.length gc,tn j o q,A,E,G,J,args⟩:Ins)).map λ_=>at_) w'):=λW hm=>by
  obtain⟨ws,s',hg,l1,l2,l3⟩:=hm;have:=Ad W hg.as_ hN hF f hf K R n1 n2 c1 c2 (⟨15,d,a,t,u,y,z,tn g args.length gc,tn j o q,A,E,G,J,args⟩:Ins) g gc rfl ⟨j,o,q,rfl⟩ tW ua ub tM k hk uc vr vt hl vu (by have:=ud;unfold aA at this;simp only[bw (by decide:¬((15:aw)=12)),bw (by decide:¬((15:aw)=13)),bw (by decide:¬((15:aw)=9)),bw (by decide:¬((15:aw)=10)),bw (by decide:¬((15:aw)=8)),bw (by decide:¬((15:aw)=11)),lk] at this;exact this);simp only[Ins.cells] at this;refine this.mono ?_;rintro e w2 ⟨rfl,wg⟩;exact⟨rfl,aN.of hg l1 l2 l3 wg⟩
 obtain⟨xd,xa,xb,xf,xj,xl,ur,uv,ux,w1,w2,w3,w4,w5,w6,w7⟩:=oG hF (f,d) (f,a) (f,t);have wj:=zH ur;have xo:=zH uv;have xp:=zH ux;clear ur uv ux;go_enter ke,jn
 go_upto_region 1 with(fail)
 rw[vx.out];obtain⟨⟨x0,x1,x2,x3,x4⟩,⟨z0,z1,z2,z3,z4,z5,z6,z7,z8,z9,tD,tE,tG⟩,y2⟩:=(tP.out _ _ _ up.out).1
 go_region
 clear x0 x1 x2 x3 x4 z0 z1 z2 z3 z4 z5 z6 z7 z8 z9 tD tE tG y2;have tR:=zH (up.out.grow (aq _ _).drew);obtain⟨⟨x0,x1,x2,x3,x4⟩,⟨z0,z1,z2,z3,z4,z5,z6,z7,z8,z9,tD,tE,tG⟩,y2⟩:=(tP.out _ _ _ tR.out).1;have vc:=zH (HO.out _ _ _ (d) tM tR.out);rw[show F (f,d)=xd from wj.out] at vc
 go_upto_region 3 with(go_at_call 107;refine vc.out.mono ?_;rintro e xr ⟨rfl,vd⟩;have vf:=zH (tR.out.grow vd);clear vd)
 clear x0 x1 x2 x3 x4 z0 z1 z2 z3 z4 z5 z6 z7 z8 z9 tD tE tG y2;obtain⟨⟨x0,x1,x2,x3,x4⟩,⟨z0,z1,z2,z3,z4,z5,z6,z7,z8,z9,tD,tE,tG⟩,y2⟩:=(tP.out _ _ _ vf.out).1;have wk:=zH (HF.out _ vf.out)
 go_wp2_with (go_at_call 109;refine wk.out.mono ?_;rintro e wz ⟨rfl,vh⟩;have wl:=zH vh;clear vh)
 go_end0
 refine⟨rfl, ?_⟩;have:=wl.out.wn;rw[we.out];refine aV.below vy.out ?_;simpa using this
theorem uV (w:World)(h:As T Bb MB lv P N F C Y at_ B tg s w0 TT RB c b hi w)(hN:0<=N/\N<=9000000)(hF:∀x,0<=F x/\F x<=9000000)(f:aw)(hf:bu f)(u y:cC fg)(n1 n2 c1 c2:bj)(i:Ins)(g:cC fg)(gc:bj)(tR:i.argsV= tn g i.args.length gc)(vd:∃ao n cap,i.modeV= tn ao n cap)(tS:bu i.d)(tU:bu i.a)(vf:bu i.b)(k:bj)(hk:k<c.ins.length)(vx:c.ins.length<=90000)(vy:c.nvars<=90000)(hl:C.length+130<=1000000)(we:Y.length+130<=1000000)(tW:i.op=18)(ua:∀x∈aA F f (aX b k) i,x.all (bH N)=ti):
  fj am 58 #[tv #[tr (tf ⟨T,0,th⟩),Z U f,tn u n1 c1,tn y n2 c2,tr (tf ⟨TT,0,th⟩)],tv i.cells,Z U (k:aw)] w λe w'=>e= tB (.tuple #[])/\aV T Bb MB lv P N F (C++aA F f (aX b k) i) (Y++(aA F f (aX b k) i).map λ_=>at_) at_ B tg w w':=by
 obtain⟨j,o,q,ub⟩:=vd;obtain⟨op,d,a,t,z,A,E,argsV,modeV,G,J,K,R,args⟩:=i;simp only at tR ub tS tU vf tW ua⊢;subst tW;subst tR ub;simp only[Ins.cells];obtain⟨D,W1,hD,vh,vm,uc,tM,HO⟩:=iL h f hf u y n1 n2 c1 c2 18 d a t z A E g args.length gc j o q G J K R;clear h;have vp:cg (aA F f (aX b k) (⟨18,d,a,t,z,A,E,tn g args.length gc,tn j o q,G,J,K,R,args⟩:Ins)=qN (λv=>F (f,v)) a):=by unfold cg aA;simp only[bw (by decide:¬((18:aw)=12)),bw (by decide:¬((18:aw)=13)),bw (by decide:¬((18:aw)=9)),bw (by decide:¬((18:aw)=10)),bw (by decide:¬((18:aw)=8)),bw (by decide:¬((18:aw)=11)),bw (by decide:¬((18:aw)=15)),lk]
 have HF:cg (∀W,aN T Bb MB lv P N F at_ B tg w0 TT RB c b hi D #[tr (tf ⟨T,0,th⟩),Z U f,tn u n1 c1,tn y n2 c2,tr (tf ⟨TT,0,th⟩)] #[Z U 18,Z U d,Z U a,Z U t,Z U z,Z U A,tm E,tn g args.length gc,tn j o q,Z U G,Z U J,Z U K,Z U R] W1 C Y W->fj am 110 #[tv #[tr (tf ⟨T,0,th⟩),Z U f,tn u n1 c1,tn y n2 c2,tr (tf ⟨TT,0,th⟩)],tv #[Z U 18,Z U d,Z U a,Z U t,Z U z,Z U A,tm E,tn g args.length gc,tn j o q,Z U G,Z U J,Z U K,Z U R]] W λe w'=>e= tB (.tuple #[])/\aN T Bb MB lv P N F at_ B tg w0 TT RB c b hi D #[tr (tf ⟨T,0,th⟩),Z U f,tn u n1 c1,tn y n2 c2,tr (tf ⟨TT,0,th⟩)] #[Z U 18,Z U d,Z U a,Z U t,Z U z,Z U A,tm E,tn g args.length gc,tn j o q,Z U G,Z U J,Z U K,Z U R] W1 (C++(qN (λv=>F (f,v)) a)) (Y++(qN (λv=>F (f,v)) a).map λ_=>at_) w'):=λW hm=>by
  obtain⟨wg,s',hg,l1,l2,l3⟩:=hm;have:=Du W hg.as_ hN hF f hf u y n1 n2 c1 c2 (⟨18,d,a,t,z,A,E,tn g args.length gc,tn j o q,G,J,K,R,args⟩:Ins) g gc rfl ⟨j,o,q,rfl⟩ tU (by omega) (by omega) (by have:=ua;unfold aA at this;simp only[bw (by decide:¬((18:aw)=12)),bw (by decide:¬((18:aw)=13)),bw (by decide:¬((18:aw)=9)),bw (by decide:¬((18:aw)=10)),bw (by decide:¬((18:aw)=8)),bw (by decide:¬((18:aw)=11)),bw (by decide:¬((18:aw)=15)),lk] at this;exact this);simp only[Ins.cells] at this;refine this.mono ?_;rintro e w2 ⟨rfl,vq⟩;exact⟨rfl,aN.of hg l1 l2 l3 vq⟩
 obtain⟨xd,xa,xb,wj,wk,wl,ud,ue,up,w1,w2,w3,w4,w5,w6,w7⟩:=oG hF (f,d) (f,a) (f,t);have vr:=zH ud;have ws:=zH ue;have xf:=zH up;clear ud ue up;go_enter ke,jn
 go_upto_region 1 with(fail)
 rw[vh.out];obtain⟨⟨x0,x1,x2,x3,x4⟩,⟨z0,z1,z2,z3,z4,z5,z6,z7,z8,z9,tD,tE,tG⟩,y2⟩:=(tM.out _ _ _ uc.out).1
 go_region
 clear x0 x1 x2 x3 x4 z0 z1 z2 z3 z4 z5 z6 z7 z8 z9 tD tE tG y2;have tP:=zH (uc.out.grow (aq _ _).drew);obtain⟨⟨x0,x1,x2,x3,x4⟩,⟨z0,z1,z2,z3,z4,z5,z6,z7,z8,z9,tD,tE,tG⟩,y2⟩:=(tM.out _ _ _ tP.out).1;have ur:=zH (HO.out _ _ _ (d) tS tP.out);rw[show F (f,d)=xd from vr.out] at ur
 go_upto_region 3 with(go_at_call 107;refine ur.out.mono ?_;rintro e xj ⟨rfl,uv⟩;have ux:=zH (tP.out.grow uv);clear uv)
 clear x0 x1 x2 x3 x4 z0 z1 z2 z3 z4 z5 z6 z7 z8 z9 tD tE tG y2;obtain⟨⟨x0,x1,x2,x3,x4⟩,⟨z0,z1,z2,z3,z4,z5,z6,z7,z8,z9,tD,tE,tG⟩,y2⟩:=(tM.out _ _ _ ux.out).1;have vt:=zH (HF.out _ ux.out)
 go_wp2_with (go_at_call 110;refine vt.out.mono ?_;rintro e wz ⟨rfl,vc⟩;have vu:=zH vc;clear vc)
 go_end0
 refine⟨rfl, ?_⟩;have:=vu.out.wn;rw[vp.out];refine aV.below vm.out ?_;simpa using this
theorem xW (w:World)(h:As T Bb MB lv P N F C Y at_ B tg s w0 TT RB c b hi w)(hN:0<=N/\N<=9000000)(hF:∀x,0<=F x/\F x<=9000000)(f:aw)(hf:bu f)(a1 a2:cC fg)(n1 n2 c1 c2:bj)(i:Ins)(ga:cC fg)(gc:bj)(ub:i.argsV= tn ga i.args.length gc)(vq:∃ao n cap,i.modeV= tn ao n cap)(uc:bu i.d)(vr:bu i.a)(vt:bu i.b)(k:bj)(hk:k<c.ins.length)(wg:c.ins.length<=90000)(wj:c.nvars<=90000)(hl:C.length+130<=1000000)(wk:Y.length+130<=1000000)(ud:i.op≠12/\i.op≠13/\i.op≠9/\i.op≠10/\i.op≠8/\i.op≠11/\i.op≠15/\i.op≠18):
  fj am 58 #[tv #[tr (tf ⟨T,0,th⟩),Z U f,tn a1 n1 c1,tn a2 n2 c2,tr (tf ⟨TT,0,th⟩)],tv i.cells,Z U (k:aw)] w λe w'=>e= tB (.tuple #[])/\aV T Bb MB lv P N F (C++aA F f (aX b k) i) (Y++(aA F f (aX b k) i).map λ_=>at_) at_ B tg w w':=by
 obtain⟨mo,mn,mc,ue⟩:=vq;obtain⟨op,d,a,bb,ff,nn,up,argsV,modeV,ur,uv,ln,cl,args⟩:=i;simp only at ub ue uc vr vt ud⊢;subst ub ue;simp only[Ins.cells];obtain⟨D,W1,hD,vu,vx,ux,tG,HO⟩:=iL h f hf a1 a2 n1 n2 c1 c2 op d a bb ff nn up ga args.length gc mo mn mc ur uv ln cl;clear h;obtain⟨tM,tP,e9,tR,e8,tS,tU,tW⟩:=ud;have vy:cg (aA F f (aX b k) (⟨op,d,a,bb,ff,nn,up,tn ga args.length gc,tn mo mn mc,ur,uv,ln,cl,args⟩:Ins)=[]):=by unfold cg aA;simp only[tM,tP,e9,tR,e8,tS,tU,tW,if_false]
 have wl:(op==12)=tj:=eR tM;have ws:(op==13)=tj:=eR tP;have b9:(op==9)=tj:=eR e9;have xf:(op==10)=tj:=eR tR;have b8:(op==8)=tj:=eR e8;have xj:(op==11)=tj:=eR tS;have xl:(op==15)=tj:=eR tU;have xo:(op==18)=tj:=eR tW;clear tM tP e9 tR e8 tS tU tW;obtain⟨xd,xa,xb,xp,xr,xt,vc,vd,vf,w1,w2,w3,w4,w5,w6,w7⟩:=oG hF (f,d) (f,a) (f,bb);have we:=zH vc;have xF:=zH vd;have xT:=zH vf;clear vc vd vf;go_enter ke,jn
 go_upto_region 1 with(fail)
 rw[vu.out];obtain⟨⟨g,j,o,q,t⟩,⟨u,v,y,z,A,E,G,J,K,R,W,tD,tE⟩,y2⟩:=(tG.out _ _ _ ux.out).1
 go_region
 clear g j o q t u v y z A E G J K R W tD tE y2;have ua:=zH (ux.out.grow (aq _ _).drew);obtain⟨⟨g,j,o,q,t⟩,⟨u,v,y,z,A,E,G,J,K,R,W,tD,tE⟩,y2⟩:=(tG.out _ _ _ ua.out).1;have vh:=zH (HO.out _ _ _ (d) uc ua.out);rw[show F (f,d)=xd from we.out] at vh
 go_upto_region 3 with(go_at_call 107;refine vh.out.mono ?_;rintro e ya ⟨rfl,vm⟩;have vp:=zH (ua.out.grow vm);clear vm)
 clear g j o q t u v y z A E G J K R W tD tE y2;obtain⟨⟨g,j,o,q,t⟩,⟨u,v,y,z,A,E,G,J,K,R,W,tD,tE⟩,y2⟩:=(tG.out _ _ _ vp.out).1;go_wp2
 go_end0
 refine⟨rfl, ?_⟩;have:=vp.out.wn;rw[vy.out];refine aV.below vx.out ?_;simpa using this
end
noncomputable def Gu (d:bp Ins)(k:bj)(v:aw):ml:=@decide (eD d v.toNat k) (sE _)
noncomputable def jm (m:Mo)(f k:bj)(v:aw):ml:=match m.fs[f]? with
 |some g=>Gu g.c.ins k v
 |none=>tj
theorem EI {d:bp Ins}{k:bj}{v:aw}:Gu d k v=ti↔eD d v.toNat k:=by
 unfold Gu;exact @decide_eq_true_iff _ (sE _)
theorem qx {P:bp (aw×aw)}{o:aw->aw}{e f:aw->ml}{i:Ins}:∀(l:bp aw)(n:bj),(∀a∈l,e a=f a)->mI P o e i n l=mI P o f i n l
 |[],_,_=>rfl
 |a::r,n,h=>by
  unfold mI;rw[qx r (n+1) (λx g=>h x (by simp[g]))];have:eG e i.d i.args n a=eG f i.d i.args n a:=by unfold eG;rw[h a (by simp)]
  rw[this]
theorem xX {P:bp (aw×aw)}{f:aw}{d e:aw->ml}{i:Ins}(o:i.op=9->d i.a=e i.a)(q:i.op=11->d i.b=e i.b)(t:i.op=15->∀a∈i.args,d a=e a):gJ P f d i=gJ P f e i:=by
 unfold gJ
 by_cases g:i.op=9
 ·rw[o g]
  simp[g]
 by_cases h:i.op=11
 ·rw[q h]
  simp[h]
 by_cases j:i.op=15
 ·simp only[qx i.args 0 (t j)]
  simp[j]
 simp[g,h,j]
theorem sW {P:bp (aw×aw)}{f:aw}{beh:bj->aw->ml}{i:Ins}:∀(l:bp Ins)(k:bj),gB P f beh k (l++[i])=gB P f beh k l++(gJ P f (beh (k+l.length)) i).map (λc=>(c,(f,((k+l.length:bj):aw))))
 |[],k=>by simp[gB]
 |x::r,k=>by
  rw[gh];unfold gB;rw[sW r (k+1),ei,eh,show k+1+r.length=k+(r.length+1) by omega]
theorem sZ {f:aw}{p:aw×aw}:∀(l:bp (aw×aw))(k:bj),d9 f k (l++[p])=d9 f k l++(if p.1=f then[([-(2*((k+l.length:bj):aw)+1),-(2*((k+l.length:bj):aw)+2)],(f,(-1:aw)))] else[])
 |[],k=>by simp[d9]
 |x::r,k=>by
  rw[gh];unfold d9;rw[sZ r (k+1),ei,eh,show k+1+r.length=k+(r.length+1) by omega]
theorem tq {P:bp (aw×aw)}{beh:bj->bj->aw->ml}{g:Fn}:∀(l:bp Fn)(f:bj),jU P beh f (l++[g])=jU P beh f l++(d9 ((f+l.length:bj):aw) 0 P++gB P ((f+l.length:bj):aw) (beh (f+l.length)) 0 g.c.ins)
 |[],f=>by simp[jU]
 |x::r,f=>by
  rw[gh];unfold jU;rw[tq r (f+1),ei (d9 (↑f) 0 P++gB P (↑f) (beh f) 0 x.c.ins),eh,show f+1+r.length=f+(r.length+1) by omega]
theorem BL {P:bp (aw×aw)}{f:aw}{beh:aw->ml}{i:Ins}(e:i.args.length<=40):(gJ P f beh i).length<=124:=by
 have d:=o9 (F:=aJ 0 P) (o:=λv=>aJ 0 P (f,v)) (beh:=beh) (i:=i) i.args 0;rw[o8] at d;unfold gJ;simp only
 repeat' split
 all_goals (simp only[bm,eh,ks];omega)
theorem pu {P:bp (aw×aw)}{f:aw}{beh:bj->aw->ml}:∀(l:bp Ins)(k:bj),(∀i∈l,i.args.length<=40)->(gB P f beh k l).length<=124*l.length
 |[],_,_=>by simp[gB]
 |x::r,k,h=>by
  unfold gB;rw[bm,eq,eh];have d:=BL (P:=P) (f:=f) (beh:=beh k) (h x (by simp));have e:=pu (P:=P) (f:=f) (beh:=beh) r (k+1) (λi hi=>h i (by simp[hi]));omega
theorem lX {f:aw}:∀(l:bp (aw×aw))(k:bj),(d9 f k l).length<=l.length
 |[],_=>by simp[d9]
 |x::r,k=>by
  unfold d9;rw[bm,eh];have:=lX (f:=f) r (k+1)
  by_cases h:x.1=f
  ·rw[cH h];simp;omega
  ·rw[bw h];simp;omega
def bK (l:bp Fn):bj:=(l.map λg=>g.c.ins.length).sum
theorem vW {P:bp (aw×aw)}{beh:bj->bj->aw->ml}:∀(l:bp Fn)(f:bj),(∀g∈l,∀i∈g.c.ins,i.args.length<=40)->(jU P beh f l).length<=P.length*l.length+124*bK l
 |[],_,_=>by simp[jU]
 |x::r,f,h=>by
  unfold jU;have j:=lX (f:=(f:aw)) P 0;have o:=pu (P:=P) (f:=(f:aw)) (beh:=beh f) x.c.ins 0 (h x (by simp));have q:=vW (P:=P) (beh:=beh) r (f+1) (λg d=>h g (by simp[d]));have e:bK (x::r)=x.c.ins.length+bK r:=by simp[bK]
  rw[bm,bm,eh,e,Nat.mul_succ];omega
theorem pz {d f:bp (aw×aw)}(g:d.Nodup)(j:f.Nodup)(h:∀x∈d,x∉f):(d++f).Nodup:=pk.2 ⟨g,j,λa o b hb e=>h a o (by rw[e];exact hb)⟩
theorem qy {f:aw}:∀(l:bp Vr)(v:bj),(bF f v l).Nodup
 |[],_=>by simp[bF]
 |x::r,v=>by
  unfold bF;refine pz (by by_cases h:x.ptr=ti<;>simp[h]) (qy r (v+1)) (λy d g=> ?_);obtain⟨k,z,_,_,e⟩:=gI.1 g
  by_cases h:x.ptr=ti
  ·rw[cH h,cP] at d
   rw[d] at e;have:=(rk e).2;omega
  ·rw[bw h] at d;exact fz d (by simp)
theorem xY {f:aw}{g:Fn}:(cK f g).Nodup:=by
 unfold cK;refine pz (qy _ _) (by by_cases h:g.c.rp=ti<;>simp[h]) (λy j d=> ?_);obtain⟨k,z,_,_,e⟩:=gI.1 j
 by_cases h:g.c.rp=ti
 ·rw[cH h,cP] at d
  rw[d] at e;have:=(rk e).2;omega
 ·rw[bw h] at d;exact fz d (by simp)
theorem mZ {f:aw}{g:Fn}{x:aw×aw}(h:x∈cK f g):x.1=f:=by
 unfold cK at h;rcases dg.1 h with h|h
 ·obtain⟨k,z,_,_,e⟩:=gI.1 h;rw[e]
 ·by_cases d:g.c.rp=ti
  ·rw[cH d,cP] at h;rw[h]
  ·rw[bw d] at h;exact fz h (by simp)
theorem qz:∀(l:bp Fn)(f:bj),(bU f l).Nodup
 |[],_=>by simp[bU]
 |g::r,f=>by
  unfold bU;refine pz xY (qz r (f+1)) (λy d h=> ?_);obtain⟨k,z,_,e⟩:=iO.1 h;have j:=mZ d;have o:=mZ e;omega
theorem Mo.ptrs_nodup (m:Mo):m.ptrs.Nodup:=qz _ _
section
variable {T Bb MB:bj}{lv:cC fg×bj}{P:bp (aw×aw)}{N:aw}{F F2:aw×aw->aw}{C:bp (bp aw)}{Y:bp (aw×aw)}{at_:aw×aw}{B:bj}{tg:bj->bj}{s:nz}{w WF:World}
theorem FT {f v W:aw}{a9:cC fg}{c9:bj}(h:Wn T Bb MB lv P N F C Y at_ B tg s w)(y:Ext (λq=>q=T\/q=Bb\/q=MB\/(cv lv.1 P.length lv.2).ownBlock=tf q) w WF)
  (hT:WF.heap[T]?=tf (tA (EZ Bb MB (a9,c9) s (P.length+1) Y.length at_) 123 (0,0)))(hB:WF.heap[Bb]?=tf (tA #[Z U W,tn s.fA C.length s.fC] 191 (0,0)))(hM:ma WF MB (P.length+1) F2)
  (tD:WF.ownsRow B 121 2 (tn a9 (P.length+1) c9) (P.length+1) (P.flatMap oJ++[Z U f,Z U v]))(G:∀k,(cv a9 (P.length+1) c9).ownBlock=tf k->(cv lv.1 P.length lv.2).ownBlock=tf k\/w.heap.size<=k)(hl:P.length+1<=30000):
  aV T Bb MB (a9,c9) (P++[(f,v)]) W F2 C Y at_ B tg w WF:=by
 have z:=h.t4;have J:∀k,tg k≠1->tg k≠2->tg k≠3->tg k≠4->¬(k=T\/k=Bb\/k=MB\/(cv lv.1 P.length lv.2).ownBlock=tf k):=λk u E o j K=>by
  rcases K with rfl|rfl|rfl|K
  ·exact u h.t1
  ·exact E h.t2
  ·exact o h.t3
  ·exact j (z k K)
 have tE:∀k,tg k≠0->k<w.heap.size:=λk d=>(h.lo k d).2;have A:(P++[(f,v)]).length=P.length+1:=by simp
 have x:∀k,(cv a9 (P.length+1) c9).ownBlock=tf k->tg k≠0->tg k=4:=λk d h0=>by
  rcases G k d with u|u
  ·exact z k u
  ·have:=tE k h0;omega
 refine⟨λk=>if (cv a9 (P.length+1) c9).ownBlock=tf k then 4 else tg k,s,⟨?_,hB, ?_, ?_, ?_, ?_,⟨h.cls.1, ?_⟩, ?_, ?_, ?_, ?_, ?_, ?_, ?_,by rw[A];exact hl,h.lC,h.lY⟩, ?_, ?_, ?_⟩
 ·rw[A];exact hT
 ·rw[A];exact hM
 ·rw[A,fS];exact tD
 ·exact ah h.frow y (λk d=>J k (by rw[h.t5 k d];decide) (by rw[h.t5 k d];decide) (by rw[h.t5 k d];decide) (by rw[h.t5 k d];decide))
 ·exact ah h.yrow y (λk d=>J k (by rw[h.t6 k d];decide) (by rw[h.t6 k d];decide) (by rw[h.t6 k d];decide) (by rw[h.t6 k d];decide))
 ·intro k c hc
  obtain⟨tG,tM,u,E,o⟩:=h.cls.2 k c hc;refine⟨tG,tM,u,dS E y (λa t e=>J _ (by rw[o t a e];decide) (by rw[o t a e];decide) (by rw[o t a e];decide) (by rw[o t a e];decide)),λt a e=> ?_⟩;rw[bw (λg=> ?_)]
  ·exact o t a e
  ·obtain⟨b,tP,e1,e2,_⟩:=E t
   rw[e] at e1;obtain rfl:=cy e1;rcases G _ g with j|j
   ·have:=z _ j;have:=o t _ e;omega
   ·simp only at e2 j;omega
 ·show(if _ then 4 else tg T)=1
  rw[bw (λg=>by have:=x T g (by rw[h.t1];decide);have:=h.t1;omega)];exact h.t1
 ·show(if _ then 4 else tg Bb)=2
  rw[bw (λg=>by have:=x Bb g (by rw[h.t2];decide);have:=h.t2;omega)];exact h.t2
 ·show(if _ then 4 else tg MB)=3
  rw[bw (λg=>by have:=x MB g (by rw[h.t3];decide);have:=h.t3;omega)];exact h.t3
 ·intro k d
  rw[A] at d
  show(if _ then 4 else tg k)=4
  rw[cH d]
 ·intro k d
  have j:=h.t5 k d
  show(if _ then 4 else tg k)=5
  rw[bw (λg=>by have:=x k g (by omega);omega)];exact j
 ·intro k d
  have j:=h.t6 k d
  show(if _ then 4 else tg k)=6
  rw[bw (λg=>by have:=x k g (by omega);omega)];exact j
 ·intro k d
  by_cases g:(cv a9 (P.length+1) c9).ownBlock=tf k
  ·exact ai tD g
  ·simp only[bw g] at d
   exact⟨(h.lo k d).1,cD (tE k d) y.size⟩
 ·refine y.mono (λq R=> ?_)
  rcases R with rfl|rfl|rfl|R
  ·rw[h.t1];decide
  ·rw[h.t2];decide
  ·rw[h.t3];decide
  ·rw[z q R];decide
 ·intro k d
  by_cases g:(cv a9 (P.length+1) c9).ownBlock=tf k
  ·rcases G k g with j|j
   ·exact .inl (by rw[z _ j];decide)
   ·exact .inr j
  ·simp only[bw g] at d
   exact .inl d
 ·intro k d
  by_cases g:(cv a9 (P.length+1) c9).ownBlock=tf k
  ·simp only[cH g];exact(x k g d).symm
  ·simp only[bw g]
theorem Ae (w:World)(h:Wn T Bb MB lv P N F C Y at_ B tg s w)(hN:0<=N/\N<=8000000)(f v:aw)(hf:bu f)(hv:bu v)(hl:P.length+1<=30000):
  fj am 100 #[tr (tf ⟨T,0,th⟩),Z U f,Z U v] w λe w'=>e= tB (.tuple #[])/\∃An,aV T Bb MB An (P++[(f,v)]) (N+2) (λx=>if x=(f,v) then N+1 else F x) C Y at_ B tg w w':=by
 obtain⟨D,hD⟩:=zE w.heap.size;obtain⟨W1,tE⟩:=zE (w.alloc (tA #[Z U f,Z U v] 121));have uv:=gy tE;have ux:W1.heap[D]?=tf (tA #[Z U f,Z U v] 121 (0,0)):=by rw[<-tE,<-hD];exact alloc_at _ _
 have d:=h.grow uv;have vy:D≠T/\D≠Bb/\D≠MB:=by
  have a1:=(h.lo T (by rw[h.t1];decide)).2;have a2:=(h.lo Bb (by rw[h.t2];decide)).2;have a3:=(h.lo MB (by rw[h.t3];decide)).2;omega
 have we:T≠Bb/\T≠MB/\Bb≠MB:=by
  have a1:=h.t1;have a2:=h.t2;have a3:=h.t3;exact⟨λe=>by rw[e] at a1;omega,λe=>by rw[e] at a1;omega,λe=>by rw[e] at a2;omega⟩
 have wg:B<=w.heap.size:=by have:=(h.lo T (by rw[h.t1];decide));omega
 have wj:∀k,(cv lv.1 P.length lv.2).ownBlock=tf k->k≠T/\k≠Bb/\k≠MB/\k<D:=λk u=>by
  have a4:=h.t4 k u;have a1:=h.t1;have a2:=h.t2;have a3:=h.t3;have:=(h.lo k (by omega)).2;exact⟨λe=>by rw[e] at a4;omega,λe=>by rw[e] at a4;omega,λe=>by rw[e] at a4;omega,by omega⟩
 obtain⟨i0,wk,wl,ws,xf⟩:=m6 oZ;obtain⟨S1,tG⟩:=zE ((λw'=>w'.heap[T]?=tf (tA (EZ Bb MB lv s P.length Y.length at_) 123 (0,0))/\w'.heap[D]?=tf (tA #[Z U f,Z U v] 121 (0,0))):World->Prop);have At:S1 W1.drew:=by rw[<-tG];exact⟨d.row,ux⟩
 have vc:cg (∀W,W.heap[T]?=tf (tA (EZ Bb MB lv s P.length Y.length at_) 123 (0,0))->W.heap[D]?=tf (tA #[Z U f,Z U v] 121 (0,0))->S1 W):=λW a b=>by rw[<-tG];exact⟨a,b⟩
 have y:cg (∀w,S1 w->w.cell? ⟨T,1,th⟩=tf (tn lv.1 P.length lv.2)/\w.cell? ⟨D,0,th⟩=tf (Z U f)/\w.cell? ⟨D,1,th⟩=tf (Z U v)/\T<w.heap.size/\D<w.heap.size):=λw g=>by rw[<-tG] at g;exact⟨(rowAt g.1 1 rfl).1,(rowAt g.2 0 rfl).1,(rowAt g.2 1 rfl).1,ae g.1,ae g.2⟩
 have Ax:=zH tE;have xj:=zH uv;have H:=zH h;have H1:=zH d;have xl:=zH ux;have J:=zH wj;have xo:=zH vy;have A:=zH we;have HD:=zH hD;have AD:=zH wg;have xp:=ae d.row;clear h tE uv d ux tG wj vy we wg;go_enter func100,ntmps100
 go_upto_region 1 with(fail)
 rw[Ax.out];refine aj 10 S1 (by kernel_rfl) ?_;refine zT 0 rfl y.out ?_;(try go_simp);refine zT 1 rfl y.out ?_;(try go_simp);refine zT 2 rfl y.out ?_;(try go_simp);refine zT 3 rfl y.out ?_;(try go_simp);refine zT 4 rfl y.out ?_;(try go_simp);refine zT 5 rfl y.out ?_;(try go_simp);refine zO 6 rfl λK' j=> ?_;go_simp;obtain⟨G,hG⟩:=zE W1.heap.size;obtain⟨W8,tM⟩:=zE ((W1.alloc (tA #[Z U f,Z U v] 121)).drew);(try rw[hG]);(try rw[tM]);have tP:aE W1.heap.size W1 W8:=by rw[<-tM];exact((aq _ _).alloc (cd _) _).drew
 have xr:W8.heap[G]?=tf (tA #[Z U f,Z U v] 121 (0,0)):=by rw[<-tM,<-hG];exact alloc_at _ _
 have tR:=(tP.block T xp).trans H1.out.row;have vd:=(tP.block D (ae xl.out)).trans xl.out;have K:aE w.heap.size w W8:=xj.out.trans (tP.mono xj.out.size);refine j _ _ (vc.out _ tR vd) ?_;clear j;(try go_simp);refine zO 7 rfl λK' j=> ?_;have xt:=H.out.grow K;have xF:B<=W8.heap.size:=eN AD.out K.size;refine aG (.tmp 14) (.tmp 16) 119 rfl B 121 i0 _ 2 16 oX wk wl ws xf rfl (by decide) (tn lv.1 P.length lv.2) P.length (P.flatMap oJ) rfl xt.lrow (tf ⟨G,0,th⟩) 1 1 [Z U f,Z U v] rfl rfl (λh=>by cases h) (λad AE jj uu hu=>by
  obtain rfl:(⟨G,0,th⟩:fg)=ad:=by simpa using AE
  rw[cU,cI,bt _ _ _ _ _ _ xr];simpa using hu) (by simp[cn]) (by unfold du;omega) (by omega) xF ?_
 intro v9 w9 vf xT tS;obtain⟨E,c9,AF⟩:=aC vf;subst AF;have tU:Ext (λq=>(cv lv.1 P.length lv.2).ownBlock=tf q) W8 w9:=Ext.of_grown xT (λq hq=> .inl hq);have R:=tU.heap tR (λe=>(J.out _ e).1 rfl);have vh:=tU.heap vd (λe=>by have:=(J.out _ e).2.2.2;omega);have ya:S1 w9:=vc.out _ R vh;have AH:=(rowAt R 1 rfl).2;have AI:=(rowAt R 1 rfl).1;have AK:=ae R;refine j _ _ ya ?_;clear j;(try go_simp);refine zT 8 rfl y.out ?_;(try go_simp);refine zT 9 rfl y.out ?_;(try go_simp);refine zK rfl λK' j=> ?_;go_simp;refine j _ _ ?_;clear j;refine⟨by kernel_rfl, ?_⟩;obtain⟨o,tW⟩:=zE (w9.setCell ⟨T,1,th⟩ (tn E (P.length+1) c9));(try rw[tW]);have ua:Ext (·=T) w9 o:=by rw[<-tW];exact Ext.set1 w9 T 1 _
 have yb:o.heap[T]?=tf (tA (EZ Bb MB (E,c9) s (P.length+1) Y.length at_) 123 (0,0)):=by rw[<-tW];exact bk w9 T 1 _ _ _ R
 have yd:Ext (λq=>q=T\/(cv lv.1 P.length lv.2).ownBlock=tf q) W8 o:=(tU.mono (λq h=> .inr h)).trans ua (λq h=> .inl (.inl h));have ub:Ext (λq=>q=T\/(cv lv.1 P.length lv.2).ownBlock=tf q) w o:=(Ext.of_below_size K).trans yd (λq h=> .inl h);have ye:=ua.heap vh (λe=>xo.out.1 e);have yi:o.heap[Bb]?=tf (tA #[Z U N,tn s.fA C.length s.fC] 191 (0,0)):=ub.heap H.out.bld (by rintro(e|e);exact A.out.1 e.symm;exact(J.out _ e).2.1 rfl);have yk:ma o MB P.length F:=H.out.map.ext ub (by rintro(e|e);exact A.out.2.1 e.symm;exact(J.out _ e).2.2.1 rfl);have yp:=ah vf ua (λk u e=>by
  rcases tS k u with d|d
  ·exact(J.out k d).1 e
  ·have:=ae tR;omega)
 have AM:=zH ub;have uc:=zH yb;have yq:=zH ye;have vm:=zH yi;have AN:=zH yk;have AS:=zH yp;have AT:cg (∀k,(cv E (P.length+1) c9).ownBlock=tf k->(cv lv.1 P.length lv.2).ownBlock=tf k\/w.heap.size<=k):=λk u=>by
  rcases tS k u with d|d
  ·exact .inl d
  ·exact .inr (eN K.size d)
 have AW:cg (∀k,(cv E (P.length+1) c9).ownBlock=tf k->k≠T/\k≠Bb/\k≠MB):=λk u=>by
  rcases tS k u with d|d
  ·obtain⟨e1,e2,e3,_⟩:=J.out k d;exact⟨e1,e2,e3⟩
  ·have e1:=(H.out.lo T (by rw[H.out.t1];decide)).2
   have e2:=(H.out.lo Bb (by rw[H.out.t2];decide)).2;have e3:=(H.out.lo MB (by rw[H.out.t3];decide)).2;have:=K.size;omega
 clear tW ua yb yd ub ye yi yk yp vf xT tS tU R vh ya AH AI xt xF tR vd xr tM tP K hG AK xp wk wl ws xf vc y At
 go_upto_region 2 with(fail)
 have A1:=(rowAt uc.out 2 rfl).1;have By:=ae uc.out;have BE:=ae vm.out;obtain⟨S2,ud⟩:=zE ((λw'=>w'.heap[T]?=tf (tA (EZ Bb MB (E,c9) s (P.length+1) Y.length at_) 123 (0,0))/\w'.heap[D]?=tf (tA #[Z U f,Z U v] 121 (0,0))):World->Prop);have A2:S2 o.drew:=by rw[<-ud];exact⟨uc.out,yq.out⟩
 have yr:cg (∀W,W.heap[T]?=tf (tA (EZ Bb MB (E,c9) s (P.length+1) Y.length at_) 123 (0,0))->W.heap[D]?=tf (tA #[Z U f,Z U v] 121 (0,0))->S2 W):=λW a b=>by rw[<-ud];exact⟨a,b⟩
 have t:cg (∀w,S2 w->w.cell? ⟨T,2,th⟩=tf (.map (tf MB))/\w.cell? ⟨T,0,th⟩=tf (tr (tf ⟨Bb,0,th⟩))/\w.cell? ⟨D,0,th⟩=tf (Z U f)/\w.cell? ⟨D,1,th⟩=tf (Z U v)/\T<w.heap.size/\D<w.heap.size):=λw g=>by rw[<-ud] at g;exact⟨(rowAt g.1 2 rfl).1,(rowAt g.1 0 rfl).1,(rowAt g.2 0 rfl).1,(rowAt g.2 1 rfl).1,ae g.1,ae g.2⟩
 clear ud A1;refine aj 10 S2 (by kernel_rfl) ?_;refine zT 0 rfl t.out ?_;(try go_simp);refine zT 1 rfl t.out ?_;(try go_simp);refine zT 2 rfl t.out ?_;(try go_simp);refine zT 3 rfl t.out ?_;(try go_simp);refine zT 4 rfl t.out ?_;(try go_simp);refine zT 5 rfl t.out ?_;(try go_simp);refine zT 6 rfl t.out ?_;(try go_simp);refine zT 7 rfl t.out ?_;(try go_simp);refine zT 8 rfl t.out ?_;(try go_simp);refine zO 9 rfl λK' j=> ?_;go_simp;have yv:=zH (vU o.drew (N:=N) (Bb:=Bb) vm.out (by omega));go_at_call 139;refine yv.out.mono ?_;rintro e ue ⟨rfl,vp⟩;have tD:Ext (·=Bb) o.drew ue:=by rw[<-vp];exact Ext.set1 _ _ _ _
 have yy:ue.heap[Bb]?=tf (tA #[Z U (N+1),tn s.fA C.length s.fC] 191 (0,0)):=by rw[<-vp];exact bk o.drew Bb 0 _ _ _ vm.out
 have vq:=tD.heap (show o.drew.heap[T]?=_ from uc.out) (λe=>A.out.1 e);have yW:=tD.heap (show o.drew.heap[D]?=_ from yq.out) (λe=>xo.out.2.1 e);have zc:ma ue MB P.length F:=(AN.out.ext ((Ext.refl (λ_=>lj) _).drew) (λh=>h)).ext tD (λe=>A.out.2.2 e.symm);have zd:S2 ue:=yr.out _ vq yW;refine j _ _ zd ?_;clear j;(try go_simp);refine zK rfl λK' j=> ?_;obtain⟨vr,zj,zp,up⟩:=zc.add hf hv (z:=N+1) (by unfold bu;omega) (by unfold du;omega);go_simp;(try simp only[zj]);(try go_simp);refine j _ _ ?_;clear j;refine⟨by kernel_rfl, ?_⟩;have vt:=up.heap yy (λe=>A.out.2.2 e);have ur:=up.heap vq (λe=>A.out.2.1 e);have c0:=(rowAt ur 0 rfl).1;have A3:=zH (vU vr vt (by omega));have BT:=ae ur;have A4:=zH tD;have A5:=zH up;have A6:=zH vt;have Bk:=zH ur;have Bm:=zH zp;clear zj zp up vt ur zc zd yy vq yW tD vp yv A2 yr t
 go_wp2_with (go_at_call 139;refine A3.out.mono ?_;rintro e vu ⟨rfl,zr⟩;have zs:=zH zr;clear zr)
 go_end0
 refine⟨rfl,(E,c9), ?_⟩;have vx:Ext (·=Bb) vr vu:=by rw[<-zs.out];exact Ext.set1 _ _ _ _
 have Bs:vu.heap[Bb]?=tf (tA #[Z U (N+1+1),tn s.fA C.length s.fC] 191 (0,0)):=by rw[<-zs.out];exact bk vr Bb 0 _ _ _ A6.out
 have zv:Ext (λq=>q=Bb\/q=MB) o vu:=((((Ext.refl (λq=>q=Bb\/q=MB) o).drew).trans (A4.out.mono (λq h=> .inl h)) (λq h=> .inl h)).trans (A5.out.mono (λq h=> .inr h)) (λq h=> .inl h)).trans (vx.mono (λq h=> .inl h)) (λq h=> .inl h);refine FT H.out (AM.out.mono (λq h=>by rcases h with h|h;exact .inl h;exact .inr (.inr (.inr h)))|>.trans (zv.mono (λq h=>by rcases h with h|h;exact .inr (.inl h);exact .inr (.inr (.inl h)))) (λq h=> .inl h)) (vx.heap Bk.out (λe=>A.out.1 e)) (by rw[show N+2=N+1+1 by omega];exact Bs) (Bm.out.ext vx (λe=>A.out.2.2 e.symm)) (ah AS.out zv (λk u e=>by
  obtain⟨_,e2,e3⟩:=AW.out k u;rcases e with e|e
  ·exact e2 e
  ·exact e3 e)) AT.out hl
end
theorem tu {p x:aw×aw}:∀{P:bp (aw×aw)}{k:bj},p∉P->aJ k (P++[p]) x=if x=p then 2*((k+P.length:bj):aw)+1 else aJ k P x
 |[],k,_=>by
  show aJ k [p] x=_
  unfold aJ
  by_cases h:p=x
  ·rw[cH h,cH h.symm];simp
  ·rw[bw h,bw (λe=>h e.symm)];rfl
 |q::r,k,d=>by
  rw[gh];unfold aJ;have f:p∉r:=λh=>d (by simp[h])
  by_cases h:q=x
  ·rw[cH h,bw (λe=>d (by rw[<-e,<-h];simp)),cH h]
  ·rw[bw h,tu f,eh,bw h,show k+1+r.length=k+(r.length+1) by omega]
theorem ng {f:aw}{x:Vr}:∀(l:bp Vr)(v:bj),bF f v (l++[x])=bF f v l++(if x.ptr=ti then[(f,((v+l.length:bj):aw))] else[])
 |[],v=>by simp[bF]
 |y::r,v=>by
  rw[gh];unfold bF;rw[ng r (v+1),ei,eh,show v+1+r.length=v+(r.length+1) by omega]
theorem kG {g:Fn}:∀(l:bp Fn)(f:bj),bU f (l++[g])=bU f l++cK ((f+l.length:bj):aw) g
 |[],f=>by simp[bU]
 |y::r,f=>by
  rw[gh];unfold bU;rw[kG r (f+1),ei,eh,show f+1+r.length=f+(r.length+1) by omega]
theorem pE {f:aw}:∀(l:bp Vr)(v:bj),(bF f v l).length<=l.length
 |[],_=>by simp[bF]
 |y::r,v=>by
  unfold bF;rw[bm,eh];have:=pE (f:=f) r (v+1)
  by_cases h:y.ptr=ti
  ·rw[cH h];simp;omega
  ·rw[bw h];simp;omega
theorem BM {f:aw}{g:Fn}:(cK f g).length<=g.vs.length+1:=by
 unfold cK;rw[bm];have:=pE (f:=f) g.vs 0
 by_cases h:g.c.rp=ti
 ·rw[cH h];simp;omega
 ·rw[bw h];simp;omega
def Nm (T Bb MB:bj)(at_:aw×aw)(B:bj)(tg:bj->bj)(w0:World)(D:bj)(cc:dl cw)(W1:World)(P:bp (aw×aw))(w:World):Prop:=
 ∃lv d e,Wn T Bb MB lv P (2*(P.length:aw)) (aJ 0 P) [] [] at_ B d e w/\aE B w0 w/\w.heap[D]?=tf (tA cc 38 (0,0))/\d D=0/\Ext (λq=>tg q≠0) W1 w/\(∀k,d k≠0->tg k≠0\/W1.heap.size<=k)/\∀k,tg k≠0->d k=tg k
section
variable {T Bb MB:bj}{at_:aw×aw}{B:bj}{tg:bj->bj}{w0 w w' W1:World}{D:bj}{cc:dl cw}{P:bp (aw×aw)}
theorem Nm.grow (h:Nm T Bb MB at_ B tg w0 D cc W1 P w)(hb:aE w.heap.size w w'):Nm T Bb MB at_ B tg w0 D cc W1 P w':=by
 obtain⟨lv,f,g,d,j,e,o,t,u,v⟩:=h;exact⟨lv,f,g,d.grow hb,j.trans (hb.mono (by have:=(d.lo T (by rw[d.t1];decide));omega)),(hb.block D (ae e)).trans e,o,t.trans (Ext.of_below_size (M:=λ_=>lj) hb) (λq h=>h.elim),u,v⟩
theorem Nm.name (h:Nm T Bb MB at_ B tg w0 D cc W1 P w)(f v:aw)(hf:bu f)(J:bu v)(K:(f,v)∉P)(R:P.length+1<=30000):
  fj am 100 #[tr (tf ⟨T,0,th⟩),Z U f,Z U v] w λe w'=>e= tB (.tuple #[])/\Nm T Bb MB at_ B tg w0 D cc W1 (P++[(f,v)]) w':=by
 obtain⟨lv,tE,s',d,W,t,u,y,z,h7⟩:=h;refine(Ae w d (by omega) f v hf J R).mono ?_;rintro e w2 ⟨rfl,tD,A,s2,E,g,G,g4⟩;have hF:(λx=>if x=(f,v) then 2*(P.length:aw)+1 else aJ 0 P x)=aJ 0 (P++[(f,v)]):=by
  funext x
  rw[tu K,cI]
 have hN:2*(P.length:aw)+2=2*((P++[(f,v)]).length:aw):=by rw[bm,cj];omega
 rw[hF,hN] at E;refine⟨rfl,tD,A,s2,E,W.trans (g.below (by have:=(d.lo T (by rw[d.t1];decide));omega) (λq j=>(d.lo q j).1)),g.heap t (λe=>e u), ?_,y.trans g (λq j=>z q j),λk o=> ?_,λk o=> ?_⟩
 ·cases hz:A D with
  |zero=>rfl
  |succ q=>
   rcases G D (by omega) with e|e
   ·exact fz u e
   ·have:=ae t;omega
 ·rcases G k o with e|e
  ·exact z k e
  ·exact .inr (eN y.size e)
 ·have:=h7 k o
  rw[g4 k (by omega),this]
theorem EJ {x:Vr}{w:World}:∀(c:dl cw),c.size=3->(dd ⟨w.heap.size,0,th⟩ [tt x.ptr,tm x.tgt,Z U x.cls] 0).run am (w.alloc (tA c 34))= .ok () (w.alloc (tA #[tt x.ptr,tm x.tgt,Z U x.cls] 34)):=λc d=>
 cr (P:=am) w 34 c #[tt x.ptr,tm x.tgt,Z U x.cls] (by show _=tf 3;kernel_rfl) d (by simp[cn])
theorem Af {lv:cC fg×bj}{s:nz}(w:World)(g:Fn)(d:bj)(h:Wn T Bb MB lv P (2*(P.length:aw)) (aJ 0 P) [] [] at_ B tg s w)(ud:aE B w0 w)(hB:w0.heap.size=B)(ue:g.c.nvars=g.vs.length)(tM:aH Vr.cells 3 w0 w0.heap.size g.c.varsA g.vs)(we:g.vs.length<=400)(xT:d<=90000)(hP:∀x∈P,x.1<(d:aw))(hl:P.length+500<=30000):
  fj am 55 #[tr (tf ⟨T,0,th⟩),Z U (d:aw),tv g.c.cells] w λe w'=>e= tB (.tuple #[])/\∃wg,aV T Bb MB wg (P++cK (d:aw) g) (2*((P++cK (d:aw) g).length:aw)) (aJ 0 (P++cK (d:aw) g)) [] [] at_ B tg w w':=by
 obtain⟨D,hD⟩:=zE w.heap.size;have up:bu (d:aw):=by unfold bu;omega
 have tP:cg (cK (d:aw) g=bF (d:aw) 0 g.vs++(if g.c.rp=ti then[((d:aw),-1)] else[])):=rfl;obtain⟨⟨nm,wj,varsA,nvars,ur,rp,wk,wl,ws,xf,xj,xl,xo,xp⟩,vs,ya,yb⟩:=g;simp only at ue tM we tP⊢;subst ue;simp only[dP.cells];obtain⟨cc,E⟩:=zE (#[tm nm,Z U wj,tn varsA vs.length ur,tt rp,tm wk,Z U wl,tn ws xf xj,tn xl xp.length xo]:dl cw);obtain⟨W1,J⟩:=zE (w.alloc (tA cc 38));have K:=gy J;have uv:W1.heap[D]?=tf (tA cc 38 (0,0)):=by rw[<-J,<-hD];exact alloc_at _ _
 have ux:B<=w.heap.size:=by have:=(h.lo T (by rw[h.t1];decide));omega
 have hz:tg D=0:=by
  cases hz:tg D with
  |zero=>rfl
  |succ q=>have:=(h.lo D (by omega)).2;omega
 have vc:cg (Nm T Bb MB at_ B tg w0 D cc W1 (P++bF (d:aw) 0 (vs.take 0)) W1):=by
  unfold cg;rw[oS]
  show Nm T Bb MB at_ B tg w0 D cc W1 (P++[]) W1
  rw[eA];exact⟨lv,tg,s,h.grow K,ud.trans (K.mono ux),uv,hz,Ext.refl _ _,λk hk=> .inl hk,λ_ _=>rfl⟩
 have xr:cg (∀R w2,Nm T Bb MB at_ B tg w0 D cc W1 R w2->aV T Bb MB lv P 0 (λ_=>0) [] [] at_ B tg w2 w2\/True):=λ_ _ _=> .inr trivial;have vd:cg (∀R w2,Nm T Bb MB at_ B tg w0 D cc W1 R w2->w2.cell? ⟨D,2,th⟩=tf (tn varsA vs.length ur)/\w2.cell? ⟨D,3,th⟩=tf (tt rp)/\D<w2.heap.size/\aH Vr.cells 3 w2 B varsA vs):=λR w2 h2=>by
  obtain⟨yd,ye,s2,_,h4,W,_⟩:=h2;rw[<-E] at W;exact⟨(rowAt W 2 rfl).1,(rowAt W 3 rfl).1,ae W,aH.below (by rw[<-hB];exact tM) h4 (cd _)⟩
 have vf:cg (∀(v:aw)(l:bp (aw×aw)),(∀x∈l,x.1=(d:aw)/\x.2≠v)->((d:aw),v)∉P++l):=λv l xt f=>by
  rcases dg.1 f with f|f
  ·have:=hP _ f;simp at this
  ·exact(xt _ f).2 rfl
 have vh:cg (∀(j:bj)(x:aw×aw),j<=vs.length->x∈bF (d:aw) 0 (vs.take j)->x.1=(d:aw)/\0<=x.2/\x.2<(j:aw)):=λj x hj o=>by
  obtain⟨k,y,h1,_,rfl⟩:=gI.1 o;have:=(bo.1 h1).1;rw[ee] at this;exact⟨rfl,by simp,by simp;omega⟩
 have vm:cg (∀j,(bF (d:aw) 0 (vs.take j)).length<=vs.length):=λj=>eN (pE _ _) (by rw[ee];omega);have tD:=zH J;have vp:=zH K;obtain⟨k0,k1,k2,_⟩:=vd.out _ _ vc.out;clear h ud tM hP J K uv ux hz xr;rw[E];go_enter func55,ntmps55
 go_upto_region 1 with(fail)
 rw[<-E] at tD;(try rw[tD.out]);rw[E] at tD;(try rw[tD.out])
 go_upto_region 2 with(fail)
 clear k0 k1 k2
 go_loopw [11] (λkk wr=>∃j:bj,j<=vs.length/\kk= Z U (j:aw)/\Nm T Bb MB at_ B tg w0 D cc W1 (P++bF (d:aw) 0 (vs.take j)) wr) (λkk _=>vs.length-(dp kk).toNat)
 case atStart=>exact⟨0,cM _,rfl,vc.out⟩
 case round=>
  obtain⟨j,hj,rfl,f⟩:=hrel;have HM:=zH f;obtain⟨k0,k1,k2,k3⟩:=vd.out _ _ f
  by_cases z:j<vs.length
  ·obtain⟨x,o⟩:∃x,vs[j]?=tf x:=⟨_,ap z⟩
   have yi:(j:aw)<(vs.length:aw):=by omega
   obtain⟨b,yk,hA,yp,hc⟩:=k3 (by intro e;rw[e] at z;simp at z);have x0:=hc j x o 0 _ rfl;have x1:=hc j x o 1 _ rfl;have x2:=hc j x o 2 _ rfl;rw[i7] at x0;have yq:b<wr.heap.size:=by obtain⟨_,_,_,h1,h2,_⟩:=f;have:=(h1.lo T (by rw[h1.t1];decide));omega
   subst hA;have hst:=EJ (x:=x) (w:=wr);obtain⟨W2,tE⟩:=zE (wr.alloc (tA #[tt x.ptr,tm x.tgt,Z U x.cls] 34));have vq:=gy tE;have vr:W2.heap[wr.heap.size]?=tf (tA #[tt x.ptr,tm x.tgt,Z U x.cls] 34 (0,0)):=by rw[<-tE];exact alloc_at _ _
   have vt:=zH (f.grow vq);have tG:cg (bF (d:aw) 0 (vs.take (j+1))=bF (d:aw) 0 (vs.take j)++(if x.ptr=ti then[((d:aw),(j:aw))] else[])):=by
    unfold cg;rw[aS o,ng,cI,ee,ix (by omega)]
   have vu:=zH tE;have tR:=zH vr;have vx:=vm.out j;clear f hc k3 o vq vr tE;obtain⟨G,hG⟩:=zE wr.heap.size;rw[hG] at tR
   go_upto_region 4 with(fail)
   clear hst;(try rw[vu.out]);(try rw[hG]);have p0:=(rowAt tR.out 0 rfl).1;have yr:=ae tR.out;clear hG vu x0 x1 x2 k0 k1;cases u:x.ptr with
   |true=>
    rw[u] at p0;have t:=tG.out;rw[u,cH rfl] at t;have tS:=zH t;have tU:=zH (vt.out.name (d:aw) (j:aw) up (by unfold bu;omega) (vf.out (j:aw) _ (λy hy=>by have:=vh.out j y hj hy;exact⟨this.1,by omega⟩)) (by rw[bm];omega));clear t tG u
    go_wp2_with (go_at_call 100;refine tU.out.mono ?_;rintro e w3 ⟨rfl,A⟩;have tW:=zH A;clear A)
    go_roundw
    case rel=>exact⟨j+1,z,by go_num,by rw[tS.out,<-ei];exact tW.out⟩
    case measure=>simp[dp];omega
   |false=>
    rw[u] at p0;have t:=tG.out;rw[u,bw (by simp),eA] at t;have tS:=zH t;clear t tG u;go_wp2;go_roundw
    case rel=>exact⟨j+1,z,by go_num,by rw[tS.out];exact vt.out⟩
    case measure=>simp[dp];omega
  ·have ua:j=vs.length:=by omega
   have vy:cg (Nm T Bb MB at_ B tg w0 D cc W1 (P++bF (d:aw) 0 vs) wr):=by
    unfold cg;have:=HM.out;rw[ua,cL] at this;exact this
   have vx:=vm.out j;rw[ua,cL] at vx;have xF:cg (∀x∈bF (d:aw) 0 vs,x.1=(d:aw)/\x.2≠-1):=λx o=>by
    have:=vh.out vs.length x (cd _) (by rw[cL];exact o);exact⟨this.1,by omega⟩
   clear f ua k3;cases rp with
   |true=>
    have tU:=zH (vy.out.name (d:aw) (-1) up (by unfold bu;omega) (vf.out (-1) _ xF.out) (by rw[bm];omega))
    go_wp2_with (go_at_call 100;refine tU.out.mono ?_;rintro e w3 ⟨rfl,A⟩;have tW:=zH A;clear A)
    go_end0
    obtain⟨ub,uc,s3,q1,_,_,_,q5,q6,q7⟩:=tW.out;refine⟨rfl,ub, ?_⟩;rw[tP.out];simp only[lk,<-ei];exact aV.below vp.out ⟨uc,s3,q1,q5,q6,q7⟩
   |false=>
    go_wp2
    go_end0
    obtain⟨ub,uc,s3,q1,_,_,_,q5,q6,q7⟩:=vy.out;refine⟨rfl,ub, ?_⟩;rw[tP.out];simp only[if_false,nF,eA];exact aV.below vp.out ⟨uc,s3,q1,q5,q6,q7⟩
end
theorem BN {m:Mo}{g:Fn}(d:gZ m=0)(h:g∈m.fs):Fits g.c.ins g.vs.length:=by
 obtain⟨_,_,_,_,j,_⟩:=gX d;intro i hi;obtain⟨_,_,o,q,_⟩:=jC ((kE (j g h)).2.2.2.2.2 i hi);refine⟨λr d=>bJ.1 (o r d),λe=> ?_⟩;unfold az at e⊢
 by_cases f:qH i.op=ti
 ·rw[cH f];exact bJ.1 (q f)
 ·rw[bw f] at e;exact fz e (by simp)
theorem Ah {N:aw}{c:bp aw}(h:BI N c):c.all (bH N)=ti:=by
 rw[gn];intro x d;exact FQ (h.2.2 x d)
section
variable {T Bb MB:bj}{lv:cC fg×bj}{P:bp (aw×aw)}{N:aw}{F:aw×aw->aw}{C C2:bp (bp aw)}{Y Y2:bp (aw×aw)}{at_ at2:aw×aw}{B:bj}{tg:bj->bj}{s:nz}{w0:World}{TT RB hi:bj}{c:dP}{b:bj->bj->bj}
theorem xZ (w:World)(h:As T Bb MB lv P N F C Y at_ B tg s w0 TT RB c b hi w)(q:0<=N/\N<=9000000)(hF:∀x,0<=F x/\F x<=9000000)(f:aw)(hf:bu f)(j o:cC fg)(n1 n2 c1 c2:bj)(i:Ins)(g:cC fg)(gc:bj)(t:i.argsV= tn g i.args.length gc)(u:∃ao n cap,i.modeV= tn ao n cap)(tS:ak w0 g i.args)(tU:i.args.length<=40)(y:bu i.d)(z:bu i.a)(A:bu i.b)(tW:bu i.f)(k:bj)(E:k<c.ins.length)(G:c.ins.length<=90000)(J:c.nvars<=90000)(K:C.length+130<=1000000)(R:Y.length+130<=1000000)
  (h9:i.op=9->isVar c.nvars i.a=ti)(ua:i.op=11->isVar c.nvars i.b=ti)(ub:i.op=15->∀v∈i.args,isVar c.nvars v=ti)(W:∀x∈aA F f (aX b k) i,x.all (bH N)=ti):
  fj am 58 #[tv #[tr (tf ⟨T,0,th⟩),Z U f,tn j n1 c1,tn o n2 c2,tr (tf ⟨TT,0,th⟩)],tv i.cells,Z U (k:aw)] w λe w'=>e= tB (.tuple #[])/\aV T Bb MB lv P N F (C++aA F f (aX b k) i) (Y++(aA F f (aX b k) i).map λ_=>at_) at_ B tg w w':=by
 by_cases tG:i.op=12
 ·exact uQ w h q hF f hf j o n1 n2 c1 c2 i g gc t u y z A k E G J K R tG W
 by_cases tM:i.op=13
 ·exact uR w h q hF f hf j o n1 n2 c1 c2 i g gc t u y z A k E G J K R tM W
 by_cases e9:i.op=9
 ·exact xV w h q hF f hf j o n1 n2 c1 c2 i g gc t u y z A k E G J K R e9 (h9 e9) W
 by_cases tP:i.op=10
 ·exact uS w h q hF f hf j o n1 n2 c1 c2 i g gc t u y z A k E G J K R tP W
 by_cases e8:i.op=8
 ·exact xU w h q hF f hf j o n1 n2 c1 c2 i g gc t u y z A k E G J K R e8 W
 by_cases tD:i.op=11
 ·exact uT w h q hF f hf j o n1 n2 c1 c2 i g gc t u y z A k E G J K R tD (ua tD) W
 by_cases tE:i.op=15
 ·exact uU w h q hF f hf j o n1 n2 c1 c2 i g gc t u y z A k E G J K R tE tS tU tW (ub tE) W
 by_cases tR:i.op=18
 ·exact uV w h q hF f hf j o n1 n2 c1 c2 i g gc t u y z A k E G J K R tR W
 exact xW w h q hF f hf j o n1 n2 c1 c2 i g gc t u y z A k E G J K R ⟨tG,tM,e9,tP,e8,tD,tE,tR⟩
end
theorem yc (w:World):fj am 54 #[] w λe w'=>e= tB (tr (tf ⟨w.heap.size,0,th⟩))/\w.alloc (tA #[Z U 0,tn th 0 0] 191)=w':=by
 go_enter func54,ntmps54;go_wp2;go_ret;exact⟨rfl,rfl⟩
section
variable {T Bb MB:bj}{lv:cC fg×bj}{P:bp (aw×aw)}{N:aw}{F:aw×aw->aw}{C C2:bp (bp aw)}{Y Y2:bp (aw×aw)}{at_ at2:aw×aw}{B:bj}{tg:bj->bj}{s:nz}{w0 w w' W1:World}
def Wo (T Bb MB:bj)(lv:cC fg×bj)(P:bp (aw×aw))(N:aw)(F:aw×aw->aw)(B:bj)(w0:World)(C:bp (bp aw))(Y:bp (aw×aw))(at_:aw×aw)(w:World):Prop:=
 ∃tg s,Wn T Bb MB lv P N F C Y at_ B tg s w/\aE B w0 w
theorem Wo.grow (h:Wo T Bb MB lv P N F B w0 C Y at_ w)(hb:aE w.heap.size w w'):Wo T Bb MB lv P N F B w0 C Y at_ w':=by
 obtain⟨tg,s,d,e⟩:=h;exact⟨tg,s,d.grow hb,e.trans (hb.mono (by have:=(d.lo T (by rw[d.t1];decide));omega))⟩
theorem Wo.of {e:cC fg×bj}{f:bp (aw×aw)}{g:aw}{F2:aw×aw->aw}(h:aE B w0 w)(d:Wn T Bb MB lv P N F C Y at_ B tg s w)(j:aV T Bb MB e f g F2 C2 Y2 at2 B tg w w'):Wo T Bb MB e f g F2 B w0 C2 Y2 at2 w':=by
 obtain⟨o,t,u,v,y,z⟩:=j;exact⟨o,t,u,h.trans (v.below (by have:=(d.lo T (by rw[d.t1];decide));omega) (λq x=>(d.lo q x).1))⟩
theorem F7 (x y:aw)(h:Wn T Bb MB lv P N F C Y at_ B tg s w):Wn T Bb MB lv P N F C Y (x,y) B tg s ((w.setCell ⟨T,4,th⟩ (Z U x)).setCell ⟨T,5,th⟩ (Z U y))/\Ext (·=T) w ((w.setCell ⟨T,4,th⟩ (Z U x)).setCell ⟨T,5,th⟩ (Z U y)):=by
 have d:Ext (·=T) w ((w.setCell ⟨T,4,th⟩ (Z U x)).setCell ⟨T,5,th⟩ (Z U y)):=aa (aa (Ext.refl _ _) _) _;have q:=h.t1;have g:∀k,tg k≠1->¬k=T:=λk j e=>j (by rw[e];exact q);refine⟨⟨?_,d.heap h.bld (g _ (by rw[h.t2];decide)),h.map.ext d (g _ (by rw[h.t3];decide)),ah h.lrow d (λk f=>g k (by rw[h.t4 k f];decide)),ah h.frow d (λk f=>g k (by rw[h.t5 k f];decide)),ah h.yrow d (λk f=>g k (by rw[h.t6 k f];decide)),⟨h.cls.1,λk c t=> ?_⟩,h.t1,h.t2,h.t3,h.t4,h.t5,h.t6,λk f=>⟨(h.lo k f).1,cD (h.lo k f).2 d.size⟩,h.lP,h.lC,h.lY⟩,d⟩
 ·exact bk _ T 5 _ _ _ (bk w T 4 _ _ _ h.row)
 ·obtain⟨ao,cap,j,u,o⟩:=h.cls.2 k c t
  exact⟨ao,cap,j,dS u d (λa v e=>g _ (by rw[o v a e];decide)),o⟩
end
section
variable {T Bb MB:bj}{lv:cC fg×bj}{P:bp (aw×aw)}{N:aw}{F:aw×aw->aw}{C C2:bp (bp aw)}{Y Y2:bp (aw×aw)}{at_ at2:aw×aw}{B:bj}{tg:bj->bj}{s:nz}{w0 w w' W1:World}{L:bp (bj×Obj)}{TT RB hi:bj}{c:dP}{b:bj->bj->bj}
def Kept (L:bp (bj×Obj))(tg:bj->bj)(w:World):Prop:=∀x∈L,w.heap[x.1]?=tf x.2/\tg x.1=0
theorem Kept.grow (h:Kept L tg w)(hb:aE w.heap.size w w'):Kept L tg w':=λx d=>⟨(hb.block x.1 (ae (h x d).1)).trans (h x d).1,(h x d).2⟩
theorem Kept.mv {d:bj->bj}(h:Kept L tg w)(j:Ext (λq=>tg q≠0) w w')(o:∀k,d k≠0->tg k≠0\/w.heap.size<=k):Kept L d w':=λx t=>by
 obtain⟨f,g⟩:=h x t;refine⟨j.heap f (λe=>e g), ?_⟩;cases u:d x.1 with
 |zero=>rfl
 |succ q=>
  rcases o x.1 (by omega) with e|e
  ·exact fz g e
  ·have:=ae f;omega
theorem yf (h:Wn T Bb MB lv P N F C Y at_ B tg s w){k:bj}(d:w.heap.size<=k):tg k=0:=by
 cases e:tg k with
 |zero=>rfl
 |succ q=>have:=(h.lo k (by omega)).2;omega
def mJ (T Bb MB:bj)(lv:cC fg×bj)(P:bp (aw×aw))(N:aw)(F:aw×aw->aw)(B:bj)(w0:World)(L:bp (bj×Obj))(C:bp (bp aw))(Y:bp (aw×aw))(at_:aw×aw)(w:World):Prop:=
 ∃tg s,Wn T Bb MB lv P N F C Y at_ B tg s w/\aE B w0 w/\Kept L tg w
theorem Dv (h:Wn T Bb MB lv P N F C Y at_ B tg s w):B<=w.heap.size:=by have:=(h.lo T (by rw[h.t1];decide));omega
theorem mJ.grow (h:mJ T Bb MB lv P N F B w0 L C Y at_ w)(hb:aE w.heap.size w w'):mJ T Bb MB lv P N F B w0 L C Y at_ w':=by
 obtain⟨tg,s,d,e,f⟩:=h;exact⟨tg,s,d.grow hb,e.trans (hb.mono (Dv d)),f.grow hb⟩
theorem mJ.of {tg:bj->bj}{s:nz}(d:Wn T Bb MB lv P N F C Y at_ B tg s w)(f:aE B w0 w)(g:Kept L tg w)(h:aV T Bb MB lv P N F C2 Y2 at2 B tg w w'):mJ T Bb MB lv P N F B w0 L C2 Y2 at2 w':=by
 obtain⟨j,o,t,e,u,x⟩:=h;exact⟨j,o,t,f.trans (e.below (Dv d) (λq v=>(d.lo q v).1)),g.mv e u⟩
theorem Wo.kept (h:Wo T Bb MB lv P N F B w0 C Y at_ w)(hb:aE w.heap.size w w'){k:bj}{o:Obj}(f:w.heap.size<=k)(g:w'.heap[k]?=tf o):mJ T Bb MB lv P N F B w0 [(k,o)] C Y at_ w':=by
 obtain⟨tg,s,d,j⟩:=h;refine⟨tg,s,d.grow hb,j.trans (hb.mono (Dv d)),λx e=> ?_⟩;rw[cP] at e;subst e;exact⟨g,yf d f⟩
theorem mJ.wo (h:mJ T Bb MB lv P N F B w0 L C Y at_ w):Wo T Bb MB lv P N F B w0 C Y at_ w:=by
 obtain⟨tg,s,d,e,_⟩:=h;exact⟨tg,s,d,e⟩
theorem mJ.setAt (x y:aw)(h:mJ T Bb MB lv P N F B w0 L C Y at_ w):mJ T Bb MB lv P N F B w0 L C Y (x,y) ((w.setCell ⟨T,4,th⟩ (Z U x)).setCell ⟨T,5,th⟩ (Z U y)):=by
 obtain⟨tg,s,d,g,j⟩:=h;obtain⟨o,f⟩:=F7 x y d;exact⟨tg,s,o,g.trans (f.below (Dv d) (λq e=>by rw[e];exact(d.lo T (by rw[d.t1];decide)).1)),j.mv (f.mono (λq e=>by rw[e,d.t1];decide)) (λk t=> .inl t)⟩
theorem mJ.row (h:mJ T Bb MB lv P N F B w0 L C Y at_ w):(w.cell? ⟨T,4,th⟩=tf (Z U at_.1)/\w.frozen? ⟨T,4,th⟩=tj)/\(w.cell? ⟨T,5,th⟩=tf (Z U at_.2)/\w.frozen? ⟨T,5,th⟩=tj)/\T<w.heap.size/\w.cell? ⟨T,1,th⟩=tf (tn lv.1 P.length lv.2)/\w.cell? ⟨T,2,th⟩=tf (.map (tf MB)):=by
 obtain⟨tg,s,d,_⟩:=h;exact⟨rowAt d.row 4 rfl,rowAt d.row 5 rfl,ae d.row,(rowAt d.row 1 rfl).1,(rowAt d.row 2 rfl).1⟩
theorem mJ.keeps (h:mJ T Bb MB lv P N F B w0 L C Y at_ w){k:bj}{o:Obj}(d:(k,o)∈L):w.heap[k]?=tf o:=by
 obtain⟨tg,s,_,_,e⟩:=h;exact(e _ d).1
theorem mJ.put (h:mJ T Bb MB lv P N F B w0 L C Y at_ w)(f:0<=N/\N<=9000000)(ao:cC fg)(xs:bp aw)(cap:bj)(g:ak w ao xs)(j:xs.all (bH N)=ti)(o:xs.length<=80000)(q:C.length+1<=1000000)(t:Y.length+1<=1000000):
  fj am 56 #[tr (tf ⟨T,0,th⟩),tn ao xs.length cap] w λe w'=>e= tB (.tuple #[])/\mJ T Bb MB lv P N F B w0 L (C++[xs]) (Y++[at_]) at_ w':=by
 obtain⟨tg,s,d,u,v⟩:=h;refine(iP w d f ao xs cap g j o q t).mono ?_;rintro e w2 ⟨rfl,x⟩;exact⟨rfl,mJ.of d u v x⟩
theorem mJ.look (h:mJ T Bb MB lv P N F B w0 L C Y at_ w){f v:aw}(hf:bu f)(d:bu v):(mx 118 (.map (tf MB)) (tv #[Z U f,Z U v]) tj).run am w= .ok (Z U (F (f,v))) w:=by
 obtain⟨tg,s,e,_⟩:=h;exact e.map.look hf d
theorem mJ.lrow (h:mJ T Bb MB lv P N F B w0 L C Y at_ w)(f:P≠[]):∃g,lv.1=tf ⟨g,0,th⟩:=by
 obtain⟨tg,s,j,_⟩:=h;obtain⟨q,o⟩:∃q,P.length=q+1:=⟨P.length-1,by have:=kq.2 f;omega⟩
 have e:=j.lrow;rw[o] at e;rcases e.2 with⟨_,d⟩|⟨g,cap,t,d,_⟩
 ·cases d
 ·simp only[fy] at d
  exact⟨g,d.1⟩
theorem mJ.lcell (h:mJ T Bb MB lv P N F B w0 L C Y at_ w){g i:bj}{p:aw×aw}(j:lv.1=tf ⟨g,0,th⟩)(o:P[i]?=tf p):w.cell? ⟨g,i*2+0,th⟩=tf (Z U p.1)/\w.cell? ⟨g,i*2+1,th⟩=tf (Z U p.2)/\g<w.heap.size:=by
 obtain⟨tg,s,q,_⟩:=h;have d:=q.lrow;rw[j] at d;have t:∀(l:bp (aw×aw))(i:bj)(p:aw×aw),l[i]?=tf p->(l.flatMap oJ)[i*2+0]?=tf (Z U p.1)/\(l.flatMap oJ)[i*2+1]?=tf (Z U p.2):=by
  intro l
  induction l with
  |nil=>intro i p hi;simp at hi
  |cons x r ih=>
   intro i p hi;cases i with
   |zero=>
    obtain rfl:x=p:=by simpa using hi
    exact⟨rfl,rfl⟩
   |succ i=>
    obtain⟨e,f⟩:=ih i p (by simpa using hi);rw[fm];refine⟨?_, ?_⟩
    ·rw[gA (by simp[oJ];omega),show(i+1)*2+0-(oJ x).length=i*2+0 by simp[oJ];omega];exact e
    ·rw[gA (by simp[oJ];omega),show(i+1)*2+1-(oJ x).length=i*2+1 by simp[oJ];omega];exact f
 obtain⟨e,f⟩:=t P i p o;have c1:=d.cells (g:=g) rfl _ _ e;have c2:=d.cells (g:=g) rfl _ _ f;rw[cU] at c1 c2;refine⟨by simpa using c1,by simpa using c2, ?_⟩;exact(ai d (k:=g) rfl).2
def Ap (T Bb MB:bj)(lv:cC fg×bj)(P:bp (aw×aw))(N:aw)(F:aw×aw->aw)(B:bj)(w0:World)(TT RB:bj)(c:dP)(b:bj->bj->bj)(hi:bj)(L:bp (bj×Obj))(C:bp (bp aw))(Y:bp (aw×aw))(at_:aw×aw)(w:World):Prop:=
 ∃tg s,As T Bb MB lv P N F C Y at_ B tg s w0 TT RB c b hi w/\Kept L tg w
theorem Ap.woL (h:Ap T Bb MB lv P N F B w0 TT RB c b hi L C Y at_ w):mJ T Bb MB lv P N F B w0 L C Y at_ w:=by
 obtain⟨tg,s,d,e⟩:=h;exact⟨tg,s,d.wn,d.lo,e⟩
theorem Ap.grow (h:Ap T Bb MB lv P N F B w0 TT RB c b hi L C Y at_ w)(hb:aE w.heap.size w w'):Ap T Bb MB lv P N F B w0 TT RB c b hi L C Y at_ w':=by
 obtain⟨tg,s,d,e⟩:=h;exact⟨tg,s,d.grow hb,e.grow hb⟩
theorem Ap.setAt (x y:aw)(h:Ap T Bb MB lv P N F B w0 TT RB c b hi L C Y at_ w):Ap T Bb MB lv P N F B w0 TT RB c b hi L C Y (x,y) ((w.setCell ⟨T,4,th⟩ (Z U x)).setCell ⟨T,5,th⟩ (Z U y)):=by
 obtain⟨tg,s,d,o⟩:=h;obtain⟨t,g⟩:=F7 x y d.wn;have j:Ext (λq=>tg q≠0) w _:=g.mono (λq e=>by rw[e,d.wn.t1];decide);exact⟨tg,s,⟨t,d.tz.mv j (λk f=> .inl f),d.lo.trans (g.below (Dv d.wn) (λq e=>by rw[e];exact(d.wn.lo T (by rw[d.wn.t1];decide)).1)),d.hB⟩,o.mv j (λk f=> .inl f)⟩
theorem Ap.of {tg:bj->bj}{s:nz}(d:As T Bb MB lv P N F C Y at_ B tg s w0 TT RB c b hi w)(e:Kept L tg w)(f:aV T Bb MB lv P N F C2 Y2 at2 B tg w w'):Ap T Bb MB lv P N F B w0 TT RB c b hi L C2 Y2 at2 w':=by
 obtain⟨g,h,j,o,q,_⟩:=d.mv f;exact⟨g,h,j,e.mv o q⟩
theorem mJ.table2 (h:mJ T Bb MB lv P N F B w0 L C Y at_ w)(j:w0.heap.size=B)(hb:aE w.heap.size w w')(q:w.heap.size<=TT)(y:w.heap.size<=RB)(e:mf w' TT RB c b){A:bj}{o:Obj}(t:w.heap.size<=A)(u:w'.heap[A]?=tf o):Ap T Bb MB lv P N F B w0 TT RB c b w'.heap.size [(A,o)] C Y at_ w':=by
 obtain⟨tg,s,d,v,z⟩:=h;refine⟨tg,s,⟨d.grow hb,⟨e, ?_, ?_,cd _,yf d q,λk E _=>yf d (by omega)⟩,v.trans (hb.mono (Dv d)),j⟩,λx g=> ?_⟩
 ·obtain⟨_,f⟩:=e.tab
  exact ae f
 ·by_cases h0:c.ins.length=0
  ·rw[h0,i7];exact ae e.behind
  ·obtain⟨G,f,_⟩:=e.words (c.ins.length-1) (by omega)
   have:=ae f;omega
 ·rw[cP] at g
  subst g;exact⟨u,yf d t⟩
end
theorem EK {i:Ins}(d:i.ok){w:World}:∀(c:dl cw),c.size=13->(dd ⟨w.heap.size,0,th⟩ i.cells.toList 0).run am (w.alloc (tA c 42))= .ok () (w.alloc (tA i.cells 42)):=λc e=>by
 obtain⟨⟨ao,cap,f⟩,h,n2,j,g⟩:=d;exact cr (P:=am) w 42 c i.cells (by show _=tf 13;kernel_rfl) e (by simp[Ins.cells,f,g,cn])
theorem EL {f v:aw}{w:World}:∀(c:dl cw),c.size=2->(dd ⟨w.heap.size,0,th⟩ [Z U f,Z U v] 0).run am (w.alloc (tA c 121))= .ok () (w.alloc (tA #[Z U f,Z U v] 121)):=λc d=>
 cr (P:=am) w 121 c #[Z U f,Z U v] (by show _=tf 2;kernel_rfl) d (by simp[cn])
end Go.Proofs.YtjomgckjhcfbgaaGreat
