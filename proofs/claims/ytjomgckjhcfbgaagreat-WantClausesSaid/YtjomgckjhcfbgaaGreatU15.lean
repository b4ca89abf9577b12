/- Walks. -/
import Derived.Deep.RegionHeld3
import Derived.Deep.DeepCutAuto
import Derived.WalkMore
import Derived.Test.YtjomgckjhcfbgaaGreatU14
set_option maxRecDepth 100000
set_option maxHeartbeats 64000000
set_option linter.all false
namespace Go.Proofs.YtjomgckjhcfbgaaGreat
open Go.RowKit
open Go.Proofs.Tryz renaming prog→am,underlying42→cD
open _root_.List renaming getElem?_eq_getElem→ap,getElem?_eq_some_iff→bl,mem_of_getElem?→cd,take_length→cR,mem_append→cX,take_add_one→ju,foldl_append→jx
open Go.RowKit.Below renaming refl→aq,heap_alloc→cJ
open _root_ renaming Int→aw,Nat→bh,List→bj,if_neg→bx,decide_eq_false→cv,if_pos→cI,decide_eq_true→cV,absurd→fL,if_true→lj,False→me,Bool→mm
open Go.RowKit renaming Below→aE,Hid→cj,intOf→de
open _root_.Array renaming getElem?_eq_some_iff→br,getElem?_eq_getElem→mx
open Go renaming cell_of_row→bw,Value→cA,frozen_of_row→ei,Addr→fS,Calls→ge,below_drewN→hU
open _root_.Nat renaming le_refl→cg,lt_of_lt_of_le→cH,zero_add→cL,zero_le→cN,le_trans→eJ,lt_of_le_of_lt→my,le_of_lt→nx
open _root_.Option.some renaming inj→cE
open Go.Addr renaming add_lit→cY
open _root_.Int renaming toNat_natCast→eW
open _root_.Bool renaming or_eq_true→js,true→tP,false→tR
open Go.Exit renaming noGoto_ret→ml
open Go.Ending renaming returned→qt,returned→ud
open _root_.Option renaming some→tG,none→tM
open Go.Value renaming string→tS,slice→tU,pointer→tW,bool→ua,agg→ub,int→Z
open Go.Obj renaming cells→uc
open Go.IntKind renaming i64→U
open Tryz
theorem fQ.cells {w:World}{T d RB k:bh}{c:dx}{a b:bh->bh->bh}(h:fQ w T d RB k c a b){q:bh}{v:cA}(e:(ig c d RB)[q]?=tG v):w.cell? ⟨T,q,tM⟩=tG v:=by
 rw[bw _ _ _ _ _ _ h.tab];exact e
def Jf (d:World)(G k:bh)(f:bh->bh)(l:bj bh)(c:cA)(wr:World):Prop:=
 ∃q:bh,q<=l.length/\c= Z U (q:aw)/\bW wr G k ((l.take q).foldl ru f)/\Ext (·=G) d wr
theorem CZ (w:World)(T o RB k x:bh)(c:dx)(a b:bh->bh->bh)(i:Ins)(h:fQ w T o RB k c a b)(hi:c.ins[x]?=tG i)(vc:c.inn w)(hl:i.args.length<=40)(hn:c.ins.length<=90000)(G:k<=90000)
  (vq:(∀r∈readsOf i,0<=r/\r<((64*k:bh):aw))/\((az i).2=tP->0<=(az i).1/\(az i).1<((64*k:bh):aw)))(hb:∀y j,b y j<18446744073709551616):
  ge am 104 #[tW (tG ⟨T,0,tM⟩),Z U (x:aw)] w (Stepped w T o RB k c a b x i):=by
 have E:x<c.ins.length:=(bl.1 hi).1;have AM:(x:aw)<(c.ins.length:aw):=by omega
 obtain⟨R,vd,hA,AN,xT⟩:=vc.row (by intro e;rw[e] at E;simp at E);have AS:T<w.heap.size:=(br.1 h.tab).1;have AT:RB<w.heap.size:=(br.1 h.behind).1;have AW:o<w.heap.size:=by obtain⟨A0,h1,_⟩:=h.ahead;exact(br.1 h1).1
 have C6:=(h.words x E).lt;have yb:RB+c.ins.length<w.heap.size:=by have:=(h.words (c.ins.length-1) (by omega)).lt;omega
 have HK:cj (∀W,aE w.heap.size w W->W.cell? ⟨T,7,tM⟩=tG (tU (tG ⟨R,vd,tM⟩) c.ins.length c.insC)/\W.cell? ⟨T,8,tM⟩=tG (tU (tG ⟨o,0,tM⟩) c.ins.length c.ins.length)/\W.cell? ⟨T,9,tM⟩=tG (tU (tG ⟨RB,0,tM⟩) c.ins.length c.ins.length)/\
   W.cell? ⟨RB,x,tM⟩=tG (tU (tG ⟨RB+1+x,0,tM⟩) k k)/\bW W (RB+1+x) k (b x)/\fQ W T o RB k c a b/\c.inn W/\W.frozen? ⟨o,x,tM⟩=tR/\(∃v,W.cell? ⟨o,x,tM⟩=tG v)/\
   ∀j u,i.cells.toList[j]?=tG u->W.cell? ((⟨R,vd+x*13,tM⟩:fS).add j)=tG u):=by
  intro W hW;have A:fQ W T o RB k c a b:=h.keep (Ext.of_below_size hW) (λ_ h=>h);obtain⟨A0,q1,q2,q3⟩:=A.ahead;obtain⟨g,cp,q4,_,_⟩:=q3 x E;refine⟨A.cells (by rw[<-hA];rfl),A.cells rfl,A.cells rfl, ?_,A.words x E,A,vc.below hW,ei _ _ _ _ _ q1,⟨_,by rw[bw _ _ _ _ _ _ q1];exact q4⟩,λj u hu=> ?_⟩
  ·rw[bw _ _ _ _ _ _ A.behind,eG _ _ _ E,cI E]
  ·rw[cY,hW.cell (p:=⟨R,_,tM⟩) AN];exact xT x i hi j u hu
 have HI:=zH hi;have yd:=vc.args i (cd hi);have vr:=zH yd;obtain⟨n,ue⟩:=zE c.ins.length;rw[ue] at E AM hn yb;have A1:=zH ue;have ye:=zH vq.1;have vf:=zH vq.2;have HB:=zH hb;have HP:cj (∀g cp e w',¬EF T o RB n g->w.heap.size<=g->aE w.heap.size w w'->bW w' g k (stepW i (b x))->e=qt (ua (decide (0<dY k (stepW i (b x)))))->Stepped w T o RB k c a b x i e (w'.setCell ⟨o,x,tM⟩ (tU (tG ⟨g,0,tM⟩) k cp))):=by
  intro g cp e w' hg yi yk hr he;refine⟨he, ?_,((Ext.of_below_size yk:Ext (λ_=>me) w w').mono (λ_ h=>h.elim)).trans (Ext.set1 _ _ _ _) (λ_ h=> .inl h)⟩;have A:=h.keep (Ext.of_below_size yk) (λ_ h=>h);exact A.put (by omega) (by rw[ue];exact hg) hr
 obtain⟨k7,k8,k9,kb,kr,_⟩:=HK.out w (aq _ _);rw[ue] at k7 k8 k9;have KR:=zH kr;obtain⟨N,J⟩:=zE w.heap.size;obtain⟨I,hI⟩:=zE i;rw[hI] at vr ye vf HP HI;have A2:=zH hI;have yp:I.args.length<=40:=by rw[<-hI];exact hl
 obtain⟨⟨⟨vt,vu,e1⟩,vx,n2,vy,e2⟩,_⟩:=yd;obtain⟨op,d,ia,ib,f,nn,we,C7,Dd,wg,wj,ln,cl,args⟩:=i;simp only at e1 e2 hl;subst e1 e2;have A3:cj (∀W,aE w.heap.size w W->∀j u,(⟨op,d,ia,ib,f,nn,we,tU vt args.length vu,tU vx n2 vy,wg,wj,ln,cl,args⟩:Ins).cells.toList[j]?=tG u->W.cell? ((⟨R,vd+x*13,tM⟩:fS).add j)=tG u):=λW hW=>(HK.out W hW).2.2.2.2.2.2.2.2.2;obtain⟨W1,up⟩:=zE (w.alloc (uc #[Z U op,Z U d,Z U ia,Z U ib,Z U f,Z U nn,tS we,tU vt args.length vu,tU vx n2 vy,Z U wg,Z U wj,Z U ln,Z U cl] 42));have vh:=iR up J;have yq:W1.heap.size=N+1:=by rw[<-up];simp[J]
 have yr:W1.heap[N]?=tG (uc I.cells 42 (0,0)):=by
  rw[<-up,<-J,<-hI];exact alloc_at _ _
 have HX:cj (∀W,Ext (λq=>N+1<=q) W1 W->aE N w W/\(∀j u,I.cells.toList[j]?=tG u->W.cell? ((⟨N,0,tM⟩:fS).add j)=tG u)/\N+1<=W.heap.size):=by
  intro W hx;have h4:=hx.heap yr (by omega);have A4:aE N w W:=vh.trans ((hx.below (B:=N+1) (by omega) (λk G=>G)).mono (by omega));refine⟨A4,λj u hu=> ?_,(br.1 h4).1⟩;rw[cY,cL,bw _ _ _ _ _ _ h4];simpa using hu
 have A5:=zH up;have yv:=zH yq;have Dg:=zH vh;have yy:bW W1 (RB+1+x) k (b x):=KR.out.below vh (by omega);have A6:=zH yy;rw[J] at AS AT AW yb;clear h hi vc hA xT ue vq hb kr up yq vh yr hI yy;go_enter func104,ntmps104
 go_upto_region 3 with(first|(refine au rfl 42 _ rfl ⟨R,vd+x*13,tM⟩ rfl (⟨op,d,ia,ib,f,nn,we,tU vt args.length vu,tU vx n2 vy,wg,wj,ln,cl,args⟩:Ins).cells _ (A3.out _ (aq _ _)) cD rfl (by kernel_rfl) ?_;simp only[Ins.cells])|(go_at_call 141;rw[A5.out];refine(tV _ (RB+1+x) k k (b x) A6.out G).mono ?_;rintro e w2 ⟨g,cp,rfl,hg,wk,wl⟩))
 clear k7 k8 k9 kb;rw[yv.out] at hg wl;have vm:Ext (λq=>N+1<=q) W1 w2:=Ext.of_below_size (by rw[yv.out];exact wl);have Bk:=zH vm;have Bm:=zH wk;have Bs:=zH (HX.out w2 vm).2.1;have Do:=(HX.out w2 vm).2.2;have yi:g<w2.heap.size:=wk.lt;have ws:=zH (lK I w2 vr.out.1);clear vm wk wl;obtain⟨wd,xf⟩:=zE (az I);rw[xf] at ws vf;have By:=zH xf;clear xf;obtain⟨dv,wb⟩:=wd;simp only at ws vf
 go_upto_if 32 with(first|(refine au rfl 42 _ rfl ⟨N,0,tM⟩ rfl I.cells _ Bs.out cD rfl (by kernel_rfl) ?_)|(go_at_call 142;refine ws.out.mono ?_;rintro e w3 ⟨rfl,vp⟩))
 have yW:Ext (λq=>N+1<=q) W1 w3:=Bk.out.trans (Ext.of_below_size vp:Ext (λ_=>me) w2 w3) (λ_ h=>h.elim);have zc:bW w3 g k (b x):=Bm.out.below vp yi;have zj:=zH zc;have zp:=zH yW;have Ds:=vp.size;clear yW zc vp;obtain⟨f1,t⟩:∃f1,f1=(if (az I).2=tP then AV (b x) (az I).1.toNat else b x):=⟨_,rfl⟩
 have BE:=zH t;have BT:cj (∀p,f1 p<18446744073709551616):=by
  rw[t];intro p
  split
  ·exact AX (HB.out x) _ p
  ·exact HB.out x p
 rw[By.out] at t
 go_cut [] (λwc=>bW wc g k f1/\Ext (λq=>N+1<=q) W1 wc/\g<wc.heap.size)
 case first=>
  cases wb with
  |true=>
   simp only[lj] at t;obtain⟨h0,h1⟩:=vf.out rfl;obtain⟨dn,rfl⟩:∃dn:bh,dv=(dn:aw):=⟨dv.toNat,by omega⟩
   simp only[eW] at t;have BY:=zH (vD w3 g k cp dn (b x) zj.out (HB.out x) (by omega) G);have xj:=zH t;clear t h0 h1
   go_wp2_with (go_at_call 143;refine BY.out.mono ?_;rintro e w4 ⟨rfl,zs,ur⟩)
   go_meet
   case rel=>exact⟨by rw[xj.out];exact zs,zp.out.trans ur (λq hq=> .inl (by omega)),zs.lt⟩
  |false=>
   simp only[bx (show¬(tR=tP) by decide)] at t;have xj:=zH t;clear t;go_wp2
   go_meet
   case rel=>exact⟨by rw[xj.out];exact zj.out,zp.out,by omega⟩
 case rest=>
  obtain⟨zv,xo,DA⟩:=hcut;obtain⟨An,At,DB⟩:=HX.out wc xo;have B5:=zH (nu I wc (vr.out.below (by rw[J];exact An)) yp);have B6:=zH At;have B7:=zH zv;have B8:=zH xo;clear zv xo An At t
  go_wp2_with (first|(refine au rfl 42 _ rfl ⟨N,0,tM⟩ rfl I.cells _ B6.out cD rfl (by kernel_rfl) ?_)|(go_at_call 144;refine B5.out.mono ?_;rintro e w4 ⟨DE,DG,rfl,Ax,AD⟩))
  have ur:Ext (λ_=>me) wc w4:=Ext.of_below_size AD;have B9:=zH Ax;have AE:=zH (B7.out.ext ur (λh=>h));have Cd:cj (Ext (λq=>N+1<=q) W1 w4):=B8.out.trans ur (λ_ h=>h.elim);have DH:=AE.out.lt;have DM:(readsOf I).length<=42:=lL I yp;obtain⟨rs,xp⟩:∃rs,rs=(readsOf I).map Int.toNat:=⟨_,rfl⟩
  have DO:rs.length=(readsOf I).length:=by rw[xp];simp
  have AF:=zH xp;clear Ax AD ur xp
  go_loopw [39] (λc wr=>Jf w4 g k f1 rs c wr) (λc _=>(readsOf I).length-(de c).toNat)
  case atStart=>exact⟨0,cN _,rfl,by simpa using AE.out,Ext.refl _ _⟩
  case round=>
   obtain⟨q,hq,rfl,uv,ux⟩:=hrel
   by_cases Cl:q<(readsOf I).length
   ·obtain⟨z,hz⟩:∃z,(readsOf I)[q]?=tG z:=⟨_,ap Cl⟩
    obtain⟨h0,h1⟩:=ye.out z (cd hz);obtain⟨K,rfl⟩:∃K:bh,z=(K:aw):=⟨z.toNat,by omega⟩
    obtain⟨g2,rfl,DP,Cp,AH⟩:=B9.out.shape (by omega);have DQ:wr.cell? ⟨g2,q,tM⟩=tG (Z U (K:aw)):=by rw[ux.cell (a:=⟨g2,q,tM⟩) Cp (by show¬g2=g;omega)];exact AH q _ hz
    have DS:(q:aw)<((readsOf I).length:aw):=by omega
    have CA:=zH (yI wr g k cp K ((rs.take q).foldl ru f1) uv (tK _ BT.out) (by omega) G);have CC:cj ((rs.take (q+1)).foldl ru f1=ru ((rs.take q).foldl ru f1) K):=by
     unfold cj;have e:rs[q]?=tG K:=by rw[AF.out];simp[hz]
     rw[ju,e,jx];rfl
    have CD:=zH ux;clear hz h0 h1 AH uv ux
    go_wp2_with (go_at_call 145;refine CA.out.mono ?_;rintro e w5 ⟨rfl,CH,CM⟩)
    go_roundw
    case rel=>exact⟨q+1,by omega,by go_num,by rw[CC.out];exact CH,CD.out.trans CM (λ_ h=> .inl h)⟩
    case measure=>simp[de];omega
   ·have CN:q=rs.length:=by omega
    subst CN;rw[cR] at uv;have xt:bW wr g k (stepW I (b x)):=by
     have e:stepW I (b x)=rs.foldl ru f1:=by rw[AF.out,BE.out];rfl
     rw[e];exact uv
    have AI:Ext (λq=>N+1<=q) W1 wr:=Cd.out.trans ux (λp hp=> .inl (by omega));obtain⟨AK,_,D0⟩:=HX.out wr AI;have xF:aE w.heap.size w wr:=by rw[J];exact AK
    obtain⟨_,k8,_,_,_,_,_,kf,⟨kv,kc⟩,_⟩:=HK.out wr xF;rw[A1.out] at k8;have CT:cj (bW (wr.setCell ⟨o,x,tM⟩ (tU (tG ⟨g,0,tM⟩) k cp)) g k (stepW I (b x))):=xt.ext (Ext.set1 _ _ _ _) (by show¬g=o;omega);have C4:=zH (tF (wr.setCell ⟨o,x,tM⟩ (tU (tG ⟨g,0,tM⟩) k cp)) g k cp (stepW I (b x)) CT.out (lZ I (HB.out x)) G);have C5:=zH (HP.out g cp _ wr (by unfold EF;omega) (by omega) xF xt rfl);clear uv ux xt AI AK xF
    go_wp2_with (go_at_call 146;refine C4.out.mono ?_;rintro e w6 ⟨rfl,rfl⟩)
    go_ret;rw[A2.out];exact C5.out
theorem fQ.init {w:World}{T d RB k:bh}{c:dx}(f:w.heap[T]?=tG (uc (ig c d RB) 196 (0,0)))
  (g:w.heap[d]?=tG (uc (dZ c.ins.length k d c.ins.length) 199 (0,0)))(h:∀i,i<c.ins.length->w.heap[d+1+i]?=tG (uc (dK k (λ_=>0)) 245 (0,0)))
  (j:w.heap[RB]?=tG (uc (dZ c.ins.length k RB c.ins.length) 199 (0,0)))(o:∀i,i<c.ins.length->w.heap[RB+1+i]?=tG (uc (dK k (λ_=>0)) 245 (0,0)))
  (q:d+c.ins.length<RB\/RB+c.ins.length<d)(t:d+c.ins.length<T)(u:RB+c.ins.length<T):fQ w T d RB k c (λ_ _=>0) (λ_ _=>0):=by
 refine⟨f,⟨_,g,gZ _ _ _ _,λx e=>⟨d+1+x,k,by rw[eG _ _ _ e,cI e], ?_,bW.of_cells (h x e)⟩⟩,j,λx e=>bW.of_cells (o x e),by omega,by omega,by omega⟩;unfold EF;omega
structure F8 (w:World)(T RA RB:bh)(c:dx)(a b:bh->bh->bh):Prop where
 tab:fQ w T RA RB ((c.nvars+63)/64) c a b
 ltA:∀x j,x<c.ins.length->a x j<18446744073709551616
 ltB:∀x j,b x j<18446744073709551616
 says:∀x v,x<c.ins.length->v<c.nvars->(bn (b x) v=tP↔eF c.ins v x)/\(bn (a x) v=tP↔nG c.ins v x)
 sound:kC c.ins b
def pG (d RB n q:bh):Prop:=q=d\/(RB<q/\q<=RB+n)
def DR (T d RB k:bh)(c:dx)(e:World)(m:bh)(wr:World):Prop:=
 ∃a b,fQ wr T d RB k c a b/\kC c.ins b/\(∀x j,b x j<18446744073709551616)/\bT c.ins.length k b<=m/\Ext (pG d RB c.ins.length) e wr
def jF (d:bj Ins)(k j:bh)(a b:bh->bh->bh):Prop:=
 ∀y i,j<=y->d[y]?=tG i->a y=stepW i (b y)/\∀x∈aB d y,∀q,q<k->b x q|||a y q=b x q
def Gs (T f RB k:bh)(c:dx)(g:World)(d:bh->bh->bh)(h o:cA)(wr:World):Prop:=
 ∃(j:bh) (e:mm) (a b:bh->bh->bh),j<=c.ins.length/\o= Z U ((j:aw)-1)/\h= ua e/\fQ wr T f RB k c a b/\kC c.ins b/\(∀x j,b x j<18446744073709551616)/\Ext (pG f RB c.ins.length) g wr/\
  bT c.ins.length k b<=bT c.ins.length k d/\(e=tP->bT c.ins.length k b<bT c.ins.length k d)/\(e=tR->b=d/\jF c.ins k j a b)
def E5 (T f RB k:bh)(c:dx)(g:World)(d a:bh->bh->bh)(j:bh)(h o:cA)(wr:World):Prop:=
 ∃(q:bh) (e:mm) (b:bh->bh->bh),q<=(aB c.ins j).length/\o= Z U (q:aw)/\h= ua e/\fQ wr T f RB k c a b/\kC c.ins b/\(∀x j,b x j<18446744073709551616)/\Ext (pG f RB c.ins.length) g wr/\
  bT c.ins.length k b<=bT c.ins.length k d/\(e=tP->bT c.ins.length k b<bT c.ins.length k d)/\(e=tR->b=d/\(∀i,c.ins[j]?=tG i->a j=stepW i (d j))/\jF c.ins k (j+1) a b/\∀x∈(aB c.ins j).take q,∀p,p<k->b x p|||a j p=b x p)
theorem wR:∀(n x:bh),x<2^n->pu x n=0->x=0
 |0,x,h,_=>by simpa using h
 |n+1,x,h,h0=>by
  unfold pu at h0;simp only[iU,List.sum_cons] at h0;have d:=wR n (x/2) (by rw[Nat.pow_succ] at h;omega) (by unfold pu;omega);omega
theorem pI {f:bh->bh}(d:∀i,f i<18446744073709551616):∀(n:bh),dY n f=0->∀i,i<n->f i=0
 |0,_,i,hi=>by omega
 |n+1,h,i,hi=>by
  rw[kQ] at h
  by_cases e:i=n
  ·subst e;exact wR 64 _ (d _) (by omega)
  ·exact pI d n (by omega) i (by omega)
theorem Gs.skip {T g RB k j:bh}{c:dx}{t w2:World}{a b d:bh->bh->bh}{f:mm}{i:Ins}(hi:c.ins[j]?=tG i)(h0:dY k (stepW i (b j))=0)(z:fQ w2 T g RB k c (λy=>if y=j then stepW i (b j) else a y) b)(A:kC c.ins b)(u:∀x j,b x j<18446744073709551616)(E:Ext (pG g RB c.ins.length) t w2)
  (G:bT c.ins.length k b<=bT c.ins.length k d)(J:f=tP->bT c.ins.length k b<bT c.ins.length k d)(v:f=tR->b=d/\jF c.ins k (j+1) a b):Gs T g RB k c t d (ua f) (Z U ((j:aw)-1)) w2:=by
 refine⟨j,f,_,b,nx (bl.1 hi).1,rfl,rfl,z,A,u,E,G,J,λh=>⟨(v h).1,λy K hy o=> ?_⟩⟩
 by_cases e:y=j
 ·subst e
  rw[hi] at o;obtain rfl:=cE o;simp only[cI];exact⟨trivial,λx _ q R=>by rw[pI (lZ i (u y)) k h0 q R,Nat.or_zero]⟩
 ·simp only[bx e]
  exact(v h).2 y K (by omega) o
theorem E5.done {T f RB k j:bh}{c:dx}{g wr:World}{a o:bh->bh->bh}{t:cA}{i:Ins}(hi:c.ins[j]?=tG i)(h:E5 T f RB k c g o a j t (Z U ((aB c.ins j).length:aw)) wr):Gs T f RB k c g o t (Z U ((j:aw)-1)) wr:=by
 obtain⟨q,v,b,hq,x,rfl,z,A,E,G,J,K,R⟩:=h;have ue:q=(aB c.ins j).length:=by simp at x;omega
 subst ue;refine⟨j,v,a,b,nx (bl.1 hi).1,rfl,rfl,z,A,E,G,J,K,λh=> ?_⟩;obtain⟨e,ha,h1,u⟩:=R h;rw[cR] at u;refine⟨e,λy i' hy d=> ?_⟩
 by_cases e':y=j
 ·subst e'
  rw[hi] at d;obtain rfl:=cE d;exact⟨by rw[ha _ hi,e],u⟩
 ·exact h1 y i' (by omega) d
theorem Gs.final {T d RB:bh}{c:dx}{A wr:World}{E:bh->bh->bh}{f:cA}(G:Fits c.ins c.nvars)(h:Gs T d RB ((c.nvars+63)/64) c A E (ua tR) f wr)(J:f= Z U (-1)):∃a b,F8 wr T d RB c a b:=by
 obtain⟨j,ch,a,b,hj,g,K,R,o,t,u,hr,uv,ue⟩:=h;rw[J] at g;have up:j=0:=by simp at g;omega
 subst up;obtain⟨e,v⟩:=ue (by simpa using K.symm);have z:∀y i,c.ins[y]?=tG i->a y=stepW i (b y):=λy i hi=>(v y i (cN _) hi).1;refine⟨a,b,R,λx j u=> ?_,t, ?_,o⟩
 ·rw[z x _ (ap u)];exact lZ _ (t x) j
 ·exact IA (by omega) G o (λy i hi q _=>by rw[z y i hi]) (λy x hy ur=>(v y _ (cN _) (ap hy)).2 x ur)
theorem E5.start {T o RB k j:bh}{c:dx}{q w2:World}{a b d:bh->bh->bh}{f:mm}{i:Ins}(hi:c.ins[j]?=tG i)(u:fQ w2 T o RB k c (λy=>if y=j then stepW i (b j) else a y) b)(v:kC c.ins b)(z:∀x j,b x j<18446744073709551616)(A:Ext (pG o RB c.ins.length) q w2)
  (E:bT c.ins.length k b<=bT c.ins.length k d)(G:f=tP->bT c.ins.length k b<bT c.ins.length k d)(J:f=tR->b=d/\jF c.ins k (j+1) a b):E5 T o RB k c q d (λy=>if y=j then stepW i (b j) else a y) j (ua f) (Z U 0) w2:=by
 refine⟨0,f,b,cN _,rfl,rfl,u,v,z,A,E,G,λh=> ?_⟩;obtain⟨e,K⟩:=J h;refine⟨e,λt g=> ?_,λy t R g=> ?_,by simp⟩
 ·rw[hi] at g
  obtain rfl:=cE g;simp only[cI,e]
 ·simp only[bx (show y≠j by omega)]
  exact K y t R g
theorem E5.next {T v RB k j x q:bh}{c:dx}{J wr w2:World}{a b f z:bh->bh->bh}{o:mm}{i:Ins}{nv:bh}(hf:Fits c.ins nv)(hi:c.ins[j]?=tG i)(K:a j=stepW i (z j))(uv:kC c.ins z)(ux:∀x j,z x j<18446744073709551616)
  (A:(aB c.ins j)[q]?=tG x)(ht:fQ wr T v RB k c a b)(hs:kC c.ins b)(t:∀x j,b x j<18446744073709551616)(hx:Ext (pG v RB c.ins.length) J wr)
  (R:bT c.ins.length k b<=bT c.ins.length k f)(vc:o=tP->bT c.ins.length k b<bT c.ins.length k f)
  (vd:o=tR->b=f/\(∀i,c.ins[j]?=tG i->a j=stepW i (f j))/\jF c.ins k (j+1) a b/\∀x∈(aB c.ins j).take q,∀p,p<k->b x p|||a j p=b x p)
  (vf:bW w2 (RB+1+x) k (iN (b x) (a j) k))(ue:Ext (·=RB+1+x) wr w2):E5 T v RB k c J f a j (ua (fw (b x) (a j) k||o)) (Z U ((q:aw)+1)) w2:=by
 have u:∀p,a j p<18446744073709551616:=by rw[K];exact lZ i (ux j)
 have up:=cd A;have ur:x<c.ins.length:=((di c.ins x j).1 up).1;have E:=EE (n:=c.ins.length) (k:=k) (x:=x) (b:=b) (g:=a j) t u ur;have vp:q<(aB c.ins j).length:=(bl.1 A).1;have vh:(λy=>if y=x then iN (b x) (a j) k else b y)=jP b x (a j) k:=rfl;refine⟨q+1,_,jP b x (a j) k,by omega,by simp,rfl,by rw[<-vh];exact ht.grow ur vf ue, ?_, ?_, ?_,eJ E.1 R,λh=> ?_,λh=> ?_⟩
 ·rw[K];exact CY hf hs hi up uv
 ·intro y p
  unfold jP
  split
  ·exact F5 (t x) u k p
  ·exact t y p
 ·exact hx.trans ue (λp G=> .inl (by unfold pG;omega))
 ·rcases js _ _▸h with h|h
  ·exact cH (E.2 h) R
  ·exact my E.1 (vc h)
 ·have h1:fw (b x) (a j) k=tR:=by revert h;cases fw (b x) (a j) k<;>simp
  have h2:o=tR:=by revert h;cases o<;>simp
  have vm:jP b x (a j) k=b:=by
   funext y
   unfold jP
   split
   ·rename_i e;subst e;exact CX (t _) u h1
   ·rfl
  rw[vm];obtain⟨e1,e2,e3,e4⟩:=vd h2;refine⟨e1,e2,e3,λy d p G=> ?_⟩;rw[ju,A] at d;rcases cX.1 d with d|d
  ·exact e4 y d p G
  ·simp at d;subst d
   exact(nT (t _) u k).1 h1 p G
theorem fQ.of_rows {w2 d:World}{c:dx}{k n f e:bh}(j:c.ins.length=n)(o:w2.heap[f]?=tG (uc (dZ n k f n) 199 (0,0)))(q:∀i,i<n->w2.heap[f+1+i]?=tG (uc (dK k (λ_=>0)) 245 (0,0)))(v:w2.heap.size=f+1+n)(x:e=w2.heap.size)
  (t:d.heap[e]?=tG (uc (dZ n k e n) 199 (0,0)))(u:∀i,i<n->d.heap[e+1+i]?=tG (uc (dK k (λ_=>0)) 245 (0,0)))(y:d.heap.size=e+1+n)(h:aE e w2 d):
  fQ (d.alloc (uc (ig c f e) 196)) d.heap.size f e k c (λ_ _=>0) (λ_ _=>0):=by
 have g:∀i,i<d.heap.size->(d.alloc (uc (ig c f e) 196)).heap[i]?=d.heap[i]? :=λi hi=>cJ _ _ _ hi;subst j;refine fQ.init (alloc_at _ _) ?_ (λi hi=> ?_) ?_ (λi hi=> ?_) (by omega) (by omega) (by omega)
 ·rw[g _ (by omega),h.block _ (by omega)];exact o
 ·rw[g _ (by omega),h.block _ (by omega)];exact q i hi
 ·rw[g _ (by omega)];exact t
 ·rw[g _ (by omega)];exact u i hi
def A8 (c:dx)(w:World)(e:Ending)(w':World):Prop:=
 ∃T d RB a b,e= ud (tW (tG ⟨T,0,tM⟩))/\w.heap.size<=T/\w.heap.size<=RB/\F8 w' T d RB c a b/\aE w.heap.size w w'
theorem vF (c:dx)(w:World)(Bk:c.inn w)(Bm:c.ins.length<=400)(DG:c.nvars<=400)(Bs:∀i∈c.ins,i.args.length<=40)(By:Fits c.ins c.nvars):ge am 57 #[ub c.cells] w (A8 c w):=by
 obtain⟨C,hC⟩:=zE c;have HC:=zH hC;have DH:cj (∀i∈C.ins,i.args.length<=40):=by rw[<-hC];exact Bs
 have At:cj (Fits C.ins C.nvars):=by rw[<-hC];exact By
 have BE:=zH Bk;clear Bk By Bs;obtain⟨nm,ue,up,nvars,ur,rp,uv,ux,vc,vd,vf,vh,vm,ins⟩:=c;simp only at Bm DG;simp only[dx.cells];obtain⟨n,hn⟩:=zE ins.length;have vu:=zH hn;obtain⟨N,hN⟩:=zE w.heap.size;obtain⟨W1,vx⟩:=zE (w.alloc (uc #[tS nm,Z U ue,tU up nvars ur,ua rp,tS uv,Z U ux,tU vc vd vf,tU vh n vm] 38));have Ax:=iR vx hN;have AD:W1.heap.size=N+1:=by rw[<-vx];simp[hN]
 have BT:W1.heap[N]?=tG (uc #[tS nm,Z U ue,tU up nvars ur,ua rp,tS uv,Z U ux,tU vc vd vf,tU vh n vm] 38 (0,0)):=by
  rw[<-vx,<-hN];exact alloc_at _ _
 have BY:=BE.out.below (by rw[hN];exact Ax);have HS:cj (∀W,aE (N+1) W1 W->W.cell? ⟨N,0,tM⟩=tG (tS nm)/\W.cell? ⟨N,1,tM⟩=tG (Z U ue)/\W.cell? ⟨N,2,tM⟩=tG (tU up nvars ur)/\W.cell? ⟨N,3,tM⟩=tG (ua rp)/\W.cell? ⟨N,4,tM⟩=tG (tS uv)/\W.cell? ⟨N,5,tM⟩=tG (Z U ux)/\W.cell? ⟨N,6,tM⟩=tG (tU vc vd vf)/\W.cell? ⟨N,7,tM⟩=tG (tU vh n vm)/\aE (N+1) W1 W):=by
  intro W hW;have h4:=(hW.block N (by omega)).trans BT;refine⟨?_, ?_, ?_, ?_, ?_, ?_, ?_, ?_,hW⟩<;>(rw[bw _ _ _ _ _ _ h4];rfl)
 have HK:cj (∀W,aE (N+1) W1 W->C.inn W/\aE N w W/\N+1<=W.heap.size):=by
  intro W hW;exact⟨by rw[<-hC];exact BY.below (by rw[AD];exact hW),Ax.trans (hW.mono (by omega)),by have:=hW.size;omega⟩
 have DM:cj (∀W,aE (N+1) W1 W->ge am 103 #[ub #[tS nm,Z U ue,tU up nvars ur,ua rp,tS uv,Z U ux,tU vc vd vf,tU vh n vm]] W (tJ W n (aB ins))):=by
  intro W hb;rw[<-hn];have G:=(HK.out W hb).1.row;rw[<-hC] at G;exact yK ⟨nm,ue,up,nvars,ur,rp,uv,ux,vc,vd,vf,vh,vm,ins⟩ W G (by show ins.length<=90000;omega)
 have DO:=zH vx;have Fm:=zH AD;have Fo:N+1<=W1.heap.size:=by omega
 obtain⟨k0,k1,k2,k3,k4,k5,k6,k7,_⟩:=HS.out W1 (aq _ _);have Fr:n<=400:=by omega
 clear Ax AD BT BY vx BE hC;rw[hn];clear hn Bm;go_enter func57,ntmps57;go_wp2;rw[DO.out]
 go_step3
 go_upto_region 1 with(fail)
 go_quiet (fail)
 go_upto_region 2 with(fail)
 obtain⟨A,AE⟩:=zE (W1.drewN nq);have yd:aE (N+1) W1 A:=by rw[<-AE];exact hU (aq _ _) _
 rw[AE];obtain⟨k0,k1,k2,k3,k4,k5,k6,k7,_⟩:=HS.out A yd;have Ft:=(HK.out A yd).2.2;have DP:=zH yd;have B5:cj (∀W,ge am 102 #[Z U (n:aw),Z U (nvars:aw)] W (tQ W n ((nvars+63)/64) W.heap.size)):=λW=>tT W n nvars (by omega) (by omega);have AF:cj (∀W f,aE (N+1) W1 W->aE W.heap.size W f->f.cell? ⟨N,0,tM⟩=tG (tS nm)/\f.cell? ⟨N,1,tM⟩=tG (Z U ue)/\f.cell? ⟨N,2,tM⟩=tG (tU up nvars ur)/\f.cell? ⟨N,3,tM⟩=tG (ua rp)/\f.cell? ⟨N,4,tM⟩=tG (tS uv)/\f.cell? ⟨N,5,tM⟩=tG (Z U ux)/\f.cell? ⟨N,6,tM⟩=tG (tU vc vd vf)/\f.cell? ⟨N,7,tM⟩=tG (tU vh n vm)/\aE (N+1) W1 f):=
  λW f G h2=>HS.out f (G.trans (h2.mono (HK.out W G).2.2))
 clear AE yd
 go_cut [5] (λs5 wc=>∃T d RB,s5= tW (tG ⟨T,0,tM⟩)/\fQ wc T d RB ((nvars+63)/64) C (λ_ _=>0) (λ_ _=>0)/\N+1<=T/\N+1<=d/\N+1<=RB/\aE (N+1) W1 wc)
 case first=>
  go_region_held3 (λw'=>w'.cell? ⟨N,0,tM⟩=tG (tS nm)/\w'.cell? ⟨N,1,tM⟩=tG (Z U ue)/\w'.cell? ⟨N,2,tM⟩=tG (tU up nvars ur)/\w'.cell? ⟨N,3,tM⟩=tG (ua rp)/\w'.cell? ⟨N,4,tM⟩=tG (tS uv)/\w'.cell? ⟨N,5,tM⟩=tG (Z U ux)/\w'.cell? ⟨N,6,tM⟩=tG (tU vc vd vf)/\w'.cell? ⟨N,7,tM⟩=tG (tU vh n vm)/\aE (N+1) W1 w')
   (first|(exact hS)|(exact⟨k0,k1,k2,k3,k4,k5,k6,k7,hU DP.out 1⟩)|(exact AF.out _ _ (by go_split_ands;assumption) ((aq _ _).alloc (cg _) _)))
   (first
    |(go_at_call 102;have FA:=ye;refine(B5.out _).mono ?_;rintro e w3 ⟨rfl,AH,AI,vy,yi⟩;have hS:=AF.out _ _ (by go_split_ands;assumption) yi)
    |(go_at_call 102;refine(B5.out _).mono ?_;rintro e w2 ⟨rfl,ye,AK,we,B6⟩;have hS:=AF.out _ _ (by go_split_ands;assumption) B6))
  obtain⟨_,_,_,_,_,_,_,_,vp⟩:=hS;have DQ:A.drew.heap.size=A.heap.size:=rfl;rw[DQ] at ye AK we;rw[we] at AH AI vy yi;have HT:cj (fQ (w3.alloc (uc (ig C A.heap.size (A.heap.size+1+n)) 196)) w3.heap.size A.heap.size (A.heap.size+1+n) ((nvars+63)/64) C (λ_ _=>0) (λ_ _=>0)):=
   fQ.of_rows (n:=n) (by rw[<-HC.out];exact vu.out) ye AK we (by rw[we]) AH AI vy yi
  rw[vy] at HT;have wg:cj (aE (N+1) W1 w3/\w3.heap.size=A.heap.size+1+n+1+n):=⟨vp,vy⟩
  have B7:ig C A.heap.size (A.heap.size+1+n)=#[tS nm,Z U ue,tU up nvars ur,ua rp,tS uv,Z U ux,tU vc vd vf,tU vh n vm,tU (tG ⟨A.heap.size,0,tM⟩) n n,tU (tG ⟨A.heap.size+1+n,0,tM⟩) n n]:=by
   rw[<-HC.out];simp only[ig,vu.out]
  rw[B7] at HT;clear ye AK we AH AI vy B6 yi vp B7;go_wp2
  go_meet
  case rel=>exact⟨_,_,_,rfl,HT.out,by omega,by omega,by omega,wg.out.1.alloc (by have:=wg.out.2;omega) _⟩
 case rest=>
  obtain⟨T,d,RB,rfl,B8,hT,FF,FG,yk⟩:=hcut;obtain⟨k0,k1,k2,k3,k4,k5,k6,k7,_⟩:=HS.out wc yk;have wj:=zH B8;have B9:=zH yk;have DS:=(HK.out wc yk).2.2;clear B8 yk
  go_wp2_with (go_at_call 103;refine(DM.out _ B9.out).mono ?_;rintro e o ⟨R,rfl,hR,AM,vp⟩)
  have AN:aE (N+1) W1 o:=B9.out.trans (vp.mono DS);have t:fQ o T d RB ((nvars+63)/64) C (λ_ _=>0) (λ_ _=>0):=wj.out.keep (Ext.of_below_size vp:Ext (λ_=>me) wc o) (λ_ h=>h);have Cd:C.ins.length=n:=by rw[<-HC.out];exact vu.out
  have F0:T<wc.heap.size:=(br.1 wj.out.tab).1;have F1:d<wc.heap.size:=by obtain⟨D0,G,_⟩:=wj.out.ahead;exact(br.1 G).1
  have Ge:RB<wc.heap.size:=(br.1 wj.out.behind).1;have Gk:RB+n<wc.heap.size:=by
   by_cases h0:n=0
   ·omega
   ·have:=(wj.out.words (n-1) (by omega)).lt;omega
  have HV:cj (∀y,y<n->∃ao cap,o.cell? ⟨R,y,tM⟩=tG (tU ao (aB ins y).length cap)/\∀(q z:bh),(aB ins y)[q]?=tG z->∃g,ao=tG ⟨g,0,tM⟩/\R<g/\g<o.heap.size/\o.cell? ⟨g,q,tM⟩=tG (Z U (z:aw))):=by
   intro y hy;obtain⟨vals,_,v1,v2,_,v4,_⟩:=AM;obtain⟨v,hv⟩:∃v,vals[y]?=tG v:=⟨_,mx (by omega)⟩
   have ho:=v4 y v hv;obtain⟨ao,cap,rfl⟩:=ho.isSlice;have J:(ints (aB ins y)).length=(aB ins y).length:=by simp[ints]
   refine⟨ao,cap,by rw[bw _ _ _ _ _ _ v2,hv,J],λq z hz=> ?_⟩;obtain⟨g,e,G,h2,h3⟩:=ho.shape (by rw[J];have:=(bl.1 hz).1;omega);exact⟨g,e,by omega,h2,h3 q z (by simp[ints,hz])⟩
  have D1:R<o.heap.size:=by obtain⟨vals,_,_,v2,_⟩:=AM;exact(br.1 v2).1
  have Cl:N+1<=o.heap.size:=(HK.out o AN).2.2;have wg:=zH AN;have D2:=zH t;have u:=zH Cd;clear vp AN t AM Cd k0 k1 k2 k3 k4 k5 k6 k7
  go_step3
  go_wp2;obtain⟨k,hk⟩:∃k,k=(nvars+63)/64:=⟨_,rfl⟩
  go_loopg [8] (bT n k (λ_ _=>0)) (λm s8 wr=>DR T d RB k C o m wr)
  case atStart=>exact⟨_,_,by rw[hk];exact D2.out,by intro x v _ h;simp[bn] at h,by intro x j;decide,by rw[u.out];exact cg _,Ext.refl _ _⟩
  case round=>
   obtain⟨a0,b0,Cp,CA,CC,CD,CH⟩:=hrel;have D3:cj (Gs T d RB k C o b0 (ua tR) (Z U ((n:aw)-1)) wr):=
    ⟨n,tR,a0,b0,by rw[u.out];exact cg _,rfl,rfl,Cp,CA,CC,CH,cg _,(λh=>by cases h),λ_=>⟨rfl,λy i hy hi=>fL (bl.1 hi).1 (by rw[u.out];omega)⟩⟩
   have D4:=zH CD;clear Cp CA CC CD CH;have Ek:=zH hk;have CM:k<=90000:=by omega
   have GB:nvars<=64*k:=by omega
   clear hk;go_wp2
   go_loopw [8,9] (λs8 s9 EV=>Gs T d RB k C o b0 s8 s9 EV) (λ_ s9 _=>(de s9+1).toNat)
   case atStart=>exact D3.out
   case round=>
    rename_i GC _
    obtain⟨j,ch,a,b,hj,rfl,rfl,ht,hs,J,hx,wk,vq,wl⟩:=hrel;rw[u.out] at hj;cases j with
    |zero=>
     have e:(((0:bh):aw)-1)= -1:=by omega
     rw[e];have yp:Gs T d RB k C o b0 (ua ch) (Z U (-1)) wr:=⟨0,ch,a,b,cN _,by simp,rfl,ht,hs,J,hx,wk,vq,wl⟩
     have vr:aE (N+1) W1 wr:=wg.out.trans (hx.below Cl (λq E=>by unfold pG at E;rw[u.out] at E;omega));cases ch with
     |true=>
      have yq:=zH (vq rfl);have HG:cj (DR T d RB k C o (bT C.ins.length k b) wr):=⟨a,b,ht,hs,J,cg _,hx⟩
      clear yp vr ht hs J hx wk vq wl e;go_wp2
      go_roundg (bT C.ins.length k b)
      case measure=>exact cH yq.out D4.out
      case rel=>exact HG.out
     |false=>
      have HG:cj (A8 C w (ud (tW (tG ⟨T,0,tM⟩))) wr):=by
       have ws:C.nvars=nvars:=by rw[<-HC.out]
       rw[Ek.out,<-ws] at yp;obtain⟨K,b',E0⟩:=yp.final At.out rfl;exact⟨T,d,RB,K,b',rfl,by omega,by omega,E0,by rw[hN];exact(HK.out wr vr).2.1⟩
      clear yp vr ht hs J hx wk vq wl e;go_wp2
      try rw[ml]
      go_ret;rw[HC.out];exact HG.out
    |succ j=>
     have e:(((j+1:bh):aw)-1)=(j:aw):=by omega
     rw[e];have AS:j<n:=by omega
     obtain⟨i,hi⟩:∃i,C.ins[j]?=tG i:=⟨_,ap (by rw[u.out];exact AS)⟩
     have AT:=cd hi;have vr:aE (N+1) W1 wr:=wg.out.trans (hx.below Cl (λq E=>by unfold pG at E;rw[u.out] at E;omega));have xf:=At.out i AT;have ws:C.nvars=nvars:=by rw[<-HC.out]
     have yr:=zH (CZ wr T d RB k j C a b i ht hi (HK.out wr vr).1 (DH.out i AT) (by rw[u.out];omega) CM ⟨λr hr=>⟨(xf.1 r hr).1,by have:=(xf.1 r hr).2;rw[ws] at this;omega⟩,λh=>⟨(xf.2 h).1,by have:=(xf.2 h).2;rw[ws] at this;omega⟩⟩ J);have HI:=zH hi;have AW:=zH hs;have yv:=zH J;have A0:=zH hx;have CN:=zH wk;have yq:=zH vq;have CT:=zH wl;clear hi AT vr xf ws hs J hx wk vq wl ht e
     by_cases A1:dY k (stepW i (b j))=0
     ·have hd:decide (0<dY k (stepW i (b j)))=tR:=cv (by omega)
      have E2:=zH A1;have yy:cj (ge am 104 #[tW (tG ⟨T,0,tM⟩),Z U (j:aw)] wr λe w'=>e= ud (ua tR)/\fQ w' T d RB k C (λy=>if y=j then stepW i (b j) else a y) b/\Ext (·=d) wr w'):=
       yr.out.mono λe w' h=>by unfold Stepped at h;rw[hd] at h;exact h
      clear yr A1 hd
      go_wp2_with (go_at_call 104;refine yy.out.mono ?_;rintro e w2 ⟨rfl,yW,xj⟩)
      refine⟨Gs.skip HI.out E2.out yW AW.out yv.out (A0.out.trans xj (λq E=> .inl (.inl E))) CN.out yq.out CT.out,by simp[de]⟩
     ·have hd:decide (0<dY k (stepW i (b j)))=tP:=cV (by omega)
      have yy:cj (ge am 104 #[tW (tG ⟨T,0,tM⟩),Z U (j:aw)] wr λe w'=>e= ud (ua tP)/\fQ w' T d RB k C (λy=>if y=j then stepW i (b j) else a y) b/\Ext (·=d) wr w'):=
       yr.out.mono λe w' h=>by unfold Stepped at h;rw[hd] at h;exact h
      obtain⟨ao,cap,C4,C5⟩:=HV.out j AS;have C6:∀w2,Ext (·=d) wr w2->w2.cell? ⟨R,j,tM⟩=tG (tU ao (aB ins j).length cap):=λw2 h2=>by
       have E3:Ext (pG d RB C.ins.length) o w2:=A0.out.trans h2 (λq E=> .inl (.inl E));rw[E3.cell (a:=⟨R,j,tM⟩) D1 (by show¬pG d RB C.ins.length R;unfold pG;rw[u.out];omega)];exact C4
      have C7:=zH C6;have E4:=zH C5;have GE:(aB ins j).length<=900:=by have:=pF ins j;have:=vu.out;omega
      have GF:(j:aw)<(n:aw):=by omega
      have xo:cj (C.ins=ins):=by unfold cj;rw[<-HC.out]
      clear yr A1 hd C4 C6 C5
      go_upto_if 40 with(go_at_call 104;refine yy.out.mono ?_;rintro e w2 ⟨rfl,yW,xj⟩)
      have Dd:=C7.out w2 xj;have Dg:cj (E5 T d RB k C o b0 (λy=>if y=j then stepW i (b j) else a y) j (ua ch) (Z U 0) w2):=E5.start HI.out yW AW.out yv.out (A0.out.trans xj (λq E=> .inl (.inl E))) CN.out yq.out CT.out;clear yW xj yy C7;obtain⟨K,A2⟩:=zE (λy=>if y=j then stepW i (b j) else a y);rw[A2] at Dg;have Do:cj (K j=stepW i (b j)):=by rw[<-A2];simp[cj]
      have E6:cj (∀p,K j p<18446744073709551616):=by rw[Do.out];exact lZ i (yv.out j)
      clear A2;go_wp2
      go_loopw [8,46] (λs8 A3 E7=>E5 T d RB k C o b0 K j s8 A3 E7) (λ_ A3 _=>(aB ins j).length-(de A3).toNat)
      case atStart=>exact Dg.out
      case round=>
       rename_i GO _
       obtain⟨q,A4,b2,E,rfl,rfl,t,zc,xp,xt,zj,zp,xF⟩:=hrel;rw[xo.out] at E
       by_cases Fc:q<(aB ins j).length
       ·obtain⟨x,zs⟩:∃x,(aB ins j)[q]?=tG x:=⟨_,ap Fc⟩
        have A5:x<n:=by have:=((di ins x j).1 (cd zs)).1;have:=vu.out;omega
        obtain⟨g2,rfl,GP,Fi,Ds⟩:=E4.out q x zs;have GS:wr.cell? ⟨g2,q,tM⟩=tG (Z U (x:aw)):=by
         rw[xt.cell (a:=⟨g2,q,tM⟩) Fi (by show¬pG d RB C.ins.length g2;unfold pG;rw[u.out];omega)];exact Ds
        have GT:(q:aw)<((aB ins j).length:aw):=by omega
        have GW:(x:aw)<(n:aw):=by omega
        obtain⟨D0,q1,q2,q3⟩:=t.ahead;obtain⟨g,cp,q4,q5,q6⟩:=q3 j (by rw[u.out];exact AS);have c1:wr.cell? ⟨T,8,tM⟩=tG (tU (tG ⟨d,0,tM⟩) n n):=t.cells (by rw[<-u.out];rfl);have c2:wr.cell? ⟨T,9,tM⟩=tG (tU (tG ⟨RB,0,tM⟩) n n):=t.cells (by rw[<-u.out];rfl);have c3:wr.cell? ⟨RB,x,tM⟩=tG (tU (tG ⟨RB+1+x,0,tM⟩) k k):=by
         rw[bw _ _ _ _ _ _ t.behind,u.out,eG _ _ _ A5,cI A5]
        have c4:wr.cell? ⟨d,j,tM⟩=tG (tU (tG ⟨g,0,tM⟩) k cp):=by rw[bw _ _ _ _ _ _ q1];exact q4
        have Fk:g≠RB+1+x:=λe=>q5 (by rw[u.out];unfold EF;omega);have s1:=t.s1;have s2:=t.s2;have s3:=t.s3;rw[u.out] at s2 s3;have DA:=t.words x (by rw[u.out];exact A5);have zv:=zH (vE wr.drew (RB+1+x) g k k cp (b2 x) (K j) Fk (DA.keep rfl) (q6.keep rfl) (xp x) E6.out CM);have lT:T<wr.heap.size:=(br.1 t.tab).1;have lA:d<wr.heap.size:=(br.1 q1).1;have lB:RB<wr.heap.size:=(br.1 t.behind).1;have DB:cj (∀f,Ext (·=RB+1+x) wr.drew f->f.cell? ⟨T,8,tM⟩=tG (tU (tG ⟨d,0,tM⟩) n n)/\f.cell? ⟨T,9,tM⟩=tG (tU (tG ⟨RB,0,tM⟩) n n)/\f.cell? ⟨RB,x,tM⟩=tG (tU (tG ⟨RB+1+x,0,tM⟩) k k)/\f.cell? ⟨d,j,tM⟩=tG (tU (tG ⟨g,0,tM⟩) k cp)):=by
         intro f An;refine⟨?_, ?_, ?_, ?_⟩
         ·rw[An.cell (a:=⟨T,8,tM⟩) lT (by show¬T=RB+1+x;omega)];exact c1
         ·rw[An.cell (a:=⟨T,9,tM⟩) lT (by show¬T=RB+1+x;omega)];exact c2
         ·rw[An.cell (a:=⟨RB,x,tM⟩) lB (by show¬RB=RB+1+x;omega)];exact c3
         ·rw[An.cell (a:=⟨d,j,tM⟩) lA (by show¬d=RB+1+x;omega)];exact c4
        have A6:cj (∀f,bW f (RB+1+x) k (iN (b2 x) (K j) k)->Ext (·=RB+1+x) wr.drew f->E5 T d RB k C o b0 K j (ua (fw (b2 x) (K j) k||A4)) (Z U ((q:aw)+1)) f):=λf G h2=>
         E5.next At.out HI.out Do.out AW.out yv.out (by rw[xo.out];exact zs) t zc xp xt zj zp xF G (((Ext.refl _ wr).drew).trans h2 (λ_ h=> .inl h))
        obtain⟨nb,DE⟩:=zE (fw (b2 x) (K j) k);unfold Joined at zv;rw[DE] at zv A6;clear DE t zc xp xt zj zp xF Ds q1 q2 q3 q4 q5 q6 DA zs Dd;cases nb with
        |true=>
         clear DB;go_wp2
         first
         |go_region_law (go_simp;go_at_call 105;refine zv.out.mono ?_;rintro e w4 ⟨rfl,xT,vt⟩)
         |fail
         all_goals
          have yb:=zH (A6.out w4 xT vt);rw[Bool.true_or] at yb;clear xT vt;go_wp2;exact⟨yb.out,by simp[de];omega⟩
        |false=>
         go_wp2
         go_region_held3 (λw'=>w'.cell? ⟨T,8,tM⟩=tG (tU (tG ⟨d,0,tM⟩) n n)/\w'.cell? ⟨T,9,tM⟩=tG (tU (tG ⟨RB,0,tM⟩) n n)/\w'.cell? ⟨RB,x,tM⟩=tG (tU (tG ⟨RB+1+x,0,tM⟩) k k)/\w'.cell? ⟨d,j,tM⟩=tG (tU (tG ⟨g,0,tM⟩) k cp))
          (first|(exact hS)|(exact⟨c1,c2,c3,c4⟩))
          (first|(go_at_call 105;refine zv.out.mono ?_;rintro e w4 ⟨rfl,xT,vt⟩;have hS:=DB.out _ vt))
         have yb:=zH (A6.out w4 xT vt);rw[Bool.false_or] at yb;clear hS xT vt;go_wp2;exact⟨yb.out,by simp[de];omega⟩
       ·have Fl:q=(aB ins j).length:=by omega
        subst Fl;have HD:cj (Gs T d RB k C o b0 (ua A4) (Z U ((j:aw)-1)) wr):=
         E5.done HI.out ⟨_,A4,b2,(by rw[xo.out];exact cg _),(by rw[xo.out]),rfl,t,zc,xp,xt,zj,zp,(by rw[xo.out] at xF⊢;exact xF)⟩
        clear t zc xp xt zj zp xF Dd;go_wp2;exact⟨HD.out,by simp[de]⟩
end Go.Proofs.YtjomgckjhcfbgaaGreat
