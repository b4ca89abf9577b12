/- Walks. -/
import Derived.Deep.RegionHeld3
import Derived.Deep.DeepCutAuto
import Derived.WalkMore
import Derived.Test.YtjomgckjhcfbgaaGreatP14
set_option maxRecDepth 100000
set_option maxHeartbeats 64000000
set_option linter.all false
namespace Go.Proofs.YtjomgckjhcfbgaaGreat
open Go.RowKit
open Go.Proofs.Tryz renaming prog→am,underlying42→cA
open _root_.List renaming getElem?_eq_getElem→ap,getElem?_eq_some_iff→bo,mem_of_getElem?→ci,take_length→cL,mem_append→dg,take_add_one→kA,foldl_append→lp
open Go.RowKit.Below renaming refl→aq,heap_alloc→cE
open _root_ renaming Int→aw,Nat→bj,List→bp,if_neg→bw,decide_eq_false→cm,if_pos→cH,decide_eq_true→cR,absurd→fz,False→lj,if_true→lk,Bool→ml
open Go.RowKit renaming Below→aE,Hid→cg,intOf→dp
open _root_.Array renaming getElem?_eq_some_iff→br,getElem?_eq_getElem→n8
open Go renaming cell_of_row→bt,Value→cw,frozen_of_row→de,Addr→fg,Calls→fj,below_drewN→hU
open _root_.Nat renaming le_refl→cd,lt_of_lt_of_le→cD,zero_add→cI,zero_le→cM,le_trans→eN,lt_of_le_of_lt→ld,le_of_lt→mA
open _root_.Option.some renaming inj→cy
open Go.Addr renaming add_lit→cU
open _root_.Int renaming toNat_natCast→ep
open Go.Exit renaming noGoto_ret→ie
open _root_.Bool renaming or_eq_true→ip,true→ti,false→tj
open Go.Ending renaming returned→py,returned→tB
open _root_.Option renaming some→tf,none→th
open Go.Value renaming string→tm,slice→tn,pointer→tr,bool→tt,agg→tv,int→Z
open Go.Obj renaming cells→tA
open Go.IntKind renaming i64→U
open Tryz
theorem eY.cells {w:World}{T d RB k:bj}{c:dP}{a b:bj->bj->bj}(h:eY w T d RB k c a b){q:bj}{v:cw}(e:(gu c d RB)[q]?=tf v):w.cell? ⟨T,q,th⟩=tf v:=by
 rw[bt _ _ _ _ _ _ h.tab];exact e
def G7 (d:World)(G k:bj)(f:bj->bj)(l:bp bj)(c:cw)(wr:World):Prop:=
 ∃q:bj,q<=l.length/\c= Z U (q:aw)/\bP wr G k ((l.take q).foldl qM f)/\Ext (·=G) d wr
theorem BG (w:World)(T o RB k x:bj)(c:dP)(a b:bj->bj->bj)(i:Ins)(h:eY w T o RB k c a b)(hi:c.ins[x]?=tf i)(tR:c.inn w)(hl:i.args.length<=40)(hn:c.ins.length<=90000)(G:k<=90000)
  (uc:(∀r∈readsOf i,0<=r/\r<((64*k:bj):aw))/\((az i).2=ti->0<=(az i).1/\(az i).1<((64*k:bj):aw)))(hb:∀y j,b y j<18446744073709551616):
  fj am 104 #[tr (tf ⟨T,0,th⟩),Z U (x:aw)] w (Stepped w T o RB k c a b x i):=by
 have E:x<c.ins.length:=(bo.1 hi).1;have yy:(x:aw)<(c.ins.length:aw):=by omega
 obtain⟨R,tS,hA,yW,vy⟩:=tR.row (by intro e;rw[e] at E;simp at E);have zc:T<w.heap.size:=(br.1 h.tab).1;have zd:RB<w.heap.size:=(br.1 h.behind).1;have zj:o<w.heap.size:=by obtain⟨zp,h1,_⟩:=h.ahead;exact(br.1 h1).1
 have B4:=(h.words x E).lt;have we:RB+c.ins.length<w.heap.size:=by have:=(h.words (c.ins.length-1) (by omega)).lt;omega
 have HK:cg (∀W,aE w.heap.size w W->W.cell? ⟨T,7,th⟩=tf (tn (tf ⟨R,tS,th⟩) c.ins.length c.insC)/\W.cell? ⟨T,8,th⟩=tf (tn (tf ⟨o,0,th⟩) c.ins.length c.ins.length)/\W.cell? ⟨T,9,th⟩=tf (tn (tf ⟨RB,0,th⟩) c.ins.length c.ins.length)/\
   W.cell? ⟨RB,x,th⟩=tf (tn (tf ⟨RB+1+x,0,th⟩) k k)/\bP W (RB+1+x) k (b x)/\eY W T o RB k c a b/\c.inn W/\W.frozen? ⟨o,x,th⟩=tj/\(∃v,W.cell? ⟨o,x,th⟩=tf v)/\
   ∀j u,i.cells.toList[j]?=tf u->W.cell? ((⟨R,tS+x*13,th⟩:fg).add j)=tf u):=by
  intro W hW;have A:eY W T o RB k c a b:=h.keep (Ext.of_below_size hW) (λ_ h=>h);obtain⟨zp,q1,q2,q3⟩:=A.ahead;obtain⟨g,cp,q4,_,_⟩:=q3 x E;refine⟨A.cells (by rw[<-hA];rfl),A.cells rfl,A.cells rfl, ?_,A.words x E,A,tR.below hW,de _ _ _ _ _ q1,⟨_,by rw[bt _ _ _ _ _ _ q1];exact q4⟩,λj u hu=> ?_⟩
  ·rw[bt _ _ _ _ _ _ A.behind,dR _ _ _ E,cH E]
  ·rw[cU,hW.cell (p:=⟨R,_,th⟩) yW];exact vy x i hi j u hu
 have HI:=zH hi;have wg:=tR.args i (ci hi);have ud:=zH wg;obtain⟨n,tD⟩:=zE c.ins.length;rw[tD] at E yy hn we;have zr:=zH tD;have wj:=zH uc.1;have tU:=zH uc.2;have HB:=zH hb;have HP:cg (∀g cp e w',¬Dm T o RB n g->w.heap.size<=g->aE w.heap.size w w'->bP w' g k (stepW i (b x))->e=py (tt (decide (0<dJ k (stepW i (b x)))))->Stepped w T o RB k c a b x i e (w'.setCell ⟨o,x,th⟩ (tn (tf ⟨g,0,th⟩) k cp))):=by
  intro g cp e w' hg wk wl hr he;refine⟨he, ?_,((Ext.of_below_size wl:Ext (λ_=>lj) w w').mono (λ_ h=>h.elim)).trans (Ext.set1 _ _ _ _) (λ_ h=> .inl h)⟩;have A:=h.keep (Ext.of_below_size wl) (λ_ h=>h);exact A.put (by omega) (by rw[tD];exact hg) hr
 obtain⟨k7,k8,k9,kb,kr,_⟩:=HK.out w (aq _ _);rw[tD] at k7 k8 k9;have KR:=zH kr;obtain⟨N,J⟩:=zE w.heap.size;obtain⟨I,hI⟩:=zE i;rw[hI] at ud wj tU HP HI;have zs:=zH hI;have ws:I.args.length<=40:=by rw[<-hI];exact hl
 obtain⟨⟨⟨ue,up,e1⟩,ur,n2,uv,e2⟩,_⟩:=wg;obtain⟨op,d,ia,ib,f,nn,ux,B5,B6,vc,vd,ln,cl,args⟩:=i;simp only at e1 e2 hl;subst e1 e2;have zv:cg (∀W,aE w.heap.size w W->∀j u,(⟨op,d,ia,ib,f,nn,ux,tn ue args.length up,tn ur n2 uv,vc,vd,ln,cl,args⟩:Ins).cells.toList[j]?=tf u->W.cell? ((⟨R,tS+x*13,th⟩:fg).add j)=tf u):=λW hW=>(HK.out W hW).2.2.2.2.2.2.2.2.2;obtain⟨W1,tE⟩:=zE (w.alloc (tA #[Z U op,Z U d,Z U ia,Z U ib,Z U f,Z U nn,tm ux,tn ue args.length up,tn ur n2 uv,Z U vc,Z U vd,Z U ln,Z U cl] 42));have tW:=ik tE J;have xf:W1.heap.size=N+1:=by rw[<-tE];simp[J]
 have xj:W1.heap[N]?=tf (tA I.cells 42 (0,0)):=by
  rw[<-tE,<-J,<-hI];exact alloc_at _ _
 have HX:cg (∀W,Ext (λq=>N+1<=q) W1 W->aE N w W/\(∀j u,I.cells.toList[j]?=tf u->W.cell? ((⟨N,0,th⟩:fg).add j)=tf u)/\N+1<=W.heap.size):=by
  intro W hx;have h4:=hx.heap xj (by omega);have An:aE N w W:=tW.trans ((hx.below (B:=N+1) (by omega) (λk G=>G)).mono (by omega));refine⟨An,λj u hu=> ?_,(br.1 h4).1⟩;rw[cU,cI,bt _ _ _ _ _ _ h4];simpa using hu
 have At:=zH tE;have xl:=zH xf;have B7:=zH tW;have xo:bP W1 (RB+1+x) k (b x):=KR.out.below tW (by omega);have Ax:=zH xo;rw[J] at zc zd zj we;clear h hi tR hA vy tD uc hb kr tE xf tW xj hI xo;go_enter func104,ntmps104
 go_upto_region 3 with(first|(refine ay rfl 42 _ rfl ⟨R,tS+x*13,th⟩ rfl (⟨op,d,ia,ib,f,nn,ux,tn ue args.length up,tn ur n2 uv,vc,vd,ln,cl,args⟩:Ins).cells _ (zv.out _ (aq _ _)) cA rfl (by kernel_rfl) ?_;simp only[Ins.cells])|(go_at_call 141;rw[At.out];refine(sN _ (RB+1+x) k k (b x) Ax.out G).mono ?_;rintro e w2 ⟨g,cp,rfl,hg,vf,vh⟩))
 clear k7 k8 k9 kb;rw[xl.out] at hg vh;have ua:Ext (λq=>N+1<=q) W1 w2:=Ext.of_below_size (by rw[xl.out];exact vh);have AD:=zH ua;have AE:=zH vf;have AF:=zH (HX.out w2 ua).2.1;have B8:=(HX.out w2 ua).2.2;have wk:g<w2.heap.size:=vf.lt;have vm:=zH (kX I w2 ud.out.1);clear ua vf vh;obtain⟨wd,vp⟩:=zE (az I);rw[vp] at vm tU;have AH:=zH vp;clear vp;obtain⟨dv,wb⟩:=wd;simp only at vm tU
 go_upto_if 32 with(first|(refine ay rfl 42 _ rfl ⟨N,0,th⟩ rfl I.cells _ AF.out cA rfl (by kernel_rfl) ?_)|(go_at_call 142;refine vm.out.mono ?_;rintro e w3 ⟨rfl,ub⟩))
 have xp:Ext (λq=>N+1<=q) W1 w3:=AD.out.trans (Ext.of_below_size ub:Ext (λ_=>lj) w2 w3) (λ_ h=>h.elim);have xr:bP w3 g k (b x):=AE.out.below ub wk;have xt:=zH xr;have xF:=zH xp;have B9:=ub.size;clear xp xr ub;obtain⟨f1,t⟩:∃f1,f1=(if (az I).2=ti then zF (b x) (az I).1.toNat else b x):=⟨_,rfl⟩
 have AI:=zH t;have AK:cg (∀p,f1 p<18446744073709551616):=by
  rw[t];intro p
  split
  ·exact zG (HB.out x) _ p
  ·exact HB.out x p
 rw[AH.out] at t
 go_cut [] (λwc=>bP wc g k f1/\Ext (λq=>N+1<=q) W1 wc/\g<wc.heap.size)
 case first=>
  cases wb with
  |true=>
   simp only[lk] at t;obtain⟨h0,h1⟩:=tU.out rfl;obtain⟨dn,rfl⟩:∃dn:bj,dv=(dn:aw):=⟨dv.toNat,by omega⟩
   simp only[ep] at t;have AM:=zH (uM w3 g k cp dn (b x) xt.out (HB.out x) (by omega) G);have vq:=zH t;clear t h0 h1
   go_wp2_with (go_at_call 143;refine AM.out.mono ?_;rintro e w4 ⟨rfl,xT,tG⟩)
   go_meet
   case rel=>exact⟨by rw[vq.out];exact xT,xF.out.trans tG (λq hq=> .inl (by omega)),xT.lt⟩
  |false=>
   simp only[bw (show¬(tj=ti) by decide)] at t;have vq:=zH t;clear t;go_wp2
   go_meet
   case rel=>exact⟨by rw[vq.out];exact xt.out,xF.out,by omega⟩
 case rest=>
  obtain⟨ya,vr,Cd⟩:=hcut;obtain⟨yb,yd,Cl⟩:=HX.out wc vr;have AN:=zH (mD I wc (ud.out.below (by rw[J];exact yb)) ws);have AS:=zH yd;have AT:=zH ya;have AW:=zH vr;clear ya vr yb yd t
  go_wp2_with (first|(refine ay rfl 42 _ rfl ⟨N,0,th⟩ rfl I.cells _ AS.out cA rfl (by kernel_rfl) ?_)|(go_at_call 144;refine AN.out.mono ?_;rintro e w4 ⟨Cp,CA,rfl,ye,yi⟩))
  have tG:Ext (λ_=>lj) wc w4:=Ext.of_below_size yi;have A1:=zH ye;have yk:=zH (AT.out.ext tG (λh=>h));have A2:cg (Ext (λq=>N+1<=q) W1 w4):=AW.out.trans tG (λ_ h=>h.elim);have CC:=yk.out.lt;have CD:(readsOf I).length<=42:=qi I ws;obtain⟨rs,vt⟩:∃rs,rs=(readsOf I).map Int.toNat:=⟨_,rfl⟩
  have CH:rs.length=(readsOf I).length:=by rw[vt];simp
  have yp:=zH vt;clear ye yi tG vt
  go_loopw [39] (λc wr=>G7 w4 g k f1 rs c wr) (λc _=>(readsOf I).length-(dp c).toNat)
  case atStart=>exact⟨0,cM _,rfl,by simpa using yk.out,Ext.refl _ _⟩
  case round=>
   obtain⟨q,hq,rfl,tM,tP⟩:=hrel
   by_cases A3:q<(readsOf I).length
   ·obtain⟨z,hz⟩:∃z,(readsOf I)[q]?=tf z:=⟨_,ap A3⟩
    obtain⟨h0,h1⟩:=wj.out z (ci hz);obtain⟨K,rfl⟩:∃K:bj,z=(K:aw):=⟨z.toNat,by omega⟩
    obtain⟨g2,rfl,CM,A4,yq⟩:=A1.out.shape (by omega);have CN:wr.cell? ⟨g2,q,th⟩=tf (Z U (K:aw)):=by rw[tP.cell (a:=⟨g2,q,th⟩) A4 (by show¬g2=g;omega)];exact yq q _ hz
    have CT:(q:aw)<((readsOf I).length:aw):=by omega
    have A5:=zH (xK wr g k cp K ((rs.take q).foldl qM f1) tM (sG _ AK.out) (by omega) G);have A6:cg ((rs.take (q+1)).foldl qM f1=qM ((rs.take q).foldl qM f1) K):=by
     unfold cg;have e:rs[q]?=tf K:=by rw[yp.out];simp[hz]
     rw[kA,e,lp];rfl
    have Bk:=zH tP;clear hz h0 h1 yq tM tP
    go_wp2_with (go_at_call 145;refine A5.out.mono ?_;rintro e w5 ⟨rfl,Bm,Bs⟩)
    go_roundw
    case rel=>exact⟨q+1,by omega,by go_num,by rw[A6.out];exact Bm,Bk.out.trans Bs (λ_ h=> .inl h)⟩
    case measure=>simp[dp];omega
   ·have By:q=rs.length:=by omega
    subst By;rw[cL] at tM;have vu:bP wr g k (stepW I (b x)):=by
     have e:stepW I (b x)=rs.foldl qM f1:=by rw[yp.out,AI.out];rfl
     rw[e];exact tM
    have yr:Ext (λq=>N+1<=q) W1 wr:=A2.out.trans tP (λp hp=> .inl (by omega));obtain⟨yv,_,C4⟩:=HX.out wr yr;have vx:aE w.heap.size w wr:=by rw[J];exact yv
    obtain⟨_,k8,_,_,_,_,_,kf,⟨kv,kc⟩,_⟩:=HK.out wr vx;rw[zr.out] at k8;have BE:cg (bP (wr.setCell ⟨o,x,th⟩ (tn (tf ⟨g,0,th⟩) k cp)) g k (stepW I (b x))):=vu.ext (Ext.set1 _ _ _ _) (by show¬g=o;omega);have BT:=zH (sD (wr.setCell ⟨o,x,th⟩ (tn (tf ⟨g,0,th⟩) k cp)) g k cp (stepW I (b x)) BE.out (ll I (HB.out x)) G);have BY:=zH (HP.out g cp _ wr (by unfold Dm;omega) (by omega) vx vu rfl);clear tM tP vu yr yv vx
    go_wp2_with (go_at_call 146;refine BT.out.mono ?_;rintro e w6 ⟨rfl,rfl⟩)
    go_ret;rw[zs.out];exact BY.out
theorem eY.init {w:World}{T d RB k:bj}{c:dP}(f:w.heap[T]?=tf (tA (gu c d RB) 196 (0,0)))
  (g:w.heap[d]?=tf (tA (dK c.ins.length k d c.ins.length) 199 (0,0)))(h:∀i,i<c.ins.length->w.heap[d+1+i]?=tf (tA (di k (λ_=>0)) 245 (0,0)))
  (j:w.heap[RB]?=tf (tA (dK c.ins.length k RB c.ins.length) 199 (0,0)))(o:∀i,i<c.ins.length->w.heap[RB+1+i]?=tf (tA (di k (λ_=>0)) 245 (0,0)))
  (q:d+c.ins.length<RB\/RB+c.ins.length<d)(t:d+c.ins.length<T)(hb:RB+c.ins.length<T):eY w T d RB k c (λ_ _=>0) (λ_ _=>0):=by
 refine⟨f,⟨_,g,gq _ _ _ _,λx e=>⟨d+1+x,k,by rw[dR _ _ _ e,cH e], ?_,bP.of_cells (h x e)⟩⟩,j,λx e=>bP.of_cells (o x e),by omega,by omega,by omega⟩;unfold Dm;omega
structure ED (w:World)(T RA RB:bj)(c:dP)(a b:bj->bj->bj):Prop where
 tab:eY w T RA RB ((c.nvars+63)/64) c a b
 ltA:∀x j,x<c.ins.length->a x j<18446744073709551616
 ltB:∀x j,b x j<18446744073709551616
 says:∀x v,x<c.ins.length->v<c.nvars->(aZ (b x) v=ti↔eD c.ins v x)/\(aZ (a x) v=ti↔qw c.ins v x)
 sound:jR c.ins b
def ou (d RB n q:bj):Prop:=q=d\/(RB<q/\q<=RB+n)
def Cs (T d RB k:bj)(c:dP)(e:World)(m:bj)(wr:World):Prop:=
 ∃a b,eY wr T d RB k c a b/\jR c.ins b/\(∀x j,b x j<18446744073709551616)/\bM c.ins.length k b<=m/\Ext (ou d RB c.ins.length) e wr
def je (d:bp Ins)(k j:bj)(a b:bj->bj->bj):Prop:=
 ∀y i,j<=y->d[y]?=tf i->a y=stepW i (b y)/\∀x∈aP d y,∀q,q<k->b x q|||a y q=b x q
def EY (T f RB k:bj)(c:dP)(g:World)(d:bj->bj->bj)(h o:cw)(wr:World):Prop:=
 ∃(j:bj) (e:ml) (a b:bj->bj->bj),j<=c.ins.length/\o= Z U ((j:aw)-1)/\h= tt e/\eY wr T f RB k c a b/\jR c.ins b/\(∀x j,b x j<18446744073709551616)/\Ext (ou f RB c.ins.length) g wr/\
  bM c.ins.length k b<=bM c.ins.length k d/\(e=ti->bM c.ins.length k b<bM c.ins.length k d)/\(e=tj->b=d/\je c.ins k j a b)
def DJ (T f RB k:bj)(c:dP)(g:World)(d a:bj->bj->bj)(j:bj)(h o:cw)(wr:World):Prop:=
 ∃(q:bj) (e:ml) (b:bj->bj->bj),q<=(aP c.ins j).length/\o= Z U (q:aw)/\h= tt e/\eY wr T f RB k c a b/\jR c.ins b/\(∀x j,b x j<18446744073709551616)/\Ext (ou f RB c.ins.length) g wr/\
  bM c.ins.length k b<=bM c.ins.length k d/\(e=ti->bM c.ins.length k b<bM c.ins.length k d)/\(e=tj->b=d/\(∀i,c.ins[j]?=tf i->a j=stepW i (d j))/\je c.ins k (j+1) a b/\∀x∈(aP c.ins j).take q,∀p,p<k->b x p|||a j p=b x p)
theorem vQ:∀(n x:bj),x<2^n->om x n=0->x=0
 |0,x,h,_=>by simpa using h
 |n+1,x,h,h0=>by
  unfold om at h0;simp only[iq,List.sum_cons] at h0;have d:=vQ n (x/2) (by rw[Nat.pow_succ] at h;omega) (by unfold om;omega);omega
theorem ow {f:bj->bj}(hf:∀i,f i<18446744073709551616):∀(n:bj),dJ n f=0->∀i,i<n->f i=0
 |0,_,i,hi=>by omega
 |n+1,h,i,hi=>by
  rw[kD] at h
  by_cases e:i=n
  ·subst e;exact vQ 64 _ (hf _) (by omega)
  ·exact ow hf n (by omega) i (by omega)
theorem EY.skip {T g RB k j:bj}{c:dP}{t w2:World}{a b d:bj->bj->bj}{f:ml}{i:Ins}(hi:c.ins[j]?=tf i)(h0:dJ k (stepW i (b j))=0)(v:eY w2 T g RB k c (λy=>if y=j then stepW i (b j) else a y) b)(z:jR c.ins b)(hb:∀x j,b x j<18446744073709551616)(A:Ext (ou g RB c.ins.length) t w2)
  (E:bM c.ins.length k b<=bM c.ins.length k d)(G:f=ti->bM c.ins.length k b<bM c.ins.length k d)(u:f=tj->b=d/\je c.ins k (j+1) a b):EY T g RB k c t d (tt f) (Z U ((j:aw)-1)) w2:=by
 refine⟨j,f,_,b,mA (bo.1 hi).1,rfl,rfl,v,z,hb,A,E,G,λh=>⟨(u h).1,λy J R o=> ?_⟩⟩
 by_cases e:y=j
 ·subst e
  rw[hi] at o;obtain rfl:=cy o;simp only[cH];exact⟨trivial,λx _ q K=>by rw[ow (ll i (hb y)) k h0 q K,Nat.or_zero]⟩
 ·simp only[bw e]
  exact(u h).2 y J (by omega) o
theorem DJ.done {T f RB k j:bj}{c:dP}{g wr:World}{a o:bj->bj->bj}{t:cw}{i:Ins}(hi:c.ins[j]?=tf i)(h:DJ T f RB k c g o a j t (Z U ((aP c.ins j).length:aw)) wr):EY T f RB k c g o t (Z U ((j:aw)-1)) wr:=by
 obtain⟨q,v,b,hq,x,rfl,z,A,hb,E,G,J,K⟩:=h;have R:q=(aP c.ins j).length:=by simp at x;omega
 subst R;refine⟨j,v,a,b,mA (bo.1 hi).1,rfl,rfl,z,A,hb,E,G,J,λh=> ?_⟩;obtain⟨e,W,h1,u⟩:=K h;rw[cL] at u;refine⟨e,λy i' hy d=> ?_⟩
 by_cases e':y=j
 ·subst e'
  rw[hi] at d;obtain rfl:=cy d;exact⟨by rw[W _ hi,e],u⟩
 ·exact h1 y i' (by omega) d
theorem EY.final {T d RB:bj}{c:dP}{z wr:World}{A:bj->bj->bj}{f:cw}(hf:Fits c.ins c.nvars)(h:EY T d RB ((c.nvars+63)/64) c z A (tt tj) f wr)(E:f= Z U (-1)):∃a b,ED wr T d RB c a b:=by
 obtain⟨j,ch,a,b,hj,g,G,J,o,hb,t,hr,tE,K⟩:=h;rw[E] at g;have R:j=0:=by simp at g;omega
 subst R;obtain⟨e,u⟩:=K (by simpa using G.symm);have v:∀y i,c.ins[y]?=tf i->a y=stepW i (b y):=λy i hi=>(u y i (cM _) hi).1;refine⟨a,b,J,λx j t=> ?_,hb, ?_,o⟩
 ·rw[v x _ (ap t)];exact ll _ (hb x) j
 ·exact Gr (by omega) hf o (λy i hi q _=>by rw[v y i hi]) (λy x W tD=>(u y _ (cM _) (ap W)).2 x tD)
theorem DJ.start {T o RB k j:bj}{c:dP}{q w2:World}{a b d:bj->bj->bj}{f:ml}{i:Ins}(hi:c.ins[j]?=tf i)(u:eY w2 T o RB k c (λy=>if y=j then stepW i (b j) else a y) b)(v:jR c.ins b)(hb:∀x j,b x j<18446744073709551616)(z:Ext (ou o RB c.ins.length) q w2)
  (A:bM c.ins.length k b<=bM c.ins.length k d)(E:f=ti->bM c.ins.length k b<bM c.ins.length k d)(G:f=tj->b=d/\je c.ins k (j+1) a b):DJ T o RB k c q d (λy=>if y=j then stepW i (b j) else a y) j (tt f) (Z U 0) w2:=by
 refine⟨0,f,b,cM _,rfl,rfl,u,v,hb,z,A,E,λh=> ?_⟩;obtain⟨e,J⟩:=G h;refine⟨e,λt g=> ?_,λy t K g=> ?_,by simp⟩
 ·rw[hi] at g
  obtain rfl:=cy g;simp only[cH,e]
 ·simp only[bw (show y≠j by omega)]
  exact J y t K g
theorem DJ.next {T u RB k j x q:bj}{c:dP}{G wr w2:World}{a b f v:bj->bj->bj}{o:ml}{i:Ins}{nv:bj}(hf:Fits c.ins nv)(hi:c.ins[j]?=tf i)(J:a j=stepW i (v j))(tE:jR c.ins v)(tG:∀x j,v x j<18446744073709551616)
  (z:(aP c.ins j)[q]?=tf x)(ht:eY wr T u RB k c a b)(hs:jR c.ins b)(hb:∀x j,b x j<18446744073709551616)(hx:Ext (ou u RB c.ins.length) G wr)
  (K:bM c.ins.length k b<=bM c.ins.length k f)(tM:o=ti->bM c.ins.length k b<bM c.ins.length k f)
  (tP:o=tj->b=f/\(∀i,c.ins[j]?=tf i->a j=stepW i (f j))/\je c.ins k (j+1) a b/\∀x∈(aP c.ins j).take q,∀p,p<k->b x p|||a j p=b x p)
  (tR:bP w2 (RB+1+x) k (gW (b x) (a j) k))(R:Ext (·=RB+1+x) wr w2):DJ T u RB k c G f a j (tt (eB (b x) (a j) k||o)) (Z U ((q:aw)+1)) w2:=by
 have t:∀p,a j p<18446744073709551616:=by rw[J];exact ll i (tG j)
 have W:=ci z;have tD:x<c.ins.length:=((gp c.ins x j).1 W).1;have A:=Dl (n:=c.ins.length) (k:=k) (x:=x) (b:=b) (g:=a j) hb t tD;have tW:q<(aP c.ins j).length:=(bo.1 z).1;have tS:(λy=>if y=x then gW (b x) (a j) k else b y)=jB b x (a j) k:=rfl;refine⟨q+1,_,jB b x (a j) k,by omega,by simp,rfl,by rw[<-tS];exact ht.grow tD tR R, ?_, ?_, ?_,eN A.1 K,λh=> ?_,λh=> ?_⟩
 ·rw[J];exact BF hf hs hi W tE
 ·intro y p
  unfold jB
  split
  ·exact EA (hb x) t k p
  ·exact hb y p
 ·exact hx.trans R (λp E=> .inl (by unfold ou;omega))
 ·rcases ip _ _▸h with h|h
  ·exact cD (A.2 h) K
  ·exact ld A.1 (tM h)
 ·have h1:eB (b x) (a j) k=tj:=by revert h;cases eB (b x) (a j) k<;>simp
  have h2:o=tj:=by revert h;cases o<;>simp
  have tU:jB b x (a j) k=b:=by
   funext y
   unfold jB
   split
   ·rename_i e;subst e;exact BD (hb _) t h1
   ·rfl
  rw[tU];obtain⟨e1,e2,e3,e4⟩:=tP h2;refine⟨e1,e2,e3,λy d p E=> ?_⟩;rw[kA,z] at d;rcases dg.1 d with d|d
  ·exact e4 y d p E
  ·simp at d;subst d
   exact(mW (hb _) t k).1 h1 p E
theorem eY.of_rows {w2 d:World}{c:dP}{k n f e:bj}(h:c.ins.length=n)(j:w2.heap[f]?=tf (tA (dK n k f n) 199 (0,0)))(o:∀i,i<n->w2.heap[f+1+i]?=tf (tA (di k (λ_=>0)) 245 (0,0)))(u:w2.heap.size=f+1+n)(v:e=w2.heap.size)
  (q:d.heap[e]?=tf (tA (dK n k e n) 199 (0,0)))(t:∀i,i<n->d.heap[e+1+i]?=tf (tA (di k (λ_=>0)) 245 (0,0)))(x:d.heap.size=e+1+n)(hb:aE e w2 d):
  eY (d.alloc (tA (gu c f e) 196)) d.heap.size f e k c (λ_ _=>0) (λ_ _=>0):=by
 have g:∀i,i<d.heap.size->(d.alloc (tA (gu c f e) 196)).heap[i]?=d.heap[i]? :=λi hi=>cE _ _ _ hi;subst h;refine eY.init (alloc_at _ _) ?_ (λi hi=> ?_) ?_ (λi hi=> ?_) (by omega) (by omega) (by omega)
 ·rw[g _ (by omega),hb.block _ (by omega)];exact j
 ·rw[g _ (by omega),hb.block _ (by omega)];exact o i hi
 ·rw[g _ (by omega)];exact q
 ·rw[g _ (by omega)];exact t i hi
def zV (c:dP)(w:World)(e:Ending)(w':World):Prop:=
 ∃T d RB a b,e= tB (tr (tf ⟨T,0,th⟩))/\w.heap.size<=T/\w.heap.size<=RB/\ED w' T d RB c a b/\aE w.heap.size w w'
theorem uO (c:dP)(w:World)(AD:c.inn w)(AE:c.ins.length<=400)(CA:c.nvars<=400)(AF:∀i∈c.ins,i.args.length<=40)(AH:Fits c.ins c.nvars):fj am 57 #[tv c.cells] w (zV c w):=by
 obtain⟨C,hC⟩:=zE c;have HC:=zH hC;have CC:cg (∀i∈C.ins,i.args.length<=40):=by rw[<-hC];exact AF
 have yd:cg (Fits C.ins C.nvars):=by rw[<-hC];exact AH
 have AI:=zH AD;clear AD AH AF;obtain⟨nm,tD,tE,nvars,tG,rp,tM,tP,tR,tS,tU,tW,ua,ins⟩:=c;simp only at AE CA;simp only[dP.cells];obtain⟨n,hn⟩:=zE ins.length;have up:=zH hn;obtain⟨N,hN⟩:=zE w.heap.size;obtain⟨W1,ur⟩:=zE (w.alloc (tA #[tm nm,Z U tD,tn tE nvars tG,tt rp,tm tM,Z U tP,tn tR tS tU,tn tW n ua] 38));have ye:=ik ur hN;have yi:W1.heap.size=N+1:=by rw[<-ur];simp[hN]
 have AK:W1.heap[N]?=tf (tA #[tm nm,Z U tD,tn tE nvars tG,tt rp,tm tM,Z U tP,tn tR tS tU,tn tW n ua] 38 (0,0)):=by
  rw[<-ur,<-hN];exact alloc_at _ _
 have AM:=AI.out.below (by rw[hN];exact ye);have HS:cg (∀W,aE (N+1) W1 W->W.cell? ⟨N,0,th⟩=tf (tm nm)/\W.cell? ⟨N,1,th⟩=tf (Z U tD)/\W.cell? ⟨N,2,th⟩=tf (tn tE nvars tG)/\W.cell? ⟨N,3,th⟩=tf (tt rp)/\W.cell? ⟨N,4,th⟩=tf (tm tM)/\W.cell? ⟨N,5,th⟩=tf (Z U tP)/\W.cell? ⟨N,6,th⟩=tf (tn tR tS tU)/\W.cell? ⟨N,7,th⟩=tf (tn tW n ua)/\aE (N+1) W1 W):=by
  intro W hW;have h4:=(hW.block N (by omega)).trans AK;refine⟨?_, ?_, ?_, ?_, ?_, ?_, ?_, ?_,hW⟩<;>(rw[bt _ _ _ _ _ _ h4];rfl)
 have HK:cg (∀W,aE (N+1) W1 W->C.inn W/\aE N w W/\N+1<=W.heap.size):=by
  intro W hW;exact⟨by rw[<-hC];exact AM.below (by rw[yi];exact hW),ye.trans (hW.mono (by omega)),by have:=hW.size;omega⟩
 have CD:cg (∀W,aE (N+1) W1 W->fj am 103 #[tv #[tm nm,Z U tD,tn tE nvars tG,tt rp,tm tM,Z U tP,tn tR tS tU,tn tW n ua]] W (BC W n (aP ins))):=by
  intro W hb;rw[<-hn];have G:=(HK.out W hb).1.row;rw[<-hC] at G;exact xM ⟨nm,tD,tE,nvars,tG,rp,tM,tP,tR,tS,tU,tW,ua,ins⟩ W G (by show ins.length<=90000;omega)
 have CH:=zH ur;have DS:=zH yi;have D0:N+1<=W1.heap.size:=by omega
 obtain⟨k0,k1,k2,k3,k4,k5,k6,k7,_⟩:=HS.out W1 (aq _ _);have D1:n<=400:=by omega
 clear ye yi AK AM ur AI hC;rw[hn];clear hn AE;go_enter func57,ntmps57;go_wp2;rw[CH.out]
 go_step3
 go_upto_region 1 with(fail)
 go_quiet (fail)
 go_upto_region 2 with(fail)
 obtain⟨A,yk⟩:=zE (W1.drewN nq);have wg:aE (N+1) W1 A:=by rw[<-yk];exact hU (aq _ _) _
 rw[yk];obtain⟨k0,k1,k2,k3,k4,k5,k6,k7,_⟩:=HS.out A wg;have D3:=(HK.out A wg).2.2;have CM:=zH wg;have AN:cg (∀W,fj am 102 #[Z U (n:aw),Z U (nvars:aw)] W (sK W n ((nvars+63)/64) W.heap.size)):=λW=>sM W n nvars (by omega) (by omega);have yp:cg (∀W f,aE (N+1) W1 W->aE W.heap.size W f->f.cell? ⟨N,0,th⟩=tf (tm nm)/\f.cell? ⟨N,1,th⟩=tf (Z U tD)/\f.cell? ⟨N,2,th⟩=tf (tn tE nvars tG)/\f.cell? ⟨N,3,th⟩=tf (tt rp)/\f.cell? ⟨N,4,th⟩=tf (tm tM)/\f.cell? ⟨N,5,th⟩=tf (Z U tP)/\f.cell? ⟨N,6,th⟩=tf (tn tR tS tU)/\f.cell? ⟨N,7,th⟩=tf (tn tW n ua)/\aE (N+1) W1 f):=
  λW f G h2=>HS.out f (G.trans (h2.mono (HK.out W G).2.2))
 clear yk wg
 go_cut [5] (λs5 wc=>∃T d RB,s5= tr (tf ⟨T,0,th⟩)/\eY wc T d RB ((nvars+63)/64) C (λ_ _=>0) (λ_ _=>0)/\N+1<=T/\N+1<=d/\N+1<=RB/\aE (N+1) W1 wc)
 case first=>
  go_region_held3 (λw'=>w'.cell? ⟨N,0,th⟩=tf (tm nm)/\w'.cell? ⟨N,1,th⟩=tf (Z U tD)/\w'.cell? ⟨N,2,th⟩=tf (tn tE nvars tG)/\w'.cell? ⟨N,3,th⟩=tf (tt rp)/\w'.cell? ⟨N,4,th⟩=tf (tm tM)/\w'.cell? ⟨N,5,th⟩=tf (Z U tP)/\w'.cell? ⟨N,6,th⟩=tf (tn tR tS tU)/\w'.cell? ⟨N,7,th⟩=tf (tn tW n ua)/\aE (N+1) W1 w')
   (first|(exact hS)|(exact⟨k0,k1,k2,k3,k4,k5,k6,k7,hU CM.out 1⟩)|(exact yp.out _ _ (by go_split_ands;assumption) ((aq _ _).alloc (cd _) _)))
   (first
    |(go_at_call 102;have D4:=wj;refine(AN.out _).mono ?_;rintro e w3 ⟨rfl,yq,yr,uv,wk⟩;have hS:=yp.out _ _ (by go_split_ands;assumption) wk)
    |(go_at_call 102;refine(AN.out _).mono ?_;rintro e w2 ⟨rfl,wj,yv,ux,AS⟩;have hS:=yp.out _ _ (by go_split_ands;assumption) AS))
  obtain⟨_,_,_,_,_,_,_,_,ub⟩:=hS;have CN:A.drew.heap.size=A.heap.size:=rfl;rw[CN] at wj yv ux;rw[ux] at yq yr uv wk;have HT:cg (eY (w3.alloc (tA (gu C A.heap.size (A.heap.size+1+n)) 196)) w3.heap.size A.heap.size (A.heap.size+1+n) ((nvars+63)/64) C (λ_ _=>0) (λ_ _=>0)):=
   eY.of_rows (n:=n) (by rw[<-HC.out];exact up.out) wj yv ux (by rw[ux]) yq yr uv wk
  rw[uv] at HT;have vc:cg (aE (N+1) W1 w3/\w3.heap.size=A.heap.size+1+n+1+n):=⟨ub,uv⟩
  have AT:gu C A.heap.size (A.heap.size+1+n)=#[tm nm,Z U tD,tn tE nvars tG,tt rp,tm tM,Z U tP,tn tR tS tU,tn tW n ua,tn (tf ⟨A.heap.size,0,th⟩) n n,tn (tf ⟨A.heap.size+1+n,0,th⟩) n n]:=by
   rw[<-HC.out];simp only[gu,up.out]
  rw[AT] at HT;clear wj yv ux yq yr uv AS wk ub AT;go_wp2
  go_meet
  case rel=>exact⟨_,_,_,rfl,HT.out,by omega,by omega,by omega,vc.out.1.alloc (by have:=vc.out.2;omega) _⟩
 case rest=>
  obtain⟨T,d,RB,rfl,AW,hT,Ek,EV,wl⟩:=hcut;obtain⟨k0,k1,k2,k3,k4,k5,k6,k7,_⟩:=HS.out wc wl;have vd:=zH AW;have A1:=zH wl;have CT:=(HK.out wc wl).2.2;clear AW wl
  go_wp2_with (go_at_call 103;refine(CD.out _ A1.out).mono ?_;rintro e o ⟨R,rfl,hR,yy,ub⟩)
  have yW:aE (N+1) W1 o:=A1.out.trans (ub.mono CT);have t:eY o T d RB ((nvars+63)/64) C (λ_ _=>0) (λ_ _=>0):=vd.out.keep (Ext.of_below_size ub:Ext (λ_=>lj) wc o) (λ_ h=>h);have A2:C.ins.length=n:=by rw[<-HC.out];exact up.out
  have E0:T<wc.heap.size:=(br.1 vd.out.tab).1;have E1:d<wc.heap.size:=by obtain⟨C4,G,_⟩:=vd.out.ahead;exact(br.1 G).1
  have E2:RB<wc.heap.size:=(br.1 vd.out.behind).1;have E3:RB+n<wc.heap.size:=by
   by_cases h0:n=0
   ·omega
   ·have:=(vd.out.words (n-1) (by omega)).lt;omega
  have HV:cg (∀y,y<n->∃ao cap,o.cell? ⟨R,y,th⟩=tf (tn ao (aP ins y).length cap)/\∀(q z:bj),(aP ins y)[q]?=tf z->∃g,ao=tf ⟨g,0,th⟩/\R<g/\g<o.heap.size/\o.cell? ⟨g,q,th⟩=tf (Z U (z:aw))):=by
   intro y hy;obtain⟨vals,_,v1,v2,_,v4,_⟩:=yy;obtain⟨v,hv⟩:∃v,vals[y]?=tf v:=⟨_,n8 (by omega)⟩
   have ho:=v4 y v hv;obtain⟨ao,cap,rfl⟩:=ho.isSlice;have J:(ints (aP ins y)).length=(aP ins y).length:=by simp[ints]
   refine⟨ao,cap,by rw[bt _ _ _ _ _ _ v2,hv,J],λq z hz=> ?_⟩;obtain⟨g,e,G,h2,h3⟩:=ho.shape (by rw[J];have:=(bo.1 hz).1;omega);exact⟨g,e,by omega,h2,h3 q z (by simp[ints,hz])⟩
  have C5:R<o.heap.size:=by obtain⟨vals,_,_,v2,_⟩:=yy;exact(br.1 v2).1
  have A3:N+1<=o.heap.size:=(HK.out o yW).2.2;have vc:=zH yW;have C6:=zH t;have u:=zH A2;clear ub yW t yy A2 k0 k1 k2 k3 k4 k5 k6 k7
  go_step3
  go_wp2;obtain⟨k,hk⟩:∃k,k=(nvars+63)/64:=⟨_,rfl⟩
  go_loopg [8] (bM n k (λ_ _=>0)) (λm s8 wr=>Cs T d RB k C o m wr)
  case atStart=>exact⟨_,_,by rw[hk];exact C6.out,by intro x v _ h;simp[aZ] at h,by intro x j;decide,by rw[u.out];exact cd _,Ext.refl _ _⟩
  case round=>
   obtain⟨a0,b0,A4,A5,A6,Bk,Bm⟩:=hrel;have C7:cg (EY T d RB k C o b0 (tt tj) (Z U ((n:aw)-1)) wr):=
    ⟨n,tj,a0,b0,by rw[u.out];exact cd _,rfl,rfl,A4,A5,A6,Bm,cd _,(λh=>by cases h),λ_=>⟨rfl,λy i hy hi=>fz (bo.1 hi).1 (by rw[u.out];omega)⟩⟩
   have Dd:=zH Bk;clear A4 A5 A6 Bk Bm;have Dg:=zH hk;have Bs:k<=90000:=by omega
   have E4:nvars<=64*k:=by omega
   clear hk;go_wp2
   go_loopw [8,9] (λs8 s9 Do=>EY T d RB k C o b0 s8 s9 Do) (λ_ s9 _=>(dp s9+1).toNat)
   case atStart=>exact C7.out
   case round=>
    rename_i E6 _
    obtain⟨j,ch,a,b,hj,rfl,rfl,ht,hs,J,hx,vf,uc,vh⟩:=hrel;rw[u.out] at hj;cases j with
    |zero=>
     have e:(((0:bj):aw)-1)= -1:=by omega
     rw[e];have ws:EY T d RB k C o b0 (tt ch) (Z U (-1)) wr:=⟨0,ch,a,b,cM _,by simp,rfl,ht,hs,J,hx,vf,uc,vh⟩
     have ud:aE (N+1) W1 wr:=vc.out.trans (hx.below A3 (λq E=>by unfold ou at E;rw[u.out] at E;omega));cases ch with
     |true=>
      have xf:=zH (uc rfl);have HG:cg (Cs T d RB k C o (bM C.ins.length k b) wr):=⟨a,b,ht,hs,J,cd _,hx⟩
      clear ws ud ht hs J hx vf uc vh e;go_wp2
      go_roundg (bM C.ins.length k b)
      case measure=>exact cD xf.out Dd.out
      case rel=>exact HG.out
     |false=>
      have HG:cg (zV C w (tB (tr (tf ⟨T,0,th⟩))) wr):=by
       have vm:C.nvars=nvars:=by rw[<-HC.out]
       rw[Dg.out,<-vm] at ws;obtain⟨K,b',Ds⟩:=ws.final yd.out rfl;exact⟨T,d,RB,K,b',rfl,by omega,by omega,Ds,by rw[hN];exact(HK.out wr ud).2.1⟩
      clear ws ud ht hs J hx vf uc vh e;go_wp2
      try rw[ie]
      go_ret;rw[HC.out];exact HG.out
    |succ j=>
     have e:(((j+1:bj):aw)-1)=(j:aw):=by omega
     rw[e];have zc:j<n:=by omega
     obtain⟨i,hi⟩:∃i,C.ins[j]?=tf i:=⟨_,ap (by rw[u.out];exact zc)⟩
     have zd:=ci hi;have ud:aE (N+1) W1 wr:=vc.out.trans (hx.below A3 (λq E=>by unfold ou at E;rw[u.out] at E;omega));have vp:=yd.out i zd;have vm:C.nvars=nvars:=by rw[<-HC.out]
     have xj:=zH (BG wr T d RB k j C a b i ht hi (HK.out wr ud).1 (CC.out i zd) (by rw[u.out];omega) Bs ⟨λr hr=>⟨(vp.1 r hr).1,by have:=(vp.1 r hr).2;rw[vm] at this;omega⟩,λh=>⟨(vp.2 h).1,by have:=(vp.2 h).2;rw[vm] at this;omega⟩⟩ J);have HI:=zH hi;have zj:=zH hs;have xl:=zH J;have zp:=zH hx;have By:=zH vf;have xf:=zH uc;have BE:=zH vh;clear hi zd ud vp vm hs J hx vf uc vh ht e
     by_cases zr:dJ k (stepW i (b j))=0
     ·have hd:decide (0<dJ k (stepW i (b j)))=tj:=cm (by omega)
      have DA:=zH zr;have xo:cg (fj am 104 #[tr (tf ⟨T,0,th⟩),Z U (j:aw)] wr λe w'=>e= tB (tt tj)/\eY w' T d RB k C (λy=>if y=j then stepW i (b j) else a y) b/\Ext (·=d) wr w'):=
       xj.out.mono λe w' h=>by unfold Stepped at h;rw[hd] at h;exact h
      clear xj zr hd
      go_wp2_with (go_at_call 104;refine xo.out.mono ?_;rintro e w2 ⟨rfl,xp,vq⟩)
      refine⟨EY.skip HI.out DA.out xp zj.out xl.out (zp.out.trans vq (λq E=> .inl (.inl E))) By.out xf.out BE.out,by simp[dp]⟩
     ·have hd:decide (0<dJ k (stepW i (b j)))=ti:=cR (by omega)
      have xo:cg (fj am 104 #[tr (tf ⟨T,0,th⟩),Z U (j:aw)] wr λe w'=>e= tB (tt ti)/\eY w' T d RB k C (λy=>if y=j then stepW i (b j) else a y) b/\Ext (·=d) wr w'):=
       xj.out.mono λe w' h=>by unfold Stepped at h;rw[hd] at h;exact h
      obtain⟨ao,cap,BT,BY⟩:=HV.out j zc;have B4:∀w2,Ext (·=d) wr w2->w2.cell? ⟨R,j,th⟩=tf (tn ao (aP ins j).length cap):=λw2 h2=>by
       have DB:Ext (ou d RB C.ins.length) o w2:=zp.out.trans h2 (λq E=> .inl (.inl E));rw[DB.cell (a:=⟨R,j,th⟩) C5 (by show¬ou d RB C.ins.length R;unfold ou;rw[u.out];omega)];exact BT
      have B5:=zH B4;have DE:=zH BY;have E7:(aP ins j).length<=900:=by have:=xN ins j;have:=up.out;omega
      have Fc:(j:aw)<(n:aw):=by omega
      have vr:cg (C.ins=ins):=by unfold cg;rw[<-HC.out]
      clear xj zr hd BT B4 BY
      go_upto_if 40 with(go_at_call 104;refine xo.out.mono ?_;rintro e w2 ⟨rfl,xp,vq⟩)
      have B6:=B5.out w2 vq;have B7:cg (DJ T d RB k C o b0 (λy=>if y=j then stepW i (b j) else a y) j (tt ch) (Z U 0) w2):=DJ.start HI.out xp zj.out xl.out (zp.out.trans vq (λq E=> .inl (.inl E))) By.out xf.out BE.out;clear xp vq xo B5;obtain⟨K,zs⟩:=zE (λy=>if y=j then stepW i (b j) else a y);rw[zs] at B7;have B8:cg (K j=stepW i (b j)):=by rw[<-zs];simp[cg]
      have DG:cg (∀p,K j p<18446744073709551616):=by rw[B8.out];exact ll i (xl.out j)
      clear zs;go_wp2
      go_loopw [8,46] (λs8 zv DH=>DJ T d RB k C o b0 K j s8 zv DH) (λ_ zv _=>(aP ins j).length-(dp zv).toNat)
      case atStart=>exact B7.out
      case round=>
       rename_i Fi _
       obtain⟨q,An,b2,E,rfl,rfl,t,xr,vt,vu,xt,xF,vx⟩:=hrel;rw[vr.out] at E
       by_cases DM:q<(aP ins j).length
       ·obtain⟨x,xT⟩:∃x,(aP ins j)[q]?=tf x:=⟨_,ap DM⟩
        have At:x<n:=by have:=((gp ins x j).1 (ci xT)).1;have:=up.out;omega
        obtain⟨g2,rfl,Fk,DO,B9⟩:=DE.out q x xT;have Fl:wr.cell? ⟨g2,q,th⟩=tf (Z U (x:aw)):=by
         rw[vu.cell (a:=⟨g2,q,th⟩) DO (by show¬ou d RB C.ins.length g2;unfold ou;rw[u.out];omega)];exact B9
        have Fm:(q:aw)<((aP ins j).length:aw):=by omega
        have Fo:(x:aw)<(n:aw):=by omega
        obtain⟨C4,q1,q2,q3⟩:=t.ahead;obtain⟨g,cp,q4,q5,q6⟩:=q3 j (by rw[u.out];exact zc);have c1:wr.cell? ⟨T,8,th⟩=tf (tn (tf ⟨d,0,th⟩) n n):=t.cells (by rw[<-u.out];rfl);have c2:wr.cell? ⟨T,9,th⟩=tf (tn (tf ⟨RB,0,th⟩) n n):=t.cells (by rw[<-u.out];rfl);have c3:wr.cell? ⟨RB,x,th⟩=tf (tn (tf ⟨RB+1+x,0,th⟩) k k):=by
         rw[bt _ _ _ _ _ _ t.behind,u.out,dR _ _ _ At,cH At]
        have c4:wr.cell? ⟨d,j,th⟩=tf (tn (tf ⟨g,0,th⟩) k cp):=by rw[bt _ _ _ _ _ _ q1];exact q4
        have DP:g≠RB+1+x:=λe=>q5 (by rw[u.out];unfold Dm;omega);have s1:=t.s1;have s2:=t.s2;have s3:=t.s3;rw[u.out] at s2 s3;have Cd:=t.words x (by rw[u.out];exact At);have ya:=zH (uN wr.drew (RB+1+x) g k k cp (b2 x) (K j) DP (Cd.keep rfl) (q6.keep rfl) (vt x) DG.out Bs);have lT:T<wr.heap.size:=(br.1 t.tab).1;have lA:d<wr.heap.size:=(br.1 q1).1;have lB:RB<wr.heap.size:=(br.1 t.behind).1;have Cl:cg (∀f,Ext (·=RB+1+x) wr.drew f->f.cell? ⟨T,8,th⟩=tf (tn (tf ⟨d,0,th⟩) n n)/\f.cell? ⟨T,9,th⟩=tf (tn (tf ⟨RB,0,th⟩) n n)/\f.cell? ⟨RB,x,th⟩=tf (tn (tf ⟨RB+1+x,0,th⟩) k k)/\f.cell? ⟨d,j,th⟩=tf (tn (tf ⟨g,0,th⟩) k cp)):=by
         intro f yb;refine⟨?_, ?_, ?_, ?_⟩
         ·rw[yb.cell (a:=⟨T,8,th⟩) lT (by show¬T=RB+1+x;omega)];exact c1
         ·rw[yb.cell (a:=⟨T,9,th⟩) lT (by show¬T=RB+1+x;omega)];exact c2
         ·rw[yb.cell (a:=⟨RB,x,th⟩) lB (by show¬RB=RB+1+x;omega)];exact c3
         ·rw[yb.cell (a:=⟨d,j,th⟩) lA (by show¬d=RB+1+x;omega)];exact c4
        have Ax:cg (∀f,bP f (RB+1+x) k (gW (b2 x) (K j) k)->Ext (·=RB+1+x) wr.drew f->DJ T d RB k C o b0 K j (tt (eB (b2 x) (K j) k||An)) (Z U ((q:aw)+1)) f):=λf G h2=>
         DJ.next yd.out HI.out B8.out zj.out xl.out (by rw[vr.out];exact xT) t xr vt vu xt xF vx G (((Ext.refl _ wr).drew).trans h2 (λ_ h=> .inl h))
        obtain⟨nb,Cp⟩:=zE (eB (b2 x) (K j) k);unfold Joined at ya;rw[Cp] at ya Ax;clear Cp t xr vt vu xt xF vx B9 q1 q2 q3 q4 q5 q6 Cd xT B6;cases nb with
        |true=>
         clear Cl;go_wp2
         first
         |go_region_law (go_simp;go_at_call 105;refine ya.out.mono ?_;rintro e w4 ⟨rfl,vy,ue⟩)
         |fail
         all_goals
          have we:=zH (Ax.out w4 vy ue);rw[Bool.true_or] at we;clear vy ue;go_wp2;exact⟨we.out,by simp[dp];omega⟩
        |false=>
         go_wp2
         go_region_held3 (λw'=>w'.cell? ⟨T,8,th⟩=tf (tn (tf ⟨d,0,th⟩) n n)/\w'.cell? ⟨T,9,th⟩=tf (tn (tf ⟨RB,0,th⟩) n n)/\w'.cell? ⟨RB,x,th⟩=tf (tn (tf ⟨RB+1+x,0,th⟩) k k)/\w'.cell? ⟨d,j,th⟩=tf (tn (tf ⟨g,0,th⟩) k cp))
          (first|(exact hS)|(exact⟨c1,c2,c3,c4⟩))
          (first|(go_at_call 105;refine ya.out.mono ?_;rintro e w4 ⟨rfl,vy,ue⟩;have hS:=Cl.out _ ue))
         have we:=zH (Ax.out w4 vy ue);rw[Bool.false_or] at we;clear hS vy ue;go_wp2;exact⟨we.out,by simp[dp];omega⟩
       ·have DQ:q=(aP ins j).length:=by omega
        subst DQ;have HD:cg (EY T d RB k C o b0 (tt An) (Z U ((j:aw)-1)) wr):=
         DJ.done HI.out ⟨_,An,b2,(by rw[vr.out];exact cd _),(by rw[vr.out]),rfl,t,xr,vt,vu,xt,xF,(by rw[vr.out] at vx⊢;exact vx)⟩
        clear t xr vt vu xt xF vx B6;go_wp2;exact⟨HD.out,by simp[dp]⟩
end Go.Proofs.YtjomgckjhcfbgaaGreat
